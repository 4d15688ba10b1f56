import Derived.Test.YtoccgpddmhhlgaaU
namespace Go.Str
open Go.Crc
theorem pbind_inv {α β : Type} {p : Par α} {f : α → Par β} {l : List UInt8} {y : β} {r : List UInt8} (h : pbind p f l = some (y, r)) : ∃ x r', p l = some (x, r') ∧ f x r' = some (y, r) := by
  unfold pbind at h
  split at h
  · cases h
  · rename_i x r' hp; exact ⟨x, r', hp, h⟩
theorem pNum_lt {n x : Nat} {l r : List UInt8} (h : pNum n l = some (x, r)) : x < 256 ^ n := by
  unfold pNum at h
  split at h
  · rename_i hl
    cases h
    have := deL_lt (l.take n)
    rwa [List.length_take, Nat.min_eq_left hl] at this
  · cases h
theorem pRec_small {l r : List UInt8} {x : Rec × Nat} (h : pRec l = some (x, r)) : x.2 < 4294967296 := by
  obtain ⟨_, _, _, h⟩ := pbind_inv h
  obtain ⟨_, _, _, h⟩ := pbind_inv h
  obtain ⟨_, _, _, h⟩ := pbind_inv h
  obtain ⟨c, _, hc, h⟩ := pbind_inv h
  unfold pret at h
  cases h
  exact pNum_lt hc
theorem pRecs_small : ∀ (n : Nat) {l r : List UInt8} {xs : List (Rec × Nat)}, pRecs n l = some (xs, r) → ∀ x ∈ xs, x.2 < 4294967296
  | 0, _, _, _, h, x, hx => by unfold pRecs pret at h; cases h; cases hx
  | n + 1, _, _, _, h, x, hx => by
    unfold pRecs at h
    obtain ⟨y, _, hy, h⟩ := pbind_inv h
    obtain ⟨ys, _, hys, h⟩ := pbind_inv h
    unfold pret at h
    cases h
    rcases List.mem_cons.1 hx with rfl | hx
    · exact pRec_small hy
    · exact pRecs_small n hys x hx
theorem form_inv {b : List UInt8} {x : Raw} (h : formB b = some x) : pAll b = some (x, []) ∧ right x.strm = true := by
  unfold formB at h
  split at h
  · rename_i z hz
    split at h
    · rename_i hc; cases h; exact ⟨hz, hc.2.1⟩
    · cases h
  · cases h
theorem form_small {b : List UInt8} {x : Raw} (h : formB b = some x) : (∀ r ∈ x.recs, r.2 < 4294967296) ∧ x.last < 4294967296 ∧ 4 ≤ b.length := by
  have hp := (form_inv h).1
  have h4 := (pAll_last b x hp).1
  unfold pAll at hp
  obtain ⟨_, _, _, hp⟩ := pbind_inv hp
  obtain ⟨_, _, _, hp⟩ := pbind_inv hp
  obtain ⟨_, _, _, hp⟩ := pbind_inv hp
  obtain ⟨n, _, _, hp⟩ := pbind_inv hp
  obtain ⟨l, _, hl, hp⟩ := pbind_inv hp
  obtain ⟨c, _, hc, hp⟩ := pbind_inv hp
  unfold pret at hp
  cases hp
  exact ⟨pRecs_small n hl, pNum_lt hc, h4⟩
theorem form_length {b : List UInt8} {x : Raw} (h : formB b = some x) : x.recs.length ≤ 4096 := by
  have := (right_mem (form_inv h).2).2.2.1
  unfold Raw.strm at this
  simpa using this
theorem form_data {b : List UInt8} {x : Raw} (h : formB b = some x) (i : Nat) (hi : i < x.recs.length) : (x.strm.recs.getD i default).data.length ≤ 65536 + 15 := by
  have hm := right_mem (form_inv h).2
  have hmem : x.strm.recs.getD i default ∈ x.strm.recs := by
    have hi' : i < x.strm.recs.length := by unfold Raw.strm; simpa using hi
    rw [List.getD_eq_getElem?_getD, List.getElem?_eq_getElem hi']; exact List.getElem_mem _
  have := hm.2.2.2.2 _ hmem
  unfold Rec.n at this
  omega
end Go.Str
namespace Go.Proofs.Ytoccgpddmhhlgaa
open Go.RowKit Go.Mx Go.Crc Go.Str

/-- what stream.Get hands back -/
def GP (b : List UInt8) (w : World) (e : Ending) (w' : World) : Prop :=
  Below w.heap.size w w' ∧ (((getB b).2 ≠ 0 ∧ e = .returned (.tuple #[.agg #[.bool false, .int .i64 0, .slice none 0 0], .int .i64 ((getB b).2 : Nat)])) ∨
    ∃ rv ps, (getB b).2 = 0 ∧ right (getB b).1 = true ∧ ps.map (·.1) = (getB b).1.recs ∧ e = .returned (.tuple #[strmV (getB b).1 rv, .int .i64 0]) ∧
      w'.ownsRow w.heap.size 47 2 rv ps.length (flatP ps) ∧ (∀ y ∈ ps, OwnB w' w.heap.size 5 y.2 y.1.data))

theorem row_base {w : World} {base base' s n : Nat} {e : TypeId} {v : Value} {xs : List Value} (h : w.ownsRow base e s v n xs) (hb : base' ≤ base) : w.ownsRow base' e s v n xs := by
  refine ⟨h.1, ?_⟩
  rcases h.2 with hn | ⟨g, cap, cur, rfl, hbg, rest⟩
  · exact .inl hn
  · exact .inr ⟨g, cap, cur, rfl, by omega, rest⟩

set_option maxRecDepth 100000 in
set_option maxHeartbeats 4000000 in
theorem sget_any (b : List UInt8) (bv : Value) (w : World) (hb : SlB w w.heap.size bv b) (hl : b.length ≤ 1000000) :
    Calls Try.prog 26 #[bv] w (GP b w) := by
  have hlb := fun w' => hb.len (P := Try.prog) (ty := 3) Try.underlying25 w'
  obtain ⟨w1, hw1⟩ : ∃ w1, w1 = w.alloc (.cells #[.bool false, .int .i64 0, .slice none 0 0] 39) := ⟨_, rfl⟩
  have hb1 : Below w.heap.size w w1 := by rw [hw1]; exact (Below.refl _ _).alloc (Nat.le_refl _) _
  have hr1 : w1.heap[w.heap.size]? = some (.cells #[.bool false, .int .i64 0, .slice none 0 0] 39 (0, 0)) := by rw [hw1]; exact alloc_new w _
  have hsb := (hb.below hb1 (Nat.le_refl _)).mono hb1.size
  have HC := hid (read_any b bv w1 hsb hl)
  have H1 := hid (And.intro hb1 (And.intro hr1 hsb))
  have H1B := hid hb1.size
  clear hb hb1 hr1 hsb
  go_enter Try.func26, Try.ntmps26
  go_wp2_with fail
  rw [← hw1]
  clear hw1
  refine HC.out.mono ?_
  rintro e w2 ⟨hb2, ⟨hf, f, z, sa, sn, sc, zv, rfl⟩ | ⟨x, rv, zv, ps, hf, hps, he, ho, hd, hz⟩⟩
  · have hg : getB b = (⟨false, 0, []⟩, 3) := by unfold getB; rw [hf]
    have HG := hid hg
    have hr2 := (hb2.block _ (blk_lt H1.out.2.1)).trans H1.out.2.1
    obtain ⟨d0, d1, d2, g0, g1, g2⟩ := res_cells hr2
    have hlt := blk_lt hr2
    have HB := hid (H1.out.1.trans (hb2.mono H1.out.1.size))
    clear HC H1 hb2 hf hg hr2
    go_wp2_with fail
    rw [setCell_self d0, setCell_self d1, setCell_self d2]
    have k := (Below.refl w2.heap.size w2).alloc (Nat.le_refl _) (.cells #[.bool f, .int .i64 z, .slice sa sn sc] 39)
    have u0 := (k.cell (p := ⟨w.heap.size, 0, none⟩) hlt).trans d0
    have u1 := (k.cell (p := ⟨w.heap.size, 1, none⟩) hlt).trans d1
    have u2 := (k.cell (p := ⟨w.heap.size, 2, none⟩) hlt).trans d2
    exact bodyPost_ret (v := .tuple #[.agg #[.bool false, .int .i64 0, .slice none 0 0], .int .i64 3]) (by simp [results, Try.results26, go_sem, u0, u1, u2]) rfl ⟨HB.out.trans (k.mono HB.out.size), .inl ⟨by rw [HG.out]; simp, by rw [HG.out]; rfl⟩⟩
  · obtain ⟨hs1, hs2, hs4⟩ := form_small hf
    have hln := form_length hf
    have HDL := hid (form_data hf)
    have HG := hid (show getB b = if x.sums = true ∧ (Crc.sum (b.take (b.length - 4))).toNat = x.last then (x.strm, 0) else (⟨false, 0, []⟩, 13) by unfold getB; rw [hf])
    have HRT := hid (form_inv hf).2
    have hr2 := (hb2.block _ (blk_lt H1.out.2.1)).trans H1.out.2.1
    obtain ⟨ra, rn, rc, rfl⟩ := row_slice ho
    have hrl : x.strm.recs.length = x.recs.length := by unfold Raw.strm; simp
    have hrg : ∀ i, i < x.recs.length → x.strm.recs.getD i default = (x.recs.getD i (default, 0)).1 := by
      intro i hi
      unfold Raw.strm
      simp [List.getD_eq_getElem?_getD, List.getElem?_eq_getElem hi]
    have hslr := OwnPs.slR ho hd
    rw [hps] at hslr
    obtain ⟨S, hS⟩ : ∃ S, S = x.strm := ⟨_, rfl⟩
    rw [← hS] at hslr hrl hrg HDL HG HRT hps he
    obtain ⟨f, z, l⟩ := S
    simp only at hslr hrl hrg HDL hps
    unfold strmV at he
    simp only at he
    subst he
    have HX := hid (And.intro hS (And.intro hf hps))
    have HO := hid (And.intro ho hd)
    have HB2 := hid (And.intro hb2 (And.intro hr2 (And.intro hslr (And.intro hz.slI (H1.out.1.trans (hb2.mono H1.out.1.size))))))
    have HSM := hid (And.intro hs1 (And.intro hrl hrg))
    have hsb2 := (H1.out.2.2.below hb2 (Nat.le_refl _)).mono hb2.size
    have HSB := hid hsb2
    clear HC H1 hb2 hf hps hr2 hslr hz hrl hrg hs1 hsb2 ho hd
    obtain rfl : rn = l.length := by obtain ⟨rows, h1, ⟨_, _, he, _⟩, _⟩ := HB2.out.2.2.1; cases he; exact h1
    clear hS
    obtain ⟨w3, hw3⟩ : ∃ w3, w3 = w2.alloc (.cells #[.bool f, .int .i64 z, .slice ra l.length rc] 39) := ⟨_, rfl⟩
    have hb3 : Below w2.heap.size w2 w3 := by rw [hw3]; exact (Below.refl _ _).alloc (Nat.le_refl _) _
    have hq3 : w3.heap[w2.heap.size]? = some (.cells #[.bool f, .int .i64 z, .slice ra l.length rc] 39 (0, 0)) := by rw [hw3]; exact alloc_new w2 _
    have H3 := hid (And.intro hb3 hq3)
    clear hb3 hq3
    have hl4 : l.length ≤ 4096 := by rw [HSM.out.2.1]; exact hln
    go_wp2_with fail
    rw [← hw3]
    clear hw3
    go_loopw [21] (fun i wr => ∃ k : Nat, k ≤ l.length ∧ i = .int .i64 k ∧ Below w3.heap.size w3 wr ∧ Hid (∀ j, j < k → (Crc.sum (l.getD j default).data).toNat = (x.recs.getD j (default, 0)).2)) (fun i _ => l.length - (intOf i).toNat)
    case atStart => exact ⟨0, by omega, rfl, Below.refl _ _, fun j h => absurd h (Nat.not_lt_zero _)⟩
    case round =>
      obtain ⟨k, hk, rfl, hbr, HE⟩ := hrel
      have hb2r : Below w2.heap.size w2 wr := H3.out.1.trans (hbr.mono H3.out.1.size)
      by_cases hlt : k < l.length
      · obtain ⟨b1, o1, dv, hbb, hi1, c0, c1, hsd⟩ := (HB2.out.2.2.1.below hb2r (Nat.le_refl _)).at k hlt
        obtain ⟨b2, o2, hbb2, hi2, e0⟩ := (HB2.out.2.2.2.1.below hb2r (Nat.le_refl _)).addr (P := Try.prog) Try.underlying77 (fun w => by kernel_rfl) k (by rw [HSM.out.2.1] at hlt; simp; omega)
        have hk' : k < x.recs.length := by rw [← HSM.out.2.1]; exact hlt
        have hse : (x.recs.map (fun r => (r.2 : Int)) ++ [(x.last : Int)]).getD k 0 = ((x.recs.getD k (default, 0)).2 : Int) := by
          simp [List.getD_eq_getElem?_getD, List.getElem?_append_left, hk']
        rw [hse] at e0
        have hs32 : (x.recs.getD k (default, 0)).2 < 4294967296 := HSM.out.1 _ (by rw [List.getD_eq_getElem?_getD, List.getElem?_eq_getElem hk']; exact List.getElem_mem _)
        have hdl := HDL.out k hk'
        obtain ⟨s, hs⟩ : ∃ s, s = (x.recs.getD k (default, 0)).2 := ⟨_, rfl⟩
        obtain ⟨r, hr⟩ : ∃ r, r = l.getD k default := ⟨_, rfl⟩
        rw [← hs] at e0 hs32
        rw [← hr] at c0 hsd hdl
        have HSR := hid (And.intro hs hr)
        clear hs hr hse
        obtain ⟨at_, dat⟩ := r
        simp only at c0 hsd hdl
        obtain ⟨da, dn, dc, rfl⟩ : ∃ oa n c, dv = .slice oa n c := by obtain ⟨oa1, cp1, hv1, _⟩ := hsd; exact ⟨_, _, _, hv1⟩
        obtain ⟨y, hy⟩ : ∃ y, y = wr.alloc (.cells #[.int .i64 at_, .slice da dn dc] 47) := ⟨_, rfl⟩
        have hby : Below wr.heap.size wr y := by rw [hy]; exact (Below.refl _ _).alloc (Nat.le_refl _) _
        have hqy : y.heap[wr.heap.size]? = some (.cells #[.int .i64 at_, .slice da dn dc] 47 (0, 0)) := by rw [hy]; exact alloc_new wr _
        have hsdy : SlB y y.heap.size (.slice da dn dc) dat := (hsd.below hby hb2r.size).mono (by have := hb2r.size; have := hby.size; omega)
        have F1 : ∀ w', Below y.heap.size y w' → w'.cell? ⟨wr.heap.size, 1, none⟩ = some (.slice da dn dc) := fun w' hb => (hb.cell (p := ⟨wr.heap.size, 1, none⟩) (blk_lt hqy)).trans (by simp [World.cell?, hqy])
        have F2 : ∀ w', Below y.heap.size y w' → w'.cell? ⟨b2, o2, none⟩ = some (.int .i64 s) := fun w' hb => (hb.cell (p := ⟨b2, o2, none⟩) (by show b2 < _; have := hb2r.size; have := hby.size; omega)).trans ((hby.cell (p := ⟨b2, o2, none⟩) (by show b2 < _; have := hb2r.size; omega)).trans e0)
        have hwr : IntKind.u32.wrap (s : Int) = s := by rw [IntKind.wrap_u32']; omega
        have HY := hid (And.intro hsdy (hbr.trans (hby.mono hbr.size)))
        clear hsd hsdy hby hqy e0
        obtain ⟨g, hg⟩ : ∃ g, g = Crc.sum dat := ⟨_, rfl⟩
        have HGG := hid hg
        clear hg
        by_cases heq : g.toNat = s
        · have ecmp : ((g.toNat : Int) != (s : Int)) = false := by rw [bne_eq_false_iff_eq]; omega
          have HEQ := hid heq
          clear heq
          go_wp2_with fail
          rw [← hy]
          clear hy c0 c1 hi1
          go_wp2_with fail
          go_region_held (fun w' => Below y.heap.size y w') (first | exact (Below.refl _ _).drew | assumption | exact Below.drew (by assumption)) (first
            | (go_at_call 36; refine (sum_any dat _ _ ((HY.out.1.below (by assumption) (Nat.le_refl _)).mono (Below.size (by assumption))) (by omega)).mono ?_; rintro e y5 ⟨rfl, hb5⟩; have hb5' : Below y.heap.size y y5 := Below.trans (by assumption) (hb5.mono (Below.size (by assumption))); rw [← HGG.out]))
          have HB5 := hid (HY.out.2.trans (hb5'.mono HY.out.2.size))
          have HE' := hid (show ∀ j, j < k + 1 → (Crc.sum (l.getD j default).data).toNat = (x.recs.getD j (default, 0)).2 from fun j hj => by
            rcases Nat.lt_or_ge j k with h | h
            · exact HE.out j h
            · obtain rfl : j = k := by omega
              rw [← HSR.out.1, ← HSR.out.2, ← HGG.out]; exact HEQ.out)
          clear hb5 hb5' HE F1 F2
          go_wp2_with fail
          go_roundw
          case rel => exact ⟨k + 1, by omega, by go_num, HB5.out, HE'⟩
          case measure => simp [intOf]; omega
        · have ecmp : ((g.toNat : Int) != (s : Int)) = true := by rw [bne_iff_ne]; omega
          have HEQ := hid heq
          clear heq
          go_wp2_with fail
          rw [← hy]
          clear hy c0 c1 hi1
          go_wp2_with fail
          go_region_held (fun w' => Below y.heap.size y w') (first | exact (Below.refl _ _).drew | assumption | exact Below.drew (by assumption)) (first
            | (go_at_call 36; refine (sum_any dat _ _ ((HY.out.1.below (by assumption) (Nat.le_refl _)).mono (Below.size (by assumption))) (by omega)).mono ?_; rintro e y5 ⟨rfl, hb5⟩; have hb5' : Below y.heap.size y y5 := Below.trans (by assumption) (hb5.mono (Below.size (by assumption))); rw [← HGG.out]))
          have HB5 := hid (HY.out.2.trans (hb5'.mono HY.out.2.size))
          have hR5 := ((H3.out.1.trans (HB5.out.mono H3.out.1.size)).block _ (blk_lt HB2.out.2.1)).trans HB2.out.2.1
          obtain ⟨r0, r1, r2, g0, g1, g2⟩ := res_cells hR5
          clear hb5 hb5' F1 F2 hR5
          go_wp2_with fail
          rw [setCell_self r0, setCell_self r1, setCell_self r2]
          have hno : getB b = (⟨false, 0, []⟩, 13) := by
            rw [HG.out, if_neg]
            intro hh
            apply HEQ.out
            have hall := hh.1
            unfold Raw.sums at hall
            rw [List.all_eq_true] at hall
            have := hall (x.recs.getD k (default, 0)) (by rw [List.getD_eq_getElem?_getD, List.getElem?_eq_getElem hk']; exact List.getElem_mem _)
            rw [decide_eq_true_eq, ← HSM.out.2.2 k hk', ← HSR.out.1, ← HSR.out.2, ← HGG.out] at this
            exact this
          exact bodyPost_ret (v := .tuple #[.agg #[.bool false, .int .i64 0, .slice none 0 0], .int .i64 13]) (by simp [results, Try.results26, go_sem, r0, r1, r2]) rfl
            ⟨HB2.out.2.2.2.2.trans ((H3.out.1.trans (HB5.out.mono H3.out.1.size)).mono HB2.out.2.2.2.2.size), .inl ⟨by rw [hno]; simp, by rw [hno]; rfl⟩⟩
      · obtain rfl : k = l.length := by omega
        have hsums : x.sums = true := by
          unfold Raw.sums
          rw [List.all_eq_true]
          intro r hr
          obtain ⟨i, hi, rfl⟩ := List.getElem_of_mem hr
          rw [decide_eq_true_eq]
          have h1 := HE.out i (by rw [HSM.out.2.1]; exact hi)
          rw [HSM.out.2.2 i hi] at h1
          simpa [List.getD_eq_getElem?_getD, List.getElem?_eq_getElem hi] using h1
        have HG2 : Hid (getB b = if (Crc.sum (b.take (b.length - 4))).toNat = x.last then (⟨f, z, l⟩, 0) else (⟨false, 0, []⟩, 13)) := by
          refine HG.out.trans ?_
          by_cases hc : (Crc.sum (b.take (b.length - 4))).toNat = x.last
          · rw [if_pos ⟨hsums, hc⟩, if_pos hc]
          · rw [if_neg (fun h => hc h.2), if_neg hc]
        clear hsums HE HG
        have hsbr := HSB.out.below hb2r (Nat.le_refl _)
        obtain ⟨v', hv', hsl⟩ := hsbr.to (P := Try.prog) Try.underlying25 size5 (b.length - 4) (by omega)
        have hsl' : ∀ (w' : World) (k : IntKind), (Instr.slice 25 bv none (some (.int k ((b.length : Int) - 4))) none).run Try.prog w' = .ok v' w' := by
          rw [show (b.length : Int) - 4 = ((b.length - 4 : Nat) : Int) by omega]; exact hsl
        have hzlen := fun w' => (HB2.out.2.2.2.1.below hb2r (Nat.le_refl _)).len (P := Try.prog) (ty := 3) Try.underlying77 w'
        rw [show (x.recs.map (fun r => (r.2 : Int)) ++ [(x.last : Int)]).length = l.length + 1 by simp [HSM.out.2.1]] at hzlen
        have hzlen' : ∀ (w' : World), (Builtin.len_ #[77] 3 #[zv]).run Try.prog w' = .ok (.int .i64 ((l.length : Int) + 1)) w' := by simpa using hzlen
        obtain ⟨b2, o2, hbb2, hi2, e0⟩ := (HB2.out.2.2.2.1.below hb2r (Nat.le_refl _)).addr (P := Try.prog) Try.underlying77 (fun w => by kernel_rfl) l.length (by simp [HSM.out.2.1])
        have hse : (x.recs.map (fun r => (r.2 : Int)) ++ [(x.last : Int)]).getD l.length 0 = (x.last : Int) := by
          rw [HSM.out.2.1, List.getD_eq_getElem?_getD, List.getElem?_append_right (by simp)]; simp
        rw [hse] at e0
        have hw1' : IntKind.i64.wrap ((b.length : Int) - 4) = (b.length : Int) - 4 := IntWalk.i64_in _ (by omega)
        have hw2' : IntKind.i64.wrap (l.length : Int) = l.length := IntWalk.i64_in _ (by omega)
        have hw3' : IntKind.u32.wrap (x.last : Int) = x.last := by rw [IntKind.wrap_u32']; omega
        obtain ⟨tk, htk⟩ : ∃ tk, tk = b.take (b.length - 4) := ⟨_, rfl⟩
        have htl : tk.length ≤ 1000000 := by rw [htk]; simp; omega
        rw [← htk] at hv' HG2
        have HV := hid (hv'.mono hb2r.size)
        have F2 : ∀ w', Below wr.heap.size wr w' → w'.cell? ⟨b2, o2, none⟩ = some (.int .i64 x.last) := fun w' hb => (hb.cell (p := ⟨b2, o2, none⟩) (by show b2 < _; have := hb2r.size; omega)).trans e0
        obtain ⟨ls, hls⟩ : ∃ ls, ls = x.last := ⟨_, rfl⟩
        rw [← hls] at F2 hw3' HG2
        obtain ⟨g, hg⟩ : ∃ g, g = Crc.sum tk := ⟨_, rfl⟩
        rw [← hg] at HG2
        have HGG := hid hg
        clear hg hls hse hsl hzlen hv' htk e0 hsbr
        by_cases heq : g.toNat = ls
        · have ecmp : ((g.toNat : Int) != (ls : Int)) = false := by rw [bne_eq_false_iff_eq]; omega
          have HEQ := hid heq
          clear heq
          go_wp2_with fail
          go_region_held (fun w' => Below wr.heap.size wr w') (first | exact (Below.refl _ _).drew | assumption | exact Below.drew (by assumption)) (first
            | (go_at_call 36; refine (sum_any tk _ _ ((HV.out.below (by assumption) (Nat.le_refl _)).mono (Below.size (by assumption))) (by omega)).mono ?_; rintro e y5 ⟨rfl, hb5⟩; have hb5' : Below wr.heap.size wr y5 := Below.trans (by assumption) (hb5.mono (Below.size (by assumption))); rw [← HGG.out]))
          have hb35 := hbr.trans (hb5'.mono hbr.size)
          have hb25 := H3.out.1.trans (hb35.mono H3.out.1.size)
          have hR5 := (hb25.block _ (blk_lt HB2.out.2.1)).trans HB2.out.2.1
          have hq5 := (hb35.block _ (blk_lt H3.out.2)).trans H3.out.2
          obtain ⟨r0, r1, r2, g0, g1, g2⟩ := res_cells hR5
          have s0 : y5.cell? ⟨w2.heap.size, 0, none⟩ = some (.bool f) := by simp [World.cell?, hq5]
          have s1 : y5.cell? ⟨w2.heap.size, 1, none⟩ = some (.int .i64 z) := by simp [World.cell?, hq5]
          have s2 : y5.cell? ⟨w2.heap.size, 2, none⟩ = some (.slice ra l.length rc) := by simp [World.cell?, hq5]
          have k : Kept y5 (((y5.setCell ⟨w.heap.size, 0, none⟩ (.bool f)).setCell ⟨w.heap.size, 1, none⟩ (.int .i64 z)).setCell ⟨w.heap.size, 2, none⟩ (.slice ra l.length rc)) (· ≠ w.heap.size) :=
            ((Kept.set y5 _ _ _ fun hn => hn rfl).trans (.set _ _ _ _ fun hn => hn rfl)).trans (.set _ _ _ _ fun hn => hn rfl)
          have t0 := heap_set1 _ w.heap.size 2 (.slice ra l.length rc) _ _ _ (heap_set1 _ w.heap.size 1 (.int .i64 z) _ _ _ (heap_set1 y5 w.heap.size 0 (.bool f) _ _ _ hR5))
          have tb := (((HB2.out.2.2.2.2.trans (hb25.mono HB2.out.2.2.2.2.size)).setCell (p := ⟨w.heap.size, 0, none⟩) (Nat.le_refl _) (.bool f)).setCell (p := ⟨w.heap.size, 1, none⟩) (Nat.le_refl _) (.int .i64 z)).setCell (p := ⟨w.heap.size, 2, none⟩) (Nat.le_refl _) (.slice ra l.length rc)
          have kb : Kept w2 y5 (fun _ => True) := ⟨hb25.size, fun j hj _ => hb25.block j hj⟩
          have o5 := ownsRow_kept HO.out.1 kb (fun _ _ => trivial)
          have d5 := fun y' hy' => (HO.out.2 y' hy').kept kb (fun _ _ => trivial)
          have of := ownsRow_kept o5 k fun j e => by rintro rfl; exact ownsRow_not o5 hR5 (by decide) e
          have df : ∀ y' ∈ ps, OwnB (((y5.setCell ⟨w.heap.size, 0, none⟩ (.bool f)).setCell ⟨w.heap.size, 1, none⟩ (.int .i64 z)).setCell ⟨w.heap.size, 2, none⟩ (.slice ra l.length rc)) w1.heap.size 5 y'.2 y'.1.data := fun y' hy' => (d5 y' hy').kept k fun j e => by rintro rfl; exact (d5 y' hy').not_block hR5 (by decide) e
          have HFIN := hid (And.intro t0 (And.intro tb (And.intro of df)))
          clear t0 tb of df k kb o5 d5 hq5 hR5 hb25 hb35 hb5 hb5' F2 hsl' hi2 hzlen'
          go_wp2_with fail
          obtain ⟨zf, hzf⟩ : ∃ zf, zf = ((y5.setCell ⟨w.heap.size, 0, none⟩ (.bool f)).setCell ⟨w.heap.size, 1, none⟩ (.int .i64 z)).setCell ⟨w.heap.size, 2, none⟩ (.slice ra l.length rc) := ⟨_, rfl⟩
          rw [← hzf] at HFIN ⊢
          clear hzf
          have t0 : zf.heap[w.heap.size]? = some (.cells #[.bool f, .int .i64 z, .slice ra l.length rc] 39 (0, 0)) := HFIN.out.1
          have u0 : zf.cell? ⟨w.heap.size, 0, none⟩ = some (.bool f) := by simp [World.cell?, t0]
          have u1 : zf.cell? ⟨w.heap.size, 1, none⟩ = some (.int .i64 z) := by simp [World.cell?, t0]
          have u2 : zf.cell? ⟨w.heap.size, 2, none⟩ = some (.slice ra l.length rc) := by simp [World.cell?, t0]
          have hG : getB b = (⟨f, z, l⟩, 0) := HG2.out.trans (if_pos HEQ.out)
          exact bodyPost_ret (v := .tuple #[.agg #[.bool f, .int .i64 z, .slice ra l.length rc], .int .i64 0]) (by simp [results, Try.results26, go_sem, u0, u1, u2]) rfl
            ⟨HFIN.out.2.1, .inr ⟨.slice ra l.length rc, ps, by rw [hG], by rw [hG]; exact HRT.out, by rw [hG]; exact HX.out.2.2, by rw [hG]; rfl, row_base HFIN.out.2.2.1 H1B.out, fun y' hy' => (HFIN.out.2.2.2 y' hy').any_base H1B.out⟩⟩
        · have ecmp : ((g.toNat : Int) != (ls : Int)) = true := by rw [bne_iff_ne]; omega
          have HEQ := hid heq
          clear heq
          go_wp2_with fail
          go_region_held (fun w' => Below wr.heap.size wr w') (first | exact (Below.refl _ _).drew | assumption | exact Below.drew (by assumption)) (first
            | (go_at_call 36; refine (sum_any tk _ _ ((HV.out.below (by assumption) (Nat.le_refl _)).mono (Below.size (by assumption))) (by omega)).mono ?_; rintro e y5 ⟨rfl, hb5⟩; have hb5' : Below wr.heap.size wr y5 := Below.trans (by assumption) (hb5.mono (Below.size (by assumption))); rw [← HGG.out]))
          have hb25 := H3.out.1.trans ((hbr.trans (hb5'.mono hbr.size)).mono H3.out.1.size)
          have hR5 := (hb25.block _ (blk_lt HB2.out.2.1)).trans HB2.out.2.1
          obtain ⟨r0, r1, r2, g0, g1, g2⟩ := res_cells hR5
          have HB25 := hid (HB2.out.2.2.2.2.trans (hb25.mono HB2.out.2.2.2.2.size))
          clear hb5 hb5' hb25 hR5 F2 hsl' hi2 hzlen'
          go_wp2_with fail
          rw [setCell_self r0, setCell_self r1, setCell_self r2]
          have hno : getB b = (⟨false, 0, []⟩, 13) := HG2.out.trans (if_neg HEQ.out)
          exact bodyPost_ret (v := .tuple #[.agg #[.bool false, .int .i64 0, .slice none 0 0], .int .i64 13]) (by simp [results, Try.results26, go_sem, r0, r1, r2]) rfl
            ⟨HB25.out, .inl ⟨by rw [hno]; simp, by rw [hno]; rfl⟩⟩
end Go.Proofs.Ytoccgpddmhhlgaa
