import Derived.Test.YtoccgpddmhhlgaaBM
namespace Go.Proofs.Ytoccgpddmhhlgaa
open Go.RowKit Go.Mx Go.Crc Go.Str Go.Bun
set_option linter.unusedSimpArgs false
set_option linter.unusedVariables false

def prt (p : Itm) : Prt := ⟨p.name, p.data⟩
/-- parts that the call owns, with their bytes -/
structure Gp (w : World) (base : Nat) (v : Value) (l : List Itm) (dvs : List Value) : Prop where
  len : dvs.length = l.length
  own : OwnG w base 35 2 v (List.zipWith (fun p d => prow p.name d) l dvs)
  dat : ∀ i, i < l.length → OwnB w base 5 (dvs.getD i undef) (l.getD i default).data
theorem Gp.nil (w : World) (base : Nat) : Gp w base (.slice none 0 0) [] [] := ⟨rfl, OwnG.nil _ _ _ _, fun i hi => by simp at hi⟩
section
variable {w w' : World} {base : Nat} {v v' : Value} {l : List Itm} {dvs : List Value}
theorem Gp.below (h : Gp w base v l dvs) (hb : Below w.heap.size w w') : Gp w' base v l dvs := ⟨h.len, h.own.below hb (Nat.le_refl _), fun i hi => (h.dat i hi).below hb (h.dat i hi).lt⟩
theorem Gp.sl (h : Gp w base v l dvs) : SlPt w w.heap.size v (l.map prt) := by
  refine ⟨_, ?_, h.own.slG, fun i hi => ?_⟩
  · simp [h.len]
  · have hl := h.len
    simp only [List.length_map] at hi
    have e : (l.map prt).getD i default = prt (l.getD i default) := by simp [List.getD_eq_getElem?_getD, List.getElem?_map, List.getElem?_eq_getElem hi]
    rw [e]
    refine ⟨dvs.getD i undef, ?_, (h.dat i hi).slB⟩
    simp [List.getD_eq_getElem?_getD, List.getElem?_zipWith, List.getElem?_eq_getElem hi, List.getElem?_eq_getElem (show i < dvs.length by omega), prow, prt]
theorem Gp.snoc (h : Gp w base v l dvs) (p : Itm) (dv : Value) (hd : OwnB w base 5 dv p.data) (hg : w.grownBy w' v.ownBlock)
    (ho : OwnG w' base 35 2 v' (List.zipWith (fun p d => prow p.name d) l dvs ++ [prow p.name dv])) : Gp w' base v' (l ++ [p]) (dvs ++ [dv]) := by
  have hk : Kept w w' (fun k => v.ownBlock ≠ some k) := Kept.grown hg fun k hk hn => hn hk
  refine ⟨by simp [h.len], ?_, fun i hi => ?_⟩
  · rw [zip_snoc _ _ _ _ _ h.len.symm]; exact ho
  · simp only [List.length_append, List.length_cons, List.length_nil] at hi
    rcases Nat.lt_or_ge i l.length with hlt | hge
    · have e1 : (l ++ [p]).getD i default = l.getD i default := by simp [List.getD_eq_getElem?_getD, List.getElem?_append_left hlt]
      have e2 : (dvs ++ [dv]).getD i undef = dvs.getD i undef := by simp [List.getD_eq_getElem?_getD, List.getElem?_append_left (show i < dvs.length by rw [h.len]; exact hlt)]
      rw [e1, e2]; exact (h.dat i hlt).kept hk (ownsRow_apart (h.dat i hlt) h.own.1 (by decide))
    · have hi' : i = l.length := by omega
      have e1 : (l ++ [p]).getD i default = p := by simp [List.getD_eq_getElem?_getD, hi']
      have e2 : (dvs ++ [dv]).getD i undef = dv := by rw [hi', ← h.len]; simp [List.getD_eq_getElem?_getD]
      rw [e1, e2]; exact hd.kept hk (ownsRow_apart hd h.own.1 (by decide))
end
def NotOwn (v : Value) (k : Nat) : Prop := v.ownBlock ≠ some k
def AllOk (its : List Itm) : Prop := ∀ k, k < its.length → (sum (its.getD k default).data).toNat = (its.getD k default).s
def GRes (its : List Itm) (e : Ending) (w' : World) : Prop :=
  (AllOk its ∧ ∃ v, e = .returned (.tuple #[v, .int .i64 0]) ∧ SlPt w' w'.heap.size v (its.map prt)) ∨ (¬ AllOk its ∧ e = .returned (.tuple #[.slice none 0 0, .int .i64 13]))

set_option maxRecDepth 100000 in
set_option maxHeartbeats 4000000 in
theorem bget_any (its : List Itm) (hg : Good its) (bv : Value) (w : World) (hb : SlB w w.heap.size bv (bunB its)) :
    Calls Try.prog 28 #[bv] w fun e w' => Below w.heap.size w w' ∧ GRes its e w' := by
  have HG := hid hg
  have hf := hg.few
  obtain ⟨w2, hw2⟩ : ∃ w2, w2 = w.alloc (.cells (rcells bv (.slice none 0 0) 0 0 0 0) 95) := ⟨_, rfl⟩
  have hb2 : Below w.heap.size w w2 := by rw [hw2]; exact (Below.refl _ _).alloc (Nat.le_refl _) _
  have hz2 : w2.heap.size = w.heap.size + 1 := by rw [hw2]; simp
  have hr2 : Rdr w2 w.heap.size bv (.slice none 0 0) 0 0 0 0 := by rw [hw2]; exact alloc_new w _
  have HX := hid (bindex_any its hg w.heap.size bv w2 hr2 (hb.below hb2 (Nat.le_refl _)))
  have HB := hid (And.intro hb hb2)
  obtain ⟨oa, nn, cp, rfl⟩ := slB_shape hb
  unfold rcells at hw2
  clear hb hb2 hg hr2
  go_enter Try.func28, Try.ntmps28
  go_wp2_with fail
  rw [← hw2]
  clear hw2
  refine HX.out.mono ?_
  rintro e w3 ⟨rv, rfl, hix⟩
  have hz3 := hix.kept.size
  have hb3 : Below w.heap.size w w3 := HB.out.2.trans (hix.bel.mono (Nat.le_refl _))
  have hrv : ∃ oa n c, rv = .slice oa n c := by
    rcases hix.own.shape with ⟨rfl, _⟩ | ⟨g, c, rfl, _⟩
    · exact ⟨_, _, _, rfl⟩
    · exact ⟨_, _, _, rfl⟩
  obtain ⟨ra, rn, rc, rfl⟩ := hrv
  have hln := hix.own.slG.len (P := Try.prog) (ty := 3) Try.under93
  rw [irows_len] at hln
  have HI := hid (And.intro hix hb3)
  clear hix hb3
  go_wp2_with fail
  go_loopw [7, 8, 26] (fun a l i wr => ∃ (k : Nat) (dvs : List Value), k ≤ its.length ∧ a = .int .i64 (from_ its k) ∧ i = .int .i64 k ∧ Gp wr w3.heap.size l (its.take k) dvs ∧ Below w3.heap.size w3 wr) (fun _ _ i _ => its.length - (intOf i).toNat)
  case atStart => exact ⟨0, [], by omega, by simp [from_, dat], rfl, Gp.nil _ _, Below.refl _ _⟩
  case round =>
    obtain ⟨k, dvs, hk, rfl, rfl, hG, hbl⟩ := hrel
    by_cases hlt : k < its.length
    · obtain ⟨b, o, hbb, hia, i0, i1, i2, i3⟩ := irow_at (HI.out.1.own.slG.below hbl (Nat.le_refl _)) k hlt
      have hrow := hid (And.intro (from_mono its k hlt) (And.intro (data_at its k hlt) (And.intro (from_succ its k hlt) (takeD' its k default hlt))))
      obtain ⟨it, hit⟩ : ∃ x, x = its.getD k default := ⟨_, rfl⟩
      rw [← hit] at i0 i2 i3
      have HT := hid hit
      obtain ⟨s, da, sm⟩ := it
      simp only at i0 i2 i3
      obtain ⟨X, hX⟩ : ∃ x, x = from_ its k := ⟨_, rfl⟩
      obtain ⟨D, hD⟩ : ∃ x, x = da.length := ⟨_, rfl⟩
      rw [← hX] at i1 ⊢
      rw [← hD] at i2
      have HXX := hid hX
      have hfm := hrow.out.1
      have hda := hrow.out.2.1
      rw [← HT.out, ← HXX.out] at hfm hda
      simp only at hfm hda
      rw [← hD] at hfm hda
      have hbs := end_len its
      have hsh := HG.out.short
      have hfe : fromOf its ≤ endOf its := by have := pos_end its 0; rw [pos_zero] at this; exact this
      have hbz := hbl.size
      obtain ⟨w6, hw6⟩ : ∃ x, x = wr.alloc (.cells #[.string ⟨s.toArray⟩, .int .i64 X, .int .i64 D, .int .u32 sm] 99) := ⟨_, rfl⟩
      have hb6 : Below wr.heap.size wr w6 := by rw [hw6]; exact (Below.refl _ _).alloc (Nat.le_refl _) _
      have hz6 := hb6.size
      have hq : w6.heap[wr.heap.size]? = some (.cells #[.string ⟨s.toArray⟩, .int .i64 X, .int .i64 D, .int .u32 sm] 99 (0, 0)) := by rw [hw6]; exact alloc_new wr _
      have hql : wr.heap.size < w6.heap.size := (Array.getElem?_eq_some_iff.1 hq).1
      have hb06 : Below w.heap.size w w6 := HI.out.2.trans ((hbl.trans (hb6.mono hbz)).mono HI.out.2.size)
      have hbb6 := (HB.out.1.below hb06 (Nat.le_refl _)).mono hb06.size
      obtain ⟨v6, hv6, hs6⟩ := hbb6.part (P := Try.prog) (t := 25) Try.underlying25 size5 X (X + D) (by omega) (by omega)
      rw [show ((bunB its).take (X + D)).drop X = da by rw [List.drop_take, ← atB_eq, show X + D - X = D by omega]; exact hda] at hv6
      have hs6' : ∀ w' (k k' : IntKind), (Instr.slice 25 (.slice oa nn cp) (some (.int k (X : Int))) (some (.int k' ((X : Int) + (D : Int)))) none).run Try.prog w' = .ok v6 w' := fun w' k k' => hs6 w' k k'
      have hwX : IntKind.i64.wrap ((X : Int) + (D : Int)) = (X : Int) + D := IntWalk.i64_in _ (by omega)
      have hno : NotOwn u8 wr.heap.size := fun h => Nat.lt_irrefl _ (hG.own.lt _ h)
      have c0 : w6.cell? ⟨wr.heap.size, 0, none⟩ = some (.string ⟨s.toArray⟩) := by simp [World.cell?, hq]
      have c1 : w6.cell? ⟨wr.heap.size, 1, none⟩ = some (.int .i64 X) := by simp [World.cell?, hq]
      have c2 : w6.cell? ⟨wr.heap.size, 2, none⟩ = some (.int .i64 D) := by simp [World.cell?, hq]
      have M0 : ∀ w', Kept w6 w' (NotOwn u8) → w'.cell? ⟨wr.heap.size, 0, none⟩ = some (.string ⟨s.toArray⟩) := fun w' h => (h.cell hql hno).trans (by simp [World.cell?, hq])
      have MX : ∀ w', Kept w6 w' (NotOwn u8) → w'.cell? ⟨wr.heap.size, 1, none⟩ = some (.int .i64 X) := fun w' h => (h.cell hql hno).trans (by simp [World.cell?, hq])
      have MD : ∀ w', Kept w6 w' (NotOwn u8) → w'.cell? ⟨wr.heap.size, 2, none⟩ = some (.int .i64 D) := fun w' h => (h.cell hql hno).trans (by simp [World.cell?, hq])
      have hv6X : SlB (w6.drew.alloc (.cells #[] 5)) w6.heap.size v6 da := hv6.below ((Below.refl w6.heap.size w6).drew.alloc (Nat.le_refl _) _) (Nat.le_refl _)
      have hdl : da.length ≤ 524288 := by omega
      have hll : ([] : List UInt8).length + da.length ≤ 140737488355328 := by simp; omega
      have hBX : w6.heap.size ≤ (w6.drew.alloc (.cells #[] 5)).heap.size := by simp
      have hmp := own_empty w6.drew 5
      have hlr : (List.zipWith (fun (p : Itm) d => prow p.name d) (its.take k) dvs).length ≤ 16 := by simp; omega
      have HGp := hid (And.intro (hG.below hb6) (And.intro (hbl.trans (hb6.mono hbz)) hD))
      have hown := (hG.below hb6).own
      obtain ⟨rows, hrows⟩ : ∃ r, r = List.zipWith (fun (p : Itm) d => prow p.name d) (its.take k) dvs := ⟨_, rfl⟩
      rw [← hrows] at hown hlr
      have HRW := hid hrows
      have hz63 : w3.heap.size ≤ w6.heap.size := by omega
      have h40 : (rows.length + 1) * 40 ≤ 140737488355328 := by omega
      have h41 : rows.length + 1 ≤ 140737488355328 := by omega
      have hlv : ∃ oa n c, u8 = .slice oa n c := by
        rcases hown.shape with ⟨e, _⟩ | ⟨g, c, e, _⟩
        · exact ⟨_, _, _, e⟩
        · exact ⟨_, _, _, e⟩
      obtain ⟨la, ln, lc, rfl⟩ := hlv
      have HQ := hid (And.intro hq hno)
      clear hfm hda hbs hsh hfe hb06 hbb6 hs6 hrows hG hbl hit hX hD hq hno
      go_wp2_with fail
      rw [← hw6]
      clear hw6
      go_region_held3 (fun w' => Kept w6 w' (NotOwn (.slice la ln lc))) (first | exact Kept.drew _ _ | assumption | exact Kept.trans (Kept.drew _ _) (Kept.alloc _ _ _) | exact Kept.trans (by assumption) (Kept.alloc _ _ _) | exact Kept.trans (by assumption) (Kept.drew _ _))
        (first
          | (refine step_append_g _ (by rfl) _ _ 22 35 _ 2 40 rfl Try.underlying22 Try.info35 rfl (by decide) w3.heap.size _ rows rfl hownY w7.heap.size 1 (prow s (.slice va vn vc)) rfl rfl (row_cells w7 (prow s (.slice va vn vc)) 35) (prow_one s va vn vc) h40 h41 hBY ?_; intro v8 w8 ho8 hg8 hb8; have hk8 := Kept.trans (Kept.trans hk7 (Kept.alloc w7 _ (NotOwn (.slice la ln lc)))) (Kept.grown hg8 fun k hk hn => hn hk))
          | (refine step_append_sl _ (by rfl) _ _ 25 5 rfl Try.underlying25 Try.info5 w6.heap.size _ [] rfl hmp v6 da w6.heap.size rfl hv6X hll hBX ?_; intro v7 w7 ho7 hb7; have hsh7 := slB_shape ho7.slB; obtain ⟨va, vn, vc, rfl⟩ := hsh7; have hb7 := ((Below.refl w6.heap.size w6).drew.alloc (Nat.le_refl _) (.cells #[] 5)).trans hb7; have hk7 : Kept w6 w7 (NotOwn (.slice la ln lc)) := Kept.of_below hb7 fun _ h _ => h; have hownY := (hown.below hb7 (Nat.le_refl _)).below ((Below.refl w7.heap.size w7).alloc (Nat.le_refl _) (.cells (prow s (.slice va vn vc)).toArray 35)) (Nat.le_refl _); have hBY : w3.heap.size ≤ (w7.alloc (.cells (prow s (.slice va vn vc)).toArray 35)).heap.size := Nat.le_trans hz63 (Nat.le_trans hb7.size (by simp))))
      have ha7 := (Below.refl w7.heap.size w7).alloc (Nat.le_refl _) (.cells (prow s (.slice va vn vc)).toArray 35)
      have hd7 : OwnB (w7.alloc (.cells (prow s (.slice va vn vc)).toArray 35)) w3.heap.size 5 (.slice va vn vc) da := OwnB.below ((by simpa using ho7 : OwnB w7 _ 5 (.slice va vn vc) da).any_base hz63) ha7 (OwnB.lt ho7)
      rw [HRW.out] at ho8
      have hg8' := ((HGp.out.1.below hb7).below ha7).snoc ⟨s, da, sm⟩ _ hd7 hg8 ho8
      rw [HT.out, ← hrow.out.2.2.2] at hg8'
      have hb38 : Below w3.heap.size w3 w8 := HGp.out.2.1.trans ((hb7.mono hz63).trans ((ha7.mono (Nat.le_trans hz63 hb7.size)).trans hb8))
      have HG8 := hid (And.intro hg8' hb38)
      have HFS := hid (hrow.out.2.2.1)
      clear ho8 hg8 hb8 hk8 hownY hBY hk7 hb7 ho7 ha7 hd7 hg8' hb38 hmp hown c0 c1 c2 M0 MX MD hv6X hv6 hs6' i0 i1 i2 i3 hia hrow
      go_wp2_with fail
      go_roundw
      case rel => exact ⟨k + 1, _, by omega, by rw [HFS.out, ← HXX.out, ← HT.out, ← HGp.out.2.2]; simp, by go_num, HG8.out⟩
      case measure => simp [intOf]; omega
    · obtain rfl : k = its.length := by omega
      rw [List.take_length] at hG
      rw [from_end]
      have rd := hG
      obtain ⟨_, _, _, _, c5, _, _⟩ := Rdr.cells ((hbl.block w.heap.size (blk_lt HI.out.1.rd)).trans HI.out.1.rd)
      have hgl := (hG.sl).len (ty := 3)
      rw [List.length_map] at hgl
      obtain ⟨Fo, hFo⟩ : ∃ F, F = fromOf its := ⟨_, rfl⟩
      rw [← hFo] at c5 ⊢
      obtain ⟨w5, hw5⟩ : ∃ x, x = wr := ⟨_, rfl⟩
      subst hw5
      have hlv : ∃ oa n c, u8 = .slice oa n c := by
        rcases hG.own.shape with ⟨e, _⟩ | ⟨g, c, e, _⟩
        · exact ⟨_, _, _, e⟩
        · exact ⟨_, _, _, e⟩
      obtain ⟨la, ln, lc, rfl⟩ := hlv
      have HGG := hid (And.intro hG.sl hbl)
      clear hFo hG hbl rd
      go_wp2_with fail
      go_loopw [64] (fun i wr => ∃ k : Nat, k ≤ its.length ∧ i = .int .i64 k ∧ Hid (∀ t, t < k → (sum (its.getD t default).data).toNat = (its.getD t default).s) ∧ Below w5.heap.size w5 wr) (fun i _ => its.length - (intOf i).toNat)
      case atStart => exact ⟨0, by omega, rfl, hid fun t ht => by omega, Below.refl _ _⟩
      case round =>
        obtain ⟨k, hk, rfl, hok, hbl⟩ := hrel
        by_cases hlt : k < its.length
        · have hb35 := HGG.out.2
          obtain ⟨b, o, hbb, hia, i0, i1, i2, i3⟩ := irow_at (HI.out.1.own.slG.below (hb35.trans (hbl.mono hb35.size)) (Nat.le_refl _)) k hlt
          obtain ⟨b', o', dv, hbb', hia', j0, j1, hdv⟩ := (HGG.out.1.below hbl (Nat.le_refl _)).at k (by simpa using hlt)
          have ep : (its.map prt).getD k default = prt (its.getD k default) := by simp [List.getD_eq_getElem?_getD, List.getElem?_map, List.getElem?_eq_getElem hlt]
          rw [ep] at hdv j0
          obtain ⟨it, hit⟩ : ∃ x, x = its.getD k default := ⟨_, rfl⟩
          rw [← hit] at i0 i2 i3 hdv j0
          have HT := hid hit
          have hdl : it.data.length ≤ 524288 := by
            have := from_mono its k hlt
            have := end_len its
            have := HG.out.short
            have : fromOf its ≤ endOf its := by have := pos_end its 0; rw [pos_zero] at this; exact this
            rw [hit]; omega
          obtain ⟨s, da, sm⟩ := it
          simp only [prt] at i0 i2 i3 hdv hdl j0
          obtain ⟨X, hX⟩ : ∃ x, x = from_ its k := ⟨_, rfl⟩
          rw [← hX] at i1
          obtain ⟨va, vn, vc, rfl⟩ := slB_shape hdv
          obtain ⟨w6, hw6⟩ : ∃ x, x = wr.alloc (.cells #[.string ⟨s.toArray⟩, .int .i64 X, .int .i64 da.length, .int .u32 sm] 99) := ⟨_, rfl⟩
          have hb6 : Below wr.heap.size wr w6 := by rw [hw6]; exact (Below.refl _ _).alloc (Nat.le_refl _) _
          have hq : w6.heap[wr.heap.size]? = some (.cells #[.string ⟨s.toArray⟩, .int .i64 X, .int .i64 da.length, .int .u32 sm] 99 (0, 0)) := by rw [hw6]; exact alloc_new wr _
          have hql : wr.heap.size < w6.heap.size := (Array.getElem?_eq_some_iff.1 hq).1
          have hz6 := hb6.size
          have hbz := hbl.size
          have hd6 := (hdv.below hb6 (by omega)).mono (by omega : w5.heap.size ≤ w6.heap.size)
          have MS : ∀ w', Below w6.heap.size w6 w' → w'.cell? ⟨wr.heap.size, 3, none⟩ = some (.int .u32 sm) := fun w' h => (h.cell (p := ⟨wr.heap.size, 3, none⟩) hql).trans (by simp [World.cell?, hq])
          have MD : ∀ w', Below w6.heap.size w6 w' → w'.cell? ⟨b', o' + 1, none⟩ = some (.slice va vn vc) := fun w' h => (h.cell (p := ⟨b', o' + 1, none⟩) (by show b' < _; omega)).trans ((hb6.cell (p := ⟨b', o' + 1, none⟩) (by show b' < _; omega)).trans j1)
          obtain ⟨T, hT⟩ : ∃ x, x = (sum da).toNat := ⟨_, rfl⟩
          have HS7 := hid (fun w' (h : Below w6.heap.size w6 w') => bSum' da _ w6 w' h ((hd6.below h (Nat.le_refl _)).mono h.size) (by omega))
          rw [← hT] at HS7
          have HTT := hid hT
          have HBL := hid (hbl.trans (hb6.mono hbz))
          clear hT hX hit ep hd6 hdv hb6 hbl j0 j1 hq
          by_cases hsm : T = sm
          · have t3 : ((T : Int) == (sm : Int)) = true := by simp; omega
            have HSM := hid hsm
            clear hsm
            go_wp2_with fail
            rw [← hw6]
            clear hw6 i0 i1 i2 i3
            go_region_held3 (fun w' => Below w6.heap.size w6 w') (first | exact (Below.refl _ _).drew | assumption | exact Below.drew (by assumption))
              (first | (go_at_call 36; refine (HS7.out _ (by assumption)).mono ?_; rintro e w9 ⟨rfl, hb9, hk9⟩; clear hk9))
            have hbl9 := HBL.out.trans (hb9.mono HBL.out.size)
            clear hb9
            go_wp2_with fail
            go_roundw
            case rel => exact ⟨k + 1, by omega, by go_num, hid (fun t ht => by
              rcases Nat.lt_or_ge t k with h | h
              · exact hok.out t h
              · obtain rfl : t = k := by omega
                rw [← HT.out]; show (sum da).toNat = sm; rw [← HTT.out]; exact HSM.out), hbl9⟩
            case measure => simp [intOf]; omega
          · have t3 : ((T : Int) == (sm : Int)) = false := by simp; omega
            have HSM := hid hsm
            clear hsm
            go_wp2_with fail
            rw [← hw6]
            clear hw6 i0 i1 i2 i3
            go_region_held3 (fun w' => Below w6.heap.size w6 w') (first | exact (Below.refl _ _).drew | assumption | exact Below.drew (by assumption))
              (first | (go_at_call 36; refine (HS7.out _ (by assumption)).mono ?_; rintro e w9 ⟨rfl, hb9, hk9⟩; clear hk9))
            have hbl9 := HBL.out.trans (hb9.mono HBL.out.size)
            clear hb9
            go_wp2_with fail
            go_ret2
            refine ⟨HI.out.2.trans ((HGG.out.2.trans (hbl9.mono HGG.out.2.size)).mono HI.out.2.size), .inr ⟨fun hall => HSM.out ?_, rfl⟩⟩
            have := hall k hlt
            rw [← HT.out] at this
            rw [HTT.out]; exact this
        · obtain rfl : k = its.length := by omega
          go_wp2_with fail
          go_ret2
          exact ⟨HI.out.2.trans ((HGG.out.2.trans (hbl.mono HGG.out.2.size)).mono HI.out.2.size), .inl ⟨fun t ht => hok.out t ht, _, rfl, (HGG.out.1.below hbl (Nat.le_refl _)).mono hbl.size⟩⟩
end Go.Proofs.Ytoccgpddmhhlgaa
