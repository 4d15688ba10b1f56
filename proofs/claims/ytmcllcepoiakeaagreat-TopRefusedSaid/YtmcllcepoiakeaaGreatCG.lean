import Derived.Test.YtmcllcepoiakeaaGreatCE
set_option linter.unusedSimpArgs false
set_option linter.unusedVariables false
namespace Go.Proofs.YtmcllcepoiakeaaGreat.Cx
open Go.RowKit Go.Mx Go.Cnt Go.Shelf
theorem one_stops (n : Nat) (hn : 1 ≤ n) (Bt Bs n₀ : Nat) (sh : Int) (tv : Value) (t : Tab) (hl : t.length ≤ 1000000) (w : World) (hBt : w.cell? ⟨Bt, 0, none⟩ = some tv) (hBs : w.cell? ⟨Bs, 0, none⟩ = some (.int .i64 sh))
    (hbt : Bt < w.heap.size) (hbs : Bs < w.heap.size) (hn₀ : n₀ ≤ w.heap.size) (ht : IsTab w n₀ tv t) :
    SeqStopsK Fence.wide n Tryz.prog 245 #[.pointer (some ⟨Bt, 0, none⟩), .pointer (some ⟨Bs, 0, none⟩)] (fun x : Lin => #[linV x]) (KpA n₀ [Bt, Bs]) (fun ys => ys = linesT sh t) (fun pre => pre <+: linesT sh t) (t.length * 8) w :=
  fun l J Jx W hW hJ _ hY h0 => by
    have hz := hW.size
    exact one1_in n hn l Bt Bs n₀ sh tv t J Jx hl hY W hJ ((hW.cell (p := ⟨Bt, 0, none⟩) hbt).trans hBt) ((hW.cell (p := ⟨Bs, 0, none⟩) hbs).trans hBs) (by omega) (by omega) (by omega) (ht.below hW hn₀) h0
theorem one_any (sh : Int) (tv : Value) (w : World) :
    Calls Tryz.prog 201 #[.int .i64 sh, .agg #[tv]] w fun e w' => e = .returned (.func (.func 245) #[] #[.pointer (some ⟨w.heap.size + 1, 0, none⟩), .pointer (some ⟨w.heap.size, 0, none⟩)]) ∧ (w.alloc (.cells #[.int .i64 sh] 3)).alloc (.cells #[tv] 90) = w' := by
  go_enter Tryz.func201, Tryz.ntmps201
  go_wp2
  go_ret
  exact ⟨rfl, rfl⟩
/-- a slice of lines of the call's own -/
def OwnL (w : World) (base : Nat) (v : Value) (ls : List Lin) : Prop := w.ownsRow base 219 7 v ls.length (ls.flatMap linC)
/-- AppendSeq(out, one(sh, t)) in the world behind 'one' -/
theorem app_one (base : Nat) (sv : Value) (ls : List Lin) (sh : Int) (tv : Value) (t : Tab) (hl : t.length ≤ 1000000) (hls : ls.length ≤ 1000000000) (w : World) (hown : OwnL w base sv ls) (hb : base ≤ w.heap.size) (ht : IsTab w base tv t) :
    Calls Tryz.prog 202 #[sv, .func (.func 245) #[] #[.pointer (some ⟨w.heap.size + 1, 0, none⟩), .pointer (some ⟨w.heap.size, 0, none⟩)]] ((w.alloc (.cells #[.int .i64 sh] 3)).alloc (.cells #[tv] 90)) fun e w' =>
      ∃ v, e = .returned v ∧ OwnL w' base v (ls ++ linesT sh t) ∧ Below base w w' := by
  obtain ⟨w1, hw1⟩ : ∃ w1, (w.alloc (.cells #[.int .i64 sh] 3)).alloc (.cells #[tv] 90) = w1 := ⟨_, rfl⟩
  have hs : w1.heap.size = w.heap.size + 2 := by rw [← hw1]; simp
  have hbel : Below base w w1 := by rw [← hw1]; exact ((Below.refl _ _).alloc hb _).alloc (by simp; omega) _
  have h0 : w1.heap[w.heap.size]? = some (.cells #[.int .i64 sh] 3 (0, 0)) := by
    rw [← hw1]; exact (Below.heap_alloc _ _ _ (by simp)).trans (World.alloc_heap_new w _)
  have h1 : w1.heap[w.heap.size + 1]? = some (.cells #[tv] 90 (0, 0)) := by
    rw [← hw1]; have := World.alloc_heap_new (w.alloc (.cells #[.int .i64 sh] 3)) (.cells #[tv] 90); rwa [World.size_alloc] at this
  have ho : OwnL w1 base sv ls := by rw [← hw1]; exact (hown.alloc _).alloc _
  rw [hw1]
  clear hw1
  refine callsIn_wide.1 ((appendSeq_in 5 (by omega) [w.heap.size + 1, w.heap.size] base base (Nat.le_refl _) 245 _ (enters_of Tryz.func245 (by kernel_rfl) rfl) _ _ _ ls.length (by omega) sv (ls.flatMap linC) w1 ho
    (by intro b hb; simp at hb; rcases hb with rfl | rfl
        · exact ⟨_, _, _, h1, by decide⟩
        · exact ⟨_, _, _, h0, by decide⟩) (by omega)
    (one_stops 4 (by omega) (w.heap.size + 1) w.heap.size base sh tv t hl w1 (by simp [World.cell?, h1]) (by simp [World.cell?, h0]) (by omega) (by omega) (by omega) (ht.below hbel (Nat.le_refl _)))).mono ?_)
  rintro e w' ⟨v, ys, rfl, rfl, hr, hb'⟩
  refine ⟨v, rfl, ?_, hbel.trans hb'⟩
  unfold OwnL
  rw [List.length_append, List.flatMap_append]
  exact hr
theorem collect_one (sh : Int) (tv : Value) (t : Tab) (hl : t.length ≤ 1000000) (w : World) (base : Nat) (hb : base ≤ w.heap.size) (ht : IsTab w base tv t) :
    Calls Tryz.prog 200 #[.func (.func 245) #[] #[.pointer (some ⟨w.heap.size + 1, 0, none⟩), .pointer (some ⟨w.heap.size, 0, none⟩)]] ((w.alloc (.cells #[.int .i64 sh] 3)).alloc (.cells #[tv] 90)) fun e w' =>
      ∃ v, e = .returned v ∧ OwnL w' base v (linesT sh t) ∧ Below base w w' := by
  have happ := hid (app_one base (.slice none 0 0) [] sh tv t hl (by simp) w (World.ownsRow_nil _ _ _ _) hb ht)
  go_enter Tryz.func200, Tryz.ntmps200
  go_wp2_with fail
  refine happ.out.mono ?_
  rintro e w' ⟨v, rfl, ho, hbel⟩
  go_wp2
  go_ret
  exact ⟨v, rfl, by simpa using ho, hbel⟩
/-- the snapshots -/
def shotC (s : ShotM) (tv : Value) : List Value := [.string ⟨s.name.toArray⟩, .int .i64 s.size, tv]
def IsShots (w : World) (B : Nat) (sv : Value) (ss : List ShotM) : Prop :=
  ∃ tvs : List Value, tvs.length = ss.length ∧ SlG w B 3 sv (List.zipWith shotC ss tvs) ∧ ∀ i, i < ss.length → IsTab w B (tvs.getD i undef) (ss.getD i default).t
theorem IsShots.below {w w' : World} {B B' : Nat} {v : Value} {ss : List ShotM} (h : IsShots w B v ss) (hb : Below B' w w') (hB : B ≤ B') : IsShots w' B v ss := by
  obtain ⟨lvs, h1, h2, h3⟩ := h
  exact ⟨lvs, h1, h2.below hb hB, fun i hi => (h3 i hi).below hb hB⟩
theorem IsShots.mono {w : World} {B B' : Nat} {v : Value} {ss : List ShotM} (h : IsShots w B v ss) (hB : B ≤ B') : IsShots w B' v ss := by
  obtain ⟨lvs, h1, h2, h3⟩ := h
  exact ⟨lvs, h1, h2.mono hB, fun i hi => (h3 i hi).mono hB⟩
theorem IsShots.len {w : World} {B : Nat} {v : Value} {ss : List ShotM} (h : IsShots w B v ss) (w' : World) {ty : TypeId} : (Builtin.len_ #[91] ty #[v]).run Tryz.prog w' = .ok (.int .i64 ss.length) w' := by
  obtain ⟨lvs, h1, h2, h3⟩ := h
  have := h2.len (P := Tryz.prog) (ty := ty) Tryz.underlying91 w'
  rwa [List.length_zipWith, h1, Nat.min_self] at this
theorem sizeS (w : World) : (sizeOf 110).run Tryz.prog w = .ok 3 w := by kernel_rfl
theorem IsShots.at {w : World} {B : Nat} {v : Value} {ss : List ShotM} (h : IsShots w B v ss) (i : Nat) (hi : i < ss.length) :
    ∃ b o tv, b < B ∧ (∀ w' (k : IntKind), (Instr.indexAt 91 v (.int k (i : Int))).run Tryz.prog w' = .ok (.pointer (some ⟨b, o, none⟩)) w') ∧
      w.cell? ⟨b, o, none⟩ = some (.string ⟨(ss.getD i default).name.toArray⟩) ∧ w.cell? ⟨b, o + 1, none⟩ = some (.int .i64 (ss.getD i default).size) ∧ w.cell? ⟨b, o + 2, none⟩ = some tv ∧ IsTab w B tv (ss.getD i default).t := by
  obtain ⟨tvs, h1, h2, h3⟩ := h
  obtain ⟨b, o, hb, hia, hc⟩ := h2.addr (P := Tryz.prog) Tryz.underlying91 sizeS i (by simp; omega)
  have e : (List.zipWith shotC ss tvs).getD i [] = shotC (ss.getD i default) (tvs.getD i undef) := by
    simp [List.getD_eq_getElem?_getD, List.getElem?_zipWith, List.getElem?_eq_getElem hi, List.getElem?_eq_getElem (show i < tvs.length by omega)]
  rw [e] at hc
  exact ⟨b, o, _, hb, hia, hc 0 _ rfl, hc 1 _ rfl, hc 2 _ rfl, h3 i hi⟩
theorem ownsRow_base {W : World} {base base' : Nat} {e : TypeId} {size : Nat} {v : Value} {k : Nat} {xs : List Value} (h : W.ownsRow base e size v k xs) (hb : base' ≤ base) : W.ownsRow base' e size v k xs := by
  refine ⟨h.1, ?_⟩
  rcases h.2 with hn | ⟨g, cap, cur, hv, hbg, rest⟩
  · exact .inl hn
  · exact .inr ⟨g, cap, cur, hv, Nat.le_trans hb hbg, rest⟩
theorem IsTab.shape {w : World} {B : Nat} {v : Value} {t : Tab} (h : IsTab w B v t) : ∃ a n c, v = .slice a n c := by
  obtain ⟨lvs, _, ⟨oa, cap, rfl, _⟩, _⟩ := h
  exact ⟨_, _, _, rfl⟩
set_option maxRecDepth 100000 in
set_option maxHeartbeats 2000000 in
theorem each_any (a0 a1 a2 tv sv mv cv : Value) (t : Tab) (ss : List ShotM) (w : World) (ht : IsTab w w.heap.size tv t) (hs : IsShots w w.heap.size sv ss) (hl : t.length ≤ 1000000) (hls : ∀ i, i < ss.length → (ss.getD i default).t.length ≤ 1000000) (hsl : ss.length ≤ 30) :
    Calls Tryz.prog 120 #[.agg #[a0, a1, a2, tv, sv, mv, cv]] w fun e w' => ∃ v, e = .returned v ∧ OwnL w' w.heap.size v (eachM t ss) ∧ Below w.heap.size w w' := by
  have hlen := fun w' => hs.len w' (ty := 3)
  have hb1 : Below w.heap.size w (w.alloc (.cells #[a0, a1, a2, tv, sv, mv, cv] 95)) := (Below.refl _ _).alloc (Nat.le_refl _) _
  have hz1 : (w.alloc (.cells #[a0, a1, a2, tv, sv, mv, cv] 95)).heap.size = w.heap.size + 1 := by simp
  have hcol := collect_one (-1) tv t hl (w.alloc (.cells #[a0, a1, a2, tv, sv, mv, cv] 95)) (w.heap.size + 1) (by omega) ((ht.below hb1 (Nat.le_refl _)).mono (by omega))
  simp only [World.size_alloc] at hcol
  have HC := hid hcol
  clear hcol
  have HB1 := hid (And.intro hb1 hz1)
  have HLS := hid hls
  have c4 := World.cell?_alloc_at #[a0, a1, a2, tv, sv, mv, cv] 95 w.heap.size 4 rfl
  have C4 := hid c4
  clear hls hb1 hz1 c4
  go_enter Tryz.func120, Tryz.ntmps120
  go_wp2_with fail
  refine (one_any _ _ _).mono ?_
  rintro e w' ⟨rfl, rfl⟩
  go_wp2_with fail
  refine HC.out.mono ?_
  rintro e w2 ⟨v2, rfl, ho2, hb12⟩
  obtain ⟨hb1, hz1⟩ := HB1.out
  have hc4 : w2.cell? ⟨w.heap.size, 4, none⟩ = some sv := (hb12.cell (p := ⟨w.heap.size, 4, none⟩) (by simp)).trans C4.out
  have hz2 := hb12.size
  generalize w.alloc (.cells #[a0, a1, a2, tv, sv, mv, cv] 95) = w1 at *
  clear HC HB1 C4
  go_wp2_with fail
  clear hc4
  go_loopw [3, 13] (fun v i wr => ∃ k : Nat, k ≤ ss.length ∧ i = .int .i64 k ∧ OwnL wr (w.heap.size + 1) v (eachTo t ss k) ∧ Below (w.heap.size + 1) w1 wr)
    (fun _ i _ => ss.length - (intOf i).toNat)
  case atStart => exact ⟨0, by omega, rfl, by rw [eachTo_zero]; exact ho2, hb12⟩
  case round =>
    obtain ⟨k, hk, rfl, ho, hbel⟩ := hrel
    clear ho2 hb12 hlen hz2
    have hz := hbel.size
    by_cases hlt : k < ss.length
    · obtain ⟨b, o, tv', hb, hia, c0, c1, c2, htk⟩ := ((hs.below hb1 (Nat.le_refl _)).below (hbel.mono (by omega)) (Nat.le_refl _)).at k hlt
      obtain ⟨ta, tn, tc, rfl⟩ := htk.shape
      have hlk := HLS.out k hlt
      have hel := eachTo_len t ss 1000000 hl HLS.out k hk
      have HS := hid (eachTo_succ t ss k)
      obtain ⟨s, es⟩ : ∃ s, s = ss.getD k default := ⟨_, rfl⟩
      rw [← es] at c0 c1 htk hlk HS
      clear es
      have happ : OwnL (wr.alloc (.cells #[.string ⟨s.name.toArray⟩, .int .i64 s.size, (.slice ta tn tc)] 110)) (w.heap.size + 1) u3 (eachTo t ss k) := ho.alloc _
      have hbel' : Below (w.heap.size + 1) wr (wr.alloc (.cells #[.string ⟨s.name.toArray⟩, .int .i64 s.size, (.slice ta tn tc)] 110)) := (Below.refl _ _).alloc (by omega) _
      have hap := app_one (w.heap.size + 1) u3 (eachTo t ss k) (k : Int) (.slice ta tn tc) s.t hlk (by omega) _ happ (by simp; omega) ((htk.mono (by omega)).below hbel' (Nat.le_refl _))
      simp only [World.size_alloc] at hap
      have HA := hid hap
      clear hap
      have HB := hid (hbel.trans hbel')
      clear happ hbel' ho htk
      go_wp2_with fail
      refine (one_any _ _ _).mono ?_
      rintro e w' ⟨rfl, rfl⟩
      clear hia c0 c1 c2
      go_wp2_with fail
      refine HA.out.mono ?_
      rintro e w3 ⟨v3, rfl, ho3, hb3⟩
      have hb4 := HB.out.trans hb3
      clear HA HB hb3
      go_wp2
      go_roundw
      case rel => exact ⟨k + 1, by omega, by go_num, by rw [HS.out]; exact ho3, hb4⟩
      case measure => simp [intOf]; omega
    · obtain rfl : k = ss.length := by omega
      go_wp2
      go_ret
      exact ⟨_, rfl, ownsRow_base ho (by omega), hb1.trans (hbel.mono (by omega))⟩
end Go.Proofs.YtmcllcepoiakeaaGreat.Cx
