import Derived.Test.YtbklhhmcigangaaU
import Derived.BigQuiet
namespace Go.Lr
/-- when a key was used -/
def usedAt (l : List En) (k : Int) : Nat := ((find l k).map (·.used)).getD 0
end Go.Lr
namespace Go.Proofs.Ytbklhhmcigangaa
open Go.RowKit Go.Mx Go.Lr Go.Maps Go.Sort Go.Shelf
set_option linter.unusedVariables false
set_option linter.unusedSimpArgs false
section
variable {w w' : World} {base p m : Nat} {c : CM} {fs : List PR}
set_option maxRecDepth 100000 in
theorem clo53 (h : CK w base p m c fs All) (x y : Int) (hx : isI x) (hy : isI y) (hin : x ∈ c.all.map (·.k)) (hin2 : y ∈ c.all.map (·.k)) (hu : ∀ e ∈ c.all, e.pg.used ≤ 1000000000) (a : Nat) (hc : w.cell? ⟨a, 0, none⟩ = some (cp p)) :
    Calls Try.prog 53 #[.int .i64 x, .int .i64 y, ptr a] w fun e w' => e = .returned (.int .i64 ((usedAt c.all x : Int) - (usedAt c.all y : Int))) ∧ Below w.heap.size w w' := by
  have hlf := h.look x hx
  have hlg := h.look y hy
  have c1 := h.cells.2.1
  have hub : ∀ k g, Lr.find c.all k = some g → g.used ≤ 1000000000 := fun k g hf => by
    unfold Lr.find at hf
    cases hq : c.all.find? (fun e => e.k == k) with
    | none => rw [hq] at hf; cases hf
    | some e => rw [hq] at hf; cases hf; exact hu e (List.mem_of_find?_eq_some hq)
  rcases h.who x with ⟨h1, h2⟩ | ⟨i, f, hi, hk, h1, h2⟩
  · exact absurd hin (find_none.1 h2)
  rcases h.who y with ⟨h3, h4⟩ | ⟨j, g, hj, hk2, h3, h4⟩
  · exact absurd hin2 (find_none.1 h4)
  rw [h1] at hlf
  rw [h3] at hlg
  replace hlf : (Instr.lookup 56 (.map (some m)) (.int .i64 x) false).run Try.prog w = .ok (.pointer (some ⟨f.fb, 0, none⟩)) w := hlf
  replace hlg : (Instr.lookup 56 (.map (some m)) (.int .i64 y) false).run Try.prog w = .ok (.pointer (some ⟨g.fb, 0, none⟩)) w := hlg
  have hd : usedAt c.all x = f.en.pg.used := by unfold usedAt; rw [h2]; rfl
  have hd2 : usedAt c.all y = g.en.pg.used := by unfold usedAt; rw [h4]; rfl
  rw [hd, hd2]
  have u1 := hub _ _ h2
  have u2 := hub _ _ h4
  have e1 := (h.pcells hi).2.2.1
  have e2 := (h.pcells hj).2.2.1
  obtain ⟨fb, hfb⟩ : ∃ y, y = f.fb := ⟨_, rfl⟩
  obtain ⟨gb, hgb⟩ : ∃ y, y = g.fb := ⟨_, rfl⟩
  obtain ⟨U, hU⟩ : ∃ y, y = f.en.pg.used := ⟨_, rfl⟩
  obtain ⟨V, hV⟩ : ∃ y, y = g.en.pg.used := ⟨_, rfl⟩
  rw [← hfb] at hlf e1
  rw [← hgb] at hlg e2
  rw [← hU] at e1 u1 ⊢
  rw [← hV] at e2 u2 ⊢
  have hw : IntKind.i64.wrap ((U : Int) - (V : Int)) = (U : Int) - (V : Int) := IntWalk.i64_in _ (by omega)
  have L1 : ∀ n, (Instr.lookup 56 (.map (some m)) (.int .i64 x) false).run Try.prog (w.drewN n) = .ok (.pointer (some ⟨fb, 0, none⟩)) (w.drewN n) := fun n => by
    have := (h.below (below_drewN (Below.refl w.heap.size w) n)).look x hx
    rw [h1, ← hfb] at this; exact this
  have L2 : ∀ n, (Instr.lookup 56 (.map (some m)) (.int .i64 y) false).run Try.prog (w.drewN n) = .ok (.pointer (some ⟨gb, 0, none⟩)) (w.drewN n) := fun n => by
    have := (h.below (below_drewN (Below.refl w.heap.size w) n)).look y hy
    rw [h3, ← hgb] at this; exact this
  clear h h1 h2 h3 h4 hd hd2 hi hk hj hk2 hfb hgb hin hin2 hub hu hU hV hlf hlg
  go_enter Try.func53, Try.ntmps53
  go_wp2_with fail
  go_quiet (fail)
  go_wp2_with fail
  go_ret
  exact ⟨rfl, below_drewN (Below.refl _ _) _⟩
set_option maxRecDepth 100000 in
theorem min51 (l : List Int) (lv : Value) (u : Int → Nat) (a : Nat) (w : World) (hs : SlI w w.heap.size lv l) (hn : l.length ≤ 1000000000) (hne : l ≠ [])
    (hP : ∀ w', Below w.heap.size w w' → ∀ x, x ∈ l → ∀ y, y ∈ l → Calls Try.prog 53 #[.int .i64 x, .int .i64 y, ptr a] w' fun e w'' => e = .returned (.int .i64 ((u x : Int) - (u y : Int))) ∧ Below w'.heap.size w' w'') :
    Calls Try.prog 51 #[lv, .func (.func 53) #[] #[ptr a]] w fun e w' => Below w.heap.size w w' ∧ ∃ x, e = .returned (.int .i64 x) ∧ x ∈ l ∧ ∀ y ∈ l, u x ≤ u y := by
  have hlen := fun w' => hs.len (P := Try.prog) Try.underlying29 (ty := 3) w'
  have hpos : 0 < l.length := List.length_pos_iff.2 hne
  have hp1 : ¬ ((l.length : Int) < 1) := by omega
  have hp2 : ¬ (l.length < 1) := by omega
  have hp3 : ¬ l.length = 0 := by omega
  obtain ⟨b0, o0, hb0, hi0, g0⟩ := hs.addr (P := Try.prog) Try.underlying29 size3 0 hpos
  have hi0' : ∀ (w' : World) (k : IntKind), (Instr.indexAt 29 lv (.int k 0)).run Try.prog w' = .ok (.pointer (some ⟨b0, o0, none⟩)) w' := hi0
  have hm0 : l.getD 0 0 ∈ l := by rw [List.getD_eq_getElem?_getD, List.getElem?_eq_getElem hpos]; exact List.getElem_mem _
  obtain ⟨x0, hx0⟩ : ∃ x, x = l.getD 0 0 := ⟨_, rfl⟩
  rw [← hx0] at g0 hm0
  have HS := hid hs
  have HP := hid hP
  have H0 := hid (And.intro hx0 hm0)
  obtain ⟨oa, nn, c, rfl⟩ : ∃ oa n c, lv = .slice oa n c := by obtain ⟨oa, c, rfl, _⟩ := hs; exact ⟨_, _, _, rfl⟩
  clear hs hP hi0 hx0 hm0 hb0 hne
  go_enter Try.func51, Try.ntmps51
  go_wp2_with fail
  go_loopw [5, 6] (fun s t wr => ∃ (j : Nat) (x : Int), 1 ≤ j ∧ j ≤ l.length ∧ t = .int .i64 j ∧ s = .int .i64 x ∧ Below w.heap.size w wr ∧ Hid (x ∈ l ∧ ∀ y ∈ l.take j, u x ≤ u y)) (fun _ t _ => l.length - (intOf t).toNat)
  case atStart =>
    refine ⟨1, x0, by omega, by omega, rfl, rfl, Below.refl _ _, hid ⟨H0.out.2, fun y hy => ?_⟩⟩
    rw [List.take_add_one, List.getElem?_eq_getElem hpos] at hy
    simp at hy
    have h1 := H0.out.1
    rw [List.getD_eq_getElem?_getD, List.getElem?_eq_getElem hpos] at h1
    simp at h1
    rw [hy, ← h1]; exact Nat.le_refl _
  case round =>
    obtain ⟨j, x, hj1, hj, rfl, rfl, hbl, HT⟩ := hrel
    by_cases hlt : j < l.length
    · obtain ⟨bb, bo, hbb, hia, hrow⟩ := (HS.out.below hbl (Nat.le_refl _)).addr (P := Try.prog) Try.underlying29 size3 j hlt
      have hmem : l.getD j 0 ∈ l := by rw [List.getD_eq_getElem?_getD, List.getElem?_eq_getElem hlt]; exact List.getElem_mem _
      have HN := hid (show l.take (j + 1) = l.take j ++ [l.getD j 0] by rw [List.take_add_one, List.getElem?_eq_getElem hlt, List.getD_eq_getElem?_getD, List.getElem?_eq_getElem hlt]; rfl)
      obtain ⟨y, hy⟩ : ∃ x, x = l.getD j 0 := ⟨_, rfl⟩
      rw [← hy] at hrow hmem HN
      have hz := hbl.size
      have HC := hid (HP.out wr hbl y hmem x HT.out.1)
      have hgl : ∀ w', Below wr.heap.size wr w' → w'.cell? ⟨bb, bo, none⟩ = some (.int .i64 y) := fun w' hb' => (hb'.cell (p := ⟨bb, bo, none⟩) (Nat.lt_of_lt_of_le hbb hz)).trans hrow
      have HG := hid hgl
      have HB := hid hbl
      have HM := hid hmem
      clear hbl hy hgl hmem hj1
      by_cases hcmp : u y < u x
      · have t1 : ((u y : Int) - (u x : Int)) < 0 := by omega
        obtain ⟨D, hD⟩ : ∃ D, D = (u y : Int) - (u x : Int) := ⟨_, rfl⟩
        rw [← hD] at HC t1
        clear hD
        go_wp2_with fail
        refine HC.out.mono ?_
        rintro e w1 ⟨rfl, hb1⟩
        have HB1 := hid (HB.out.trans (hb1.mono hz))
        have hrow1 := HG.out w1 hb1
        clear hb1 hrow
        go_wp2_with fail
        refine ⟨⟨j + 1, y, by omega, by omega, by go_num, rfl, HB1.out, hid ⟨HM.out, ?_⟩⟩, by simp [intOf]; omega⟩
        rw [HN.out]
        intro z hz
        rcases List.mem_append.1 hz with hz | hz
        · exact Nat.le_trans (Nat.le_of_lt hcmp) (HT.out.2 z hz)
        · simp at hz; rw [hz]; exact Nat.le_refl _
      · have t1 : ¬ ((u y : Int) - (u x : Int)) < 0 := by omega
        obtain ⟨D, hD⟩ : ∃ D, D = (u y : Int) - (u x : Int) := ⟨_, rfl⟩
        rw [← hD] at HC t1
        clear hD
        go_wp2_with fail
        refine HC.out.mono ?_
        rintro e w1 ⟨rfl, hb1⟩
        have HB1 := hid (HB.out.trans (hb1.mono hz))
        clear hb1 hrow
        go_wp2_with fail
        refine ⟨⟨j + 1, x, by omega, by omega, by go_num, rfl, HB1.out, hid ⟨HT.out.1, ?_⟩⟩, by simp [intOf]; omega⟩
        rw [HN.out]
        intro z hz
        rcases List.mem_append.1 hz with hz | hz
        · exact HT.out.2 z hz
        · simp at hz; rw [hz]; omega
    · obtain rfl : j = l.length := by omega
      go_wp2
      go_ret
      exact ⟨hbl, x, rfl, HT.out.1, by have := HT.out.2; rwa [List.take_length] at this⟩
end
end Go.Proofs.Ytbklhhmcigangaa
