import Derived.Test.YtpgdncpomacghaaQ8
import Derived.Test.YtpgdncpomacghaaL5
namespace Go.Proofs.Ytpgdncpomacghaa
open Go.RowKit Go.Mx Go.Cnt Go.Shelf
set_option linter.unusedSimpArgs false
set_option linter.unusedVariables false
/-- what is known of a meta's tables in a world -/
structure Tabs (w : World) (tv sv : Value) (t : Tab) (ss : List ShotM) : Prop where
  ht : IsTab w w.heap.size tv t
  hs : IsShots w w.heap.size sv ss
  l : t.length ≤ 6000
  ls : ∀ i, i < ss.length → (ss.getD i default).t.length ≤ 6000
  n : ss.length ≤ 30
  g : ∀ i, i < (eachM t ss).length → GoodE ((eachM t ss).getD i default).e
theorem Tabs.ofN {wA w' : World} {tv sv : Value} {t : Tab} {ss : List ShotM} (h : Tabs wA tv sv t ss) (a0 a1 a2 mv cv : Value) (h' : Below wA.heap.size wA w') :
    Calls Try.prog 15 #[.agg #[a0, a1, a2, tv, sv, mv, cv], .int .i64 300] w' fun e w'' => (∃ v, e = .returned v ∧ SlI w'' w''.heap.size v (ofM (eachM t ss) 300) ∧ Below wA.heap.size wA w'') ∧ (∀ v l, SlI w' w'.heap.size v l → SlI w'' w''.heap.size v l) := by
  refine (of_any a0 a1 a2 tv sv mv cv t ss 300 w' ((h.ht.below h' (Nat.le_refl _)).mono h'.size) ((h.hs.below h' (Nat.le_refl _)).mono h'.size) (by have := h.l; omega) (fun i hi => by have := h.ls i hi; omega) h.n h.g).mono ?_
  rintro e w'' ⟨v, rfl, ho, hb⟩
  exact ⟨⟨v, rfl, ho.slI, h'.trans (hb.mono h'.size)⟩, fun v l hv => (hv.below hb (Nat.le_refl _)).mono hb.size⟩
theorem Tabs.eachN {wA w' : World} {tv sv : Value} {t : Tab} {ss : List ShotM} (h : Tabs wA tv sv t ss) (a0 a1 a2 mv cv : Value) (h' : Below wA.heap.size wA w') :
    Calls Try.prog 18 #[.agg #[a0, a1, a2, tv, sv, mv, cv]] w' fun e w'' => ∃ v, e = .returned v ∧ (∀ W, (Builtin.len_ #[35] 3 #[v]).run Try.prog W = .ok (.int .i64 (eachM t ss).length) W) ∧ Below wA.heap.size wA w'' := by
  refine (each_any a0 a1 a2 tv sv mv cv t ss w' ((h.ht.below h' (Nat.le_refl _)).mono h'.size) ((h.hs.below h' (Nat.le_refl _)).mono h'.size) (by have := h.l; omega) (fun i hi => by have := h.ls i hi; omega) h.n).mono ?_
  rintro e w'' ⟨v, rfl, ho, hb⟩
  exact ⟨v, rfl, fun W => by have := ho.slL.len W (ty := 3); exact this, h'.trans (hb.mono h'.size)⟩
theorem snoc_get {ss : List ShotM} {s : ShotM} {P : ShotM → Prop} (h : ∀ i, i < ss.length → P (ss.getD i default)) (hs : P s) : ∀ i, i < (ss ++ [s]).length → P ((ss ++ [s]).getD i default) := by
  intro i hi
  rw [getD_snoc]
  by_cases e : i = ss.length
  · rw [if_pos e]; exact hs
  · rw [if_neg e]; exact h i (by simp at hi; omega)
end Go.Proofs.Ytpgdncpomacghaa
