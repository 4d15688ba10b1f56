import Derived.Test.YtpgdncpomacghaaJ2
import Derived.Laws.Bits64
namespace Go.Proofs.Ytpgdncpomacghaa
open Go.RowKit Go.Mx Go.Cnt Go.Shelf

/-- it answers some bool; where it answers true, p holds; nothing that lay has turned -/
def RB (p : Prop) (w : World) (e : Ending) (w' : World) : Prop := ∃ b : Bool, e = .returned (.bool b) ∧ (b = true → p) ∧ Below w.heap.size w w'

theorem RB.mk {p : Prop} {w w' : World} {b : Bool} (h : b = true → p) (hb : Below w.heap.size w w') : RB p w (.returned (.bool b)) w' := ⟨b, rfl, h, hb⟩

def MayP (E : Ent) : Prop := isR E = true → GoodE E

theorem mayP_of {E : Ent} (h : E.kind ≠ 2) (h3 : E.kind ≠ 3) : MayP E := by
  intro hr; unfold isR at hr; simp [h, h3] at hr

structure WfE (E : Ent) : Prop where
  k : -9223372036854775808 ≤ E.kind ∧ E.kind ≤ 9223372036854775807
  s : -9223372036854775808 ≤ E.start ∧ E.start ≤ 9223372036854775807
  c : -9223372036854775808 ≤ E.count ∧ E.count ≤ 9223372036854775807
  z : -9223372036854775808 ≤ E.size ∧ E.size ≤ 9223372036854775807

set_option maxRecDepth 100000 in
set_option maxHeartbeats 4000000 in
theorem may_any (E : Ent) (c : Int) (w : World) (hE : WfE E) (hc : -9223372036854775808 ≤ c ∧ c ≤ 9223372036854775807) : Calls Try.prog 37 #[entV E, .int .i64 c] w (RB (MayP E) w) := by
  obtain ⟨hc1, hc2⟩ := hc
  obtain ⟨k, s, n, z, u⟩ := E
  obtain ⟨⟨k1, k2⟩, ⟨s1, s2⟩, ⟨n1, n2⟩, ⟨z1, z2⟩⟩ := hE
  simp only at k1 k2 s1 s2 n1 n2 z1 z2
  have hb : Below w.heap.size w (w.alloc (.cells #[.int .i64 k, .int .i64 s, .int .i64 n, .int .i64 z, .int .u32 u] 39)) := (Below.refl _ _).alloc (Nat.le_refl _) _
  have HB := hid hb
  clear hb
  unfold entV
  by_cases h0 : c < 0
  · go_enter Try.func37, Try.ntmps37
    go_wp2
    go_ret
    exact RB.mk (fun h => by cases h) HB.out
  by_cases h6 : 6 < c
  · go_enter Try.func37, Try.ntmps37
    go_wp2
    go_ret
    exact RB.mk (fun h => by cases h) HB.out
  by_cases hk2 : k = 2
  · subst hk2
    obtain ⟨d, rfl⟩ := Int.eq_ofNat_of_zero_le (show 0 ≤ c by omega)
    have hd : d = 0 ∨ d = 1 ∨ d = 2 ∨ d = 3 ∨ d = 4 ∨ d = 5 ∨ d = 6 := by omega
    clear h0 h6 hc1 hc2
    rcases hd with rfl | rfl | rfl | rfl | rfl | rfl | rfl
    · go_enter Try.func37, Try.ntmps37
      go_wp2
      all_goals go_ret
      all_goals refine RB.mk ?_ ((Below.refl _ _).alloc (Nat.le_refl _) _)
      all_goals first | (intro h; cases h; done) | (intro _ _; exact ⟨by simp only; omega, by simp only; omega, by simp only; omega⟩)
    · go_enter Try.func37, Try.ntmps37
      go_wp2
      all_goals go_ret
      all_goals refine RB.mk ?_ ((Below.refl _ _).alloc (Nat.le_refl _) _)
      all_goals first | (intro h; cases h; done) | (intro _ _; exact ⟨by simp only; omega, by simp only; omega, by simp only; omega⟩)
    · go_enter Try.func37, Try.ntmps37
      go_wp2
      all_goals go_ret
      all_goals refine RB.mk ?_ ((Below.refl _ _).alloc (Nat.le_refl _) _)
      all_goals first | (intro h; cases h; done) | (intro _ _; exact ⟨by simp only; omega, by simp only; omega, by simp only; omega⟩)
    · go_enter Try.func37, Try.ntmps37
      go_wp2
      all_goals go_ret
      all_goals refine RB.mk ?_ ((Below.refl _ _).alloc (Nat.le_refl _) _)
      all_goals first | (intro h; cases h; done) | (intro _ _; exact ⟨by simp only; omega, by simp only; omega, by simp only; omega⟩)
    · go_enter Try.func37, Try.ntmps37
      go_wp2
      all_goals go_ret
      all_goals refine RB.mk ?_ ((Below.refl _ _).alloc (Nat.le_refl _) _)
      all_goals first | (intro h; cases h; done) | (intro _ _; exact ⟨by simp only; omega, by simp only; omega, by simp only; omega⟩)
    · go_enter Try.func37, Try.ntmps37
      go_wp2
      all_goals go_ret
      all_goals refine RB.mk ?_ ((Below.refl _ _).alloc (Nat.le_refl _) _)
      all_goals first | (intro h; cases h; done) | (intro _ _; exact ⟨by simp only; omega, by simp only; omega, by simp only; omega⟩)
    · go_enter Try.func37, Try.ntmps37
      go_wp2
      all_goals go_ret
      all_goals refine RB.mk ?_ ((Below.refl _ _).alloc (Nat.le_refl _) _)
      all_goals first | (intro h; cases h; done) | (intro _ _; exact ⟨by simp only; omega, by simp only; omega, by simp only; omega⟩)
  by_cases hk3 : k = 3
  · subst hk3
    obtain ⟨d, rfl⟩ := Int.eq_ofNat_of_zero_le (show 0 ≤ c by omega)
    have hd : d = 0 ∨ d = 1 ∨ d = 2 ∨ d = 3 ∨ d = 4 ∨ d = 5 ∨ d = 6 := by omega
    clear h0 h6 hc1 hc2 hk2
    rcases hd with rfl | rfl | rfl | rfl | rfl | rfl | rfl
    · go_enter Try.func37, Try.ntmps37
      go_wp2
      all_goals go_ret
      all_goals refine RB.mk ?_ ((Below.refl _ _).alloc (Nat.le_refl _) _)
      all_goals first | (intro h; cases h; done) | (intro _ _; exact ⟨by simp only; omega, by simp only; omega, by simp only; omega⟩)
    · go_enter Try.func37, Try.ntmps37
      go_wp2
      all_goals go_ret
      all_goals refine RB.mk ?_ ((Below.refl _ _).alloc (Nat.le_refl _) _)
      all_goals first | (intro h; cases h; done) | (intro _ _; exact ⟨by simp only; omega, by simp only; omega, by simp only; omega⟩)
    · go_enter Try.func37, Try.ntmps37
      go_wp2
      all_goals go_ret
      all_goals refine RB.mk ?_ ((Below.refl _ _).alloc (Nat.le_refl _) _)
      all_goals first | (intro h; cases h; done) | (intro _ _; exact ⟨by simp only; omega, by simp only; omega, by simp only; omega⟩)
    · go_enter Try.func37, Try.ntmps37
      go_wp2
      all_goals go_ret
      all_goals refine RB.mk ?_ ((Below.refl _ _).alloc (Nat.le_refl _) _)
      all_goals first | (intro h; cases h; done) | (intro _ _; exact ⟨by simp only; omega, by simp only; omega, by simp only; omega⟩)
    · go_enter Try.func37, Try.ntmps37
      go_wp2
      all_goals go_ret
      all_goals refine RB.mk ?_ ((Below.refl _ _).alloc (Nat.le_refl _) _)
      all_goals first | (intro h; cases h; done) | (intro _ _; exact ⟨by simp only; omega, by simp only; omega, by simp only; omega⟩)
    · go_enter Try.func37, Try.ntmps37
      go_wp2
      all_goals go_ret
      all_goals refine RB.mk ?_ ((Below.refl _ _).alloc (Nat.le_refl _) _)
      all_goals first | (intro h; cases h; done) | (intro _ _; exact ⟨by simp only; omega, by simp only; omega, by simp only; omega⟩)
    · go_enter Try.func37, Try.ntmps37
      go_wp2
      all_goals go_ret
      all_goals refine RB.mk ?_ ((Below.refl _ _).alloc (Nat.le_refl _) _)
      all_goals first | (intro h; cases h; done) | (intro _ _; exact ⟨by simp only; omega, by simp only; omega, by simp only; omega⟩)
  · have HP := hid (fun s n z => (mayP_of hk2 hk3 : MayP ⟨k, s, n, z, u⟩))
    have e2 : (k == 2) = false := by simp [hk2]
    have e3 : (k == 3) = false := by simp [hk3]
    clear hk2 hk3
    by_cases hk0 : k = 0
    · have e0 : (k == 0) = true := by simp [hk0]
      clear hk0
      go_enter Try.func37, Try.ntmps37
      go_wp2
      all_goals go_ret
      all_goals exact RB.mk (fun _ => HP.out _ _ _) ((Below.refl _ _).alloc (Nat.le_refl _) _)
    · have e0 : (k == 0) = false := by simp [hk0]
      by_cases hk1 : k = 1
      · have e1 : (k == 1) = true := by simp [hk1]
        clear hk0 hk1
        go_enter Try.func37, Try.ntmps37
        go_wp2
        all_goals go_ret
        all_goals exact RB.mk (fun _ => HP.out _ _ _) ((Below.refl _ _).alloc (Nat.le_refl _) _)
      · have e1 : (k == 1) = false := by simp [hk1]
        clear hk0 hk1
        go_enter Try.func37, Try.ntmps37
        go_wp2
        go_ret
        exact RB.mk (fun h => by cases h) HB.out
end Go.Proofs.Ytpgdncpomacghaa
