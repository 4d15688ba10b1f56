import Derived.Test.YtgkabcaodnofnaaGreatAB
set_option linter.unusedSimpArgs false
set_option linter.unusedVariables false
namespace Go.Md
def okCh (c : UInt8) : Bool := (decide (97 ≤ c.toNat) && decide (c.toNat ≤ 122)) || (decide (48 ≤ c.toNat) && decide (c.toNat ≤ 57)) || c.toNat == 45 || c.toNat == 95 || c.toNat == 46
def nameOk (s : List UInt8) : Bool := !s.isEmpty && decide (s.length ≤ 16) && s.all okCh

/-- may an image have so many sectors? -/
def sizeOk (n : Int) (cl : Int) : Bool := decide (0 ≤ n) && decide (n ≤ 4096) && (n % 2 ^ cl.toNat == 0)
/-- are sectors an image's? -/
def withinI (size a n : Int) : Bool := decide (0 ≤ a) && decide (0 ≤ n) && decide (a ≤ size) && decide (n ≤ size - a)
/-- may a command turn its image? -/
def turnsI (k : Int) : Bool := k == 4 || k == 5 || k == 6 || k == 7 || k == 9 || k == 10 || k == 11 || k == 23 || (decide (12 ≤ k) && decide (k ≤ 17))
end Go.Md
namespace Go.Proofs.YtgkabcaodnofnaaGreat
open Go.RowKit Go.Mx Go.Md
set_option linter.unusedVariables false
set_option linter.unusedSimpArgs false
theorem okAll_no (s : List UInt8) (k : Nat) (hk : k < s.length) (h : okCh (s.getD k 0) = false) : nameOk s = false := by
  have : s.all okCh = false := by
    rw [List.all_eq_false]
    refine ⟨s.getD k 0, ?_, by rw [h]; decide⟩
    rw [List.getD_eq_getElem?_getD, List.getElem?_eq_getElem hk]; exact List.getElem_mem _
  unfold nameOk; rw [this]; simp
theorem okAll_yes (s : List UInt8) (h0 : s.isEmpty = false) (h1 : s.length ≤ 16) (h : ∀ j, j < s.length → okCh (s.getD j 0) = true) : nameOk s = true := by
  have : s.all okCh = true := by
    rw [List.all_eq_true]
    intro x hx
    obtain ⟨i, hi, rfl⟩ := List.getElem_of_mem hx
    have := h i hi
    rwa [List.getD_eq_getElem?_getD, List.getElem?_eq_getElem hi] at this
  unfold nameOk; rw [this, h0]; simp [h1]

theorem okCh_iff (c : UInt8) : okCh c = true ↔ ((97 ≤ (c.toNat : Int) ∧ (c.toNat : Int) ≤ 122) ∨ (48 ≤ (c.toNat : Int) ∧ (c.toNat : Int) ≤ 57)) ∨ (c.toNat : Int) = 45 ∨ (c.toNat : Int) = 95 ∨ (c.toNat : Int) = 46 := by
  unfold okCh
  simp only [Bool.or_eq_true, Bool.and_eq_true, decide_eq_true_eq, beq_iff_eq]
  omega
theorem charAt (s : List UInt8) (k : Nat) (hk : k < s.length) : s.getD k 0 = (ByteArray.mk s.toArray)[k]'(by simpa [ByteArray.size] using hk) := by
  rw [List.getD_eq_getElem?_getD, List.getElem?_eq_getElem hk]; rfl

set_option maxRecDepth 100000 in
set_option maxHeartbeats 1000000 in
theorem name_any (s : List UInt8) (w : World) : Calls Tryz.prog 72 #[.string ⟨s.toArray⟩] w fun e w' => e = .returned (.bool (nameOk s)) ∧ w = w' := by
  by_cases h0 : s = []
  · subst h0
    go_enter Tryz.func72, Tryz.ntmps72
    go_wp2
    go_ret
    exact ⟨rfl, rfl⟩
  have he : s.isEmpty = false := by cases s with | nil => exact absurd rfl h0 | cons _ _ => rfl
  have hlp := List.length_pos_iff.2 h0
  clear h0
  obtain ⟨R, hR⟩ : ∃ R, R = nameOk s := ⟨_, rfl⟩
  rw [← hR]
  have HR := hid hR
  clear hR
  by_cases h1 : 16 < s.length
  · have : R = false := by rw [HR.out]; unfold nameOk; simp; omega
    subst this
    go_enter Tryz.func72, Tryz.ntmps72
    go_wp2
    all_goals go_ret
    all_goals exact ⟨rfl, rfl⟩
  go_enter Tryz.func72, Tryz.ntmps72
  go_wp2_with fail
  go_loop [14] (fun i => ∃ k : Nat, k ≤ s.length ∧ i = .int .i64 k ∧ ∀ j, j < k → okCh (s.getD j 0) = true) (fun i => s.length - (intOf i).toNat)
  case atStart => exact ⟨0, by omega, rfl, fun j hj => by omega⟩
  case round =>
    obtain ⟨k, hk, rfl, hall⟩ := hrel
    have HA := hid hall
    clear hall
    by_cases hlt : k < s.length
    · have HN := hid (okAll_no s k hlt)
      have HC := hid (charAt s k hlt)
      go_wp2
      all_goals first
        | (have hno : okCh (s.getD k 0) = false := by
             rw [← Bool.not_eq_true, okCh_iff, HC.out]
             try simp only [Bool.not_eq_true', Bool.not_eq_false', beq_iff_eq, beq_eq_false_iff_ne, bne_iff_ne, bne_eq_false_iff_eq, ne_eq, decide_eq_true_eq, decide_eq_false_iff_not] at *
             omega
           have : R = false := by rw [HR.out]; exact HN.out hno
           subst this
           go_ret
           exact ⟨rfl, rfl⟩)
        | (have hyes : okCh (s.getD k 0) = true := by
             rw [okCh_iff, HC.out]
             try simp only [Bool.not_eq_true', Bool.not_eq_false', beq_iff_eq, beq_eq_false_iff_ne, bne_iff_ne, bne_eq_false_iff_eq, ne_eq, decide_eq_true_eq, decide_eq_false_iff_not] at *
             omega
           refine ⟨⟨k + 1, by omega, by go_num, fun j hj => ?_⟩, by simp [intOf]; omega⟩
           rcases Nat.lt_or_ge j k with hjk | hjk
           · exact HA.out j hjk
           · rw [show j = k by omega]; exact hyes)
    · obtain rfl : k = s.length := by omega
      have : R = true := by rw [HR.out]; exact okAll_yes s he (by omega) HA.out
      subst this
      go_wp2
      go_ret
      exact ⟨rfl, rfl⟩
abbrev nilS : Value := .slice none 0 0
/-- a reply -/
abbrev rpV (code : Int) (dv nv sv : Value) (n m : Int) : Value := .agg #[.int .i64 code, dv, nv, sv, .int .i64 n, .int .i64 m]
abbrev failV (e : Int) : Value := rpV e nilS nilS nilS 0 0
theorem failed_any (e : Int) (w : World) : Calls Tryz.prog 21 #[.int .i64 e] w fun r w' => r = .returned (failV e) ∧ Below w.heap.size w w' := by
  go_enter Tryz.func21, Tryz.ntmps21
  go_wp2_with fail
  exact bodyPost_ret (v := failV e) (by simp [results, Tryz.results21, go_sem]) rfl ⟨rfl, (Below.refl _ _).alloc (Nat.le_refl _) _⟩
set_option maxRecDepth 100000 in
theorem turns_any (k : Int) (w : World) : Calls Tryz.prog 23 #[.int .i64 k] w fun r w' => r = .returned (.bool (turnsI k)) ∧ w' = w := by
  obtain ⟨R, hR⟩ : ∃ R, R = turnsI k := ⟨_, rfl⟩
  rw [← hR]
  have HR := hid hR
  clear hR
  go_enter Tryz.func23, Tryz.ntmps23
  go_wp2
  all_goals go_ret
  all_goals
    refine ⟨?_, rfl⟩
    rw [HR.out]
    unfold turnsI
    simp_all <;> omega
set_option maxRecDepth 100000 in
theorem within_any (s a n : Int) (h0 : 0 ≤ s) (h1 : s ≤ 4096) (w : World) : Calls Tryz.prog 79 #[.int .i64 s, .int .i64 a, .int .i64 n] w fun r w' => r = .returned (.bool (withinI s a n)) ∧ w' = w := by
  obtain ⟨R, hR⟩ : ∃ R, R = withinI s a n := ⟨_, rfl⟩
  rw [← hR]
  have HR := hid hR
  clear hR
  go_enter Tryz.func79, Tryz.ntmps79
  go_wp2
  all_goals go_ret
  all_goals
    refine ⟨?_, rfl⟩
    rw [HR.out]
    unfold withinI
    simp_all <;> omega
set_option maxRecDepth 100000 in
theorem size_any (n cl : Int) (h0 : 0 ≤ cl) (h1 : cl ≤ 6) (w : World) : Calls Tryz.prog 73 #[.int .i64 n, .int .i64 cl] w fun r w' => r = .returned (.bool (sizeOk n cl)) ∧ w' = w := by
  have hc : cl = 0 ∨ cl = 1 ∨ cl = 2 ∨ cl = 3 ∨ cl = 4 ∨ cl = 5 ∨ cl = 6 := by omega
  obtain ⟨R, hR⟩ : ∃ R, R = sizeOk n cl := ⟨_, rfl⟩
  rw [← hR]
  have HR := hid hR
  clear hR h0 h1
  rcases hc with rfl | rfl | rfl | rfl | rfl | rfl | rfl
  all_goals
    go_enter Tryz.func73, Tryz.ntmps73
    go_wp2
    all_goals go_ret
    all_goals
      refine ⟨?_, rfl⟩
      rw [HR.out]
      unfold sizeOk
      simp_all <;> omega
end Go.Proofs.YtgkabcaodnofnaaGreat
