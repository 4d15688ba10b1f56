import Derived.Test.YtcmfmjmjamfndaaP3
namespace Go.Proofs.Ytcmfmjmjamfndaa
open Go.RowKit Go.Mx Go.Dk
set_option linter.unusedSimpArgs false
set_option linter.unusedVariables false
section
variable {w : World} {base p room left : Nat} {now kept : List Sec} {log : List (Nat × Sec)}
theorem read_off (h : H1 w base p (S1 room now kept log left true)) (a n : Int) :
    Calls Try.prog 19 #[dp p, fN, .int .i64 a, .int .i64 n] w fun e w' => e = .returned (.tuple #[.slice none 0 0, .int .i64 8]) ∧ w = w' := by
  obtain ⟨fs, m, lv, x, h⟩ := h
  have HH := hid (has_no h [102] (by decide) (show hasE (S1 room now kept log left true) [102] ≠ 0 by unfold hasE; simp [S1]))
  have e8 : hasE (S1 room now kept log left true) [102] = 8 := rfl
  rw [e8] at HH
  clear h e8
  go_enter Try.func19, Try.ntmps19
  go_wp2_with fail
  refine HH.out.mono ?_
  rintro e w1 ⟨rfl, rfl⟩
  go_wp2
  go_ret2
  exact ⟨rfl, rfl⟩
theorem remove_off (h : H1 w base p (S1 room now kept log left true)) :
    Calls Try.prog 21 #[dp p, fN] w fun e w' => e = .returned (.int .i64 8) ∧ w = w' := by
  obtain ⟨fs, m, lv, x, h⟩ := h
  have HH := hid (has_no h [102] (by decide) (show hasE (S1 room now kept log left true) [102] ≠ 0 by unfold hasE; simp [S1]))
  have e8 : hasE (S1 room now kept log left true) [102] = 8 := rfl
  rw [e8] at HH
  clear h e8
  go_enter Try.func21, Try.ntmps21
  go_wp2_with fail
  refine HH.out.mono ?_
  rintro e w1 ⟨rfl, rfl⟩
  go_wp2
  go_ret
  exact ⟨rfl, rfl⟩
theorem flush_off (h : H1 w base p (S1 room now kept log left true)) :
    Calls Try.prog 16 #[dp p, fN] w fun e w' => e = .returned (.int .i64 8) ∧ w = w' := by
  obtain ⟨fs, m, lv, x, h⟩ := h
  have HH := hid (has_no h [102] (by decide) (show hasE (S1 room now kept log left true) [102] ≠ 0 by unfold hasE; simp [S1]))
  have e8 : hasE (S1 room now kept log left true) [102] = 8 := rfl
  rw [e8] at HH
  clear h e8
  go_enter Try.func16, Try.ntmps16
  go_wp2_with fail
  refine HH.out.mono ?_
  rintro e w1 ⟨rfl, rfl⟩
  go_wp2
  go_ret
  exact ⟨rfl, rfl⟩
theorem cut_off (h : H1 w base p (S1 room now kept log left true)) (a : Int) :
    Calls Try.prog 23 #[dp p, fN, .int .i64 a] w fun e w' => e = .returned (.int .i64 8) ∧ w = w' := by
  obtain ⟨fs, m, lv, x, h⟩ := h
  have HH := hid (has_no h [102] (by decide) (show hasE (S1 room now kept log left true) [102] ≠ 0 by unfold hasE; simp [S1]))
  have e8 : hasE (S1 room now kept log left true) [102] = 8 := rfl
  rw [e8] at HH
  clear h e8
  go_enter Try.func23, Try.ntmps23
  go_wp2_with fail
  refine HH.out.mono ?_
  rintro e w1 ⟨rfl, rfl⟩
  go_wp2
  go_ret
  exact ⟨rfl, rfl⟩
theorem create_off (h : H1 w base p (S1 room now kept log left true)) (nm : Value) :
    Calls Try.prog 13 #[dp p, nm] w fun e w' => e = .returned (.int .i64 8) ∧ w = w' := by
  obtain ⟨fs, m, lv, x, h⟩ := h
  have HU := hid (up_any h)
  have e8 : (S1 room now kept log left true).off = true := rfl
  rw [e8] at HU
  simp only [if_true] at HU
  clear h e8
  go_enter Try.func13, Try.ntmps13
  go_wp2_with fail
  refine HU.out.mono ?_
  rintro e w1 ⟨rfl, rfl⟩
  go_wp2
  go_ret
  exact ⟨rfl, rfl⟩
end
end Go.Proofs.Ytcmfmjmjamfndaa
