import Derived.Test.YtcmfmjmjamfndaaS
namespace Go.Proofs.Ytcmfmjmjamfndaa
open Go.RowKit Go.Mx Go.Dk
set_option linter.unusedSimpArgs false
set_option linter.unusedVariables false
abbrev nilD : Value := .pointer none
theorem upN (w : World) : Calls Try.prog 26 #[nilD] w fun e w' => e = .returned (.int .i64 15) ∧ w = w' := by
  go_enter Try.func26, Try.ntmps26
  go_wp2
  go_ret
  exact ⟨rfl, rfl⟩
theorem hasN (s : ByteArray) (w : World) : Calls Try.prog 28 #[nilD, .string s] w fun e w' => e = .returned (.tuple #[nilD, .int .i64 15]) ∧ w = w' := by
  go_enter Try.func28, Try.ntmps28
  go_wp2_with (go_at_call 26; refine (upN _).mono ?_; rintro e w' ⟨rfl, rfl⟩)
  go_ret2
  exact ⟨rfl, rfl⟩
theorem sizeN (s : ByteArray) (w : World) : Calls Try.prog 22 #[nilD, .string s] w fun e w' => e = .returned (.tuple #[.int .i64 0, .int .i64 15]) ∧ w = w' := by
  go_enter Try.func22, Try.ntmps22
  go_wp2
  go_ret2
  exact ⟨rfl, rfl⟩
theorem readN (s : ByteArray) (a n : Int) (w : World) : Calls Try.prog 19 #[nilD, .string s, .int .i64 a, .int .i64 n] w fun e w' => e = .returned (.tuple #[.slice none 0 0, .int .i64 15]) ∧ w = w' := by
  go_enter Try.func19, Try.ntmps19
  go_wp2_with (go_at_call 28; refine (hasN _ _).mono ?_; rintro e w' ⟨rfl, rfl⟩)
  go_ret2
  exact ⟨rfl, rfl⟩
theorem powerN (n : Int) (w : World) : Calls Try.prog 17 #[nilD, .int .i64 n] w fun e w' => e = .returned (.tuple #[]) ∧ w = w' := by
  go_enter Try.func17, Try.ntmps17
  go_wp2
  go_end0
  exact ⟨rfl, rfl⟩
theorem crashN (w : World) : Calls Try.prog 18 #[nilD, .slice none 0 0] w fun e w' => e = .returned (.tuple #[]) ∧ w = w' := by
  go_enter Try.func18, Try.ntmps18
  go_wp2
  refine bodyPost_ret (results_none rfl _ _ _) rfl ?_
  exact ⟨rfl, rfl⟩
theorem createN (s : ByteArray) (w : World) : Calls Try.prog 13 #[nilD, .string s] w fun e w' => e = .returned (.int .i64 15) ∧ w = w' := by
  go_enter Try.func13, Try.ntmps13
  go_wp2_with (go_at_call 26; refine (upN _).mono ?_; rintro e w' ⟨rfl, rfl⟩)
  go_ret
  exact ⟨rfl, rfl⟩
theorem removeN (s : ByteArray) (w : World) : Calls Try.prog 21 #[nilD, .string s] w fun e w' => e = .returned (.int .i64 15) ∧ w = w' := by
  go_enter Try.func21, Try.ntmps21
  go_wp2_with (go_at_call 28; refine (hasN _ _).mono ?_; rintro e w' ⟨rfl, rfl⟩)
  go_ret
  exact ⟨rfl, rfl⟩
theorem writeN (s : ByteArray) (a : Int) (w : World) : Calls Try.prog 14 #[nilD, .string s, .int .i64 a, .slice none 0 0] w fun e w' => e = .returned (.int .i64 15) ∧ w = w' := by
  go_enter Try.func14, Try.ntmps14
  go_wp2_with (go_at_call 28; refine (hasN _ _).mono ?_; rintro e w' ⟨rfl, rfl⟩)
  go_ret
  exact ⟨rfl, rfl⟩
theorem cutN (s : ByteArray) (a : Int) (w : World) : Calls Try.prog 23 #[nilD, .string s, .int .i64 a] w fun e w' => e = .returned (.int .i64 15) ∧ w = w' := by
  go_enter Try.func23, Try.ntmps23
  go_wp2_with (go_at_call 28; refine (hasN _ _).mono ?_; rintro e w' ⟨rfl, rfl⟩)
  go_ret
  exact ⟨rfl, rfl⟩
theorem flushN (s : ByteArray) (w : World) : Calls Try.prog 16 #[nilD, .string s] w fun e w' => e = .returned (.int .i64 15) ∧ w = w' := by
  go_enter Try.func16, Try.ntmps16
  go_wp2_with (go_at_call 28; refine (hasN _ _).mono ?_; rintro e w' ⟨rfl, rfl⟩)
  go_ret
  exact ⟨rfl, rfl⟩
theorem listN (w : World) : Calls Try.prog 24 #[nilD] w fun e w' => e = .returned (.slice none 0 0) ∧ w = w' := by
  go_enter Try.func24, Try.ntmps24
  go_wp2
  go_ret
  exact ⟨rfl, rfl⟩
theorem usedN (w : World) : Calls Try.prog 20 #[nilD] w fun e w' => e = .returned (.int .i64 0) ∧ w = w' := by
  go_enter Try.func20, Try.ntmps20
  go_wp2
  go_ret
  exact ⟨rfl, rfl⟩
theorem copyN (w : World) : Calls Try.prog 25 #[nilD] w fun e w' => e = .returned nilD ∧ w = w' := by
  go_enter Try.func25, Try.ntmps25
  go_wp2
  go_ret
  exact ⟨rfl, rfl⟩
set_option maxRecDepth 100000 in
set_option maxHeartbeats 2000000 in
theorem nil_any (s : ByteArray) (n : Int) (w : World) : Calls Try.prog 9 #[.string s, .int .i64 n] w fun e w' => e = .returned (.bool true) ∧ Below w.heap.size w w' := by
  go_enter Try.func9, Try.ntmps9
  go_wp2_with (first
    | (go_at_call 22; refine (sizeN _ _).mono ?_; rintro e w' ⟨rfl, rfl⟩)
    | (go_at_call 19; refine (readN _ _ _ _).mono ?_; rintro e w' ⟨rfl, rfl⟩)
    | (go_at_call 17; refine (powerN _ _).mono ?_; rintro e w' ⟨rfl, rfl⟩)
    | (go_at_call 18; refine (crashN _).mono ?_; rintro e w' ⟨rfl, rfl⟩)
    | (go_at_call 13; refine (createN _ _).mono ?_; rintro e w' ⟨rfl, rfl⟩)
    | (go_at_call 21; refine (removeN _ _).mono ?_; rintro e w' ⟨rfl, rfl⟩)
    | (go_at_call 14; refine (writeN _ _ _).mono ?_; rintro e w' ⟨rfl, rfl⟩)
    | (go_at_call 23; refine (cutN _ _ _).mono ?_; rintro e w' ⟨rfl, rfl⟩)
    | (go_at_call 16; refine (flushN _ _).mono ?_; rintro e w' ⟨rfl, rfl⟩)
    | (go_at_call 24; refine (listN _).mono ?_; rintro e w' ⟨rfl, rfl⟩)
    | (go_at_call 20; refine (usedN _).mono ?_; rintro e w' ⟨rfl, rfl⟩)
    | (go_at_call 25; refine (copyN _).mono ?_; rintro e w' ⟨rfl, rfl⟩)
    | (go_at_call 12; refine (num_any _ _).mono ?_; rintro e w' ⟨rfl, rfl⟩)
    | (go_at_call 10; refine (awake_any _).mono ?_; rintro e w9 ⟨rfl, hb9⟩))
  go_ret
  exact ⟨rfl, hb9⟩
end Go.Proofs.Ytcmfmjmjamfndaa
