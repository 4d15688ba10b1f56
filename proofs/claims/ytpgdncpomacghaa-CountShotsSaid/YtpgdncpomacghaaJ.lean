import Derived.Test.YtpgdncpomacghaaI
import Derived.Test.YtpgdncpomacghaaQ
namespace Go.Proofs.Ytpgdncpomacghaa
open Go.RowKit Go.Mx Go.Cnt Go.Shelf

set_option maxRecDepth 100000 in
set_option maxHeartbeats 1000000 in
theorem countFrees_walk (us : List Int) (uv : Value) (n f m : Int) (w : World) (hu : SlI w w.heap.size uv us)
    (hn1 : -9223372036854775808 ≤ n) (hn2 : n ≤ 9223372036854775807) (hf2 : f ≤ 9223372036854775807) (hm1 : -9223372036854775808 ≤ m) (hm2 : m ≤ 9223372036854775807) :
    Calls Try.prog 5 #[uv, .int .i64 n, .int .i64 f, .int .i64 m] w fun e w' => e = .returned (.bool true) ∧ Below w.heap.size w w' := by
  have hlen := fun w' => hu.len (P := Try.prog) (ty := 3) Try.underlying27 w'
  by_cases h1 : 2000 < us.length
  · go_enter Try.func5, Try.ntmps5
    go_wp2_with (go_at_call 13; refine (awake_any _).mono ?_; rintro e w' ⟨rfl, hbel⟩)
    go_ret
    exact ⟨rfl, hbel⟩
  by_cases h2 : 70000 < f
  · go_enter Try.func5, Try.ntmps5
    go_wp2_with (go_at_call 13; refine (awake_any _).mono ?_; rintro e w' ⟨rfl, hbel⟩)
    go_ret
    exact ⟨rfl, hbel⟩
  by_cases h3 : 1099511627776 < m
  · go_enter Try.func5, Try.ntmps5
    go_wp2_with (go_at_call 13; refine (awake_any _).mono ?_; rintro e w' ⟨rfl, hbel⟩)
    go_ret
    exact ⟨rfl, hbel⟩
  have hF := hid (free_any us uv n f m w hu (by omega) hn1 hf2 hm2)
  have hR := hid (rfree_any us uv n f m w hu (by omega) hn1 hn2 (by omega) hm1 (by omega))
  obtain ⟨⟨a, b⟩, hab⟩ : ∃ r, r = freeM us n f m := ⟨_, rfl⟩
  rw [← hab] at hF hR
  simp only at hF hR
  clear hab
  go_enter Try.func5, Try.ntmps5
  go_wp2_with fail
  refine hF.out.mono ?_
  rintro e w' ⟨rfl, rfl⟩
  go_wp2_with fail
  refine hR.out.mono ?_
  rintro e w' ⟨rfl, rfl⟩
  cases b
  all_goals
    go_wp2_with (go_at_call 13; refine (awake_any _).mono ?_; rintro e w' ⟨rfl, hbel⟩)
    go_ret
    exact ⟨rfl, hbel⟩

theorem first_nil (n s : Nat) : first [] n s = s := first_end _ _ _ (by simp)

set_option maxRecDepth 100000 in
set_option maxHeartbeats 1000000 in
theorem countNone_walk (n f : Int) (w : World) (hn : 0 ≤ n ∧ n ≤ 255) (hf : 0 ≤ f ∧ f ≤ 255) :
    Calls Try.prog 10 #[.int .u8 n, .int .u8 f] w fun e w' => e = .returned (.bool true) ∧ Below w.heap.size w w' := by
  obtain ⟨hn0, hn1⟩ := hn
  obtain ⟨hf0, hf1⟩ := hf
  have H := fun (a b c : Int) (h1 : -9223372036854775808 ≤ a) (h2 : b ≤ 9223372036854775807) (h3 : c ≤ 9223372036854775807) => hid (free_any [] (.slice none 0 0) a b c w (SlI.nil _ _) (by simp) h1 h2 h3)
  have F1 := hid (show freeM [] (-n) 0 100 = (0, false) from if_pos (by omega))
  have F2 := hid (show freeM [] 1 (-1 - f) 100 = (0, false) from if_pos (by omega))
  have F3 := hid (show freeM [] (1 + n) f (n + f + 1) = (f, true) by
    unfold freeM; rw [if_neg (by omega), first_nil, if_neg (by omega), Int.toNat_of_nonneg hf0])
  have F4 := hid (show freeM [] (1 + n) f (n + f) = (0, false) by
    unfold freeM
    by_cases h : f = 0
    · rw [if_pos (by omega)]
    · rw [if_neg (by omega), first_nil, if_pos (by omega)])
  have H1 := H (-n) 0 100 (by omega) (by omega) (by omega)
  have H2 := H 1 (-1 - f) 100 (by omega) (by omega) (by omega)
  have H3 := H (1 + n) f (n + f + 1) (by omega) (by omega) (by omega)
  have H4 := H (1 + n) f (n + f) (by omega) (by omega) (by omega)
  rw [F1.out] at H1
  rw [F2.out] at H2
  rw [F3.out] at H3
  rw [F4.out] at H4
  clear F1 F2 F3 F4 H
  go_enter Try.func10, Try.ntmps10
  go_wp2_with fail
  refine H1.out.mono ?_
  rintro e w' ⟨rfl, rfl⟩
  go_wp2_with fail
  refine H2.out.mono ?_
  rintro e w' ⟨rfl, rfl⟩
  go_wp2_with fail
  refine H3.out.mono ?_
  rintro e w' ⟨rfl, rfl⟩
  go_wp2_with fail
  refine H4.out.mono ?_
  rintro e w' ⟨rfl, rfl⟩
  go_wp2_with (go_at_call 13; refine (awake_any _).mono ?_; rintro e w' ⟨rfl, hbel⟩)
  go_ret
  exact ⟨rfl, hbel⟩
end Go.Proofs.Ytpgdncpomacghaa
