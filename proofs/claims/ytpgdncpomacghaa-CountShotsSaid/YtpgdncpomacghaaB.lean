import Derived.Test.YtpgdncpomacghaaA
namespace Go.Proofs.Ytpgdncpomacghaa
open Go.RowKit Go.Mx Go.Cnt

set_option maxRecDepth 100000 in
set_option maxHeartbeats 1000000 in
theorem rfree_any (us : List Int) (uv : Value) (n f m : Int) (w : World) (hu : SlI w w.heap.size uv us) (hl : us.length ≤ 1000000)
    (hn0 : -9223372036854775808 ≤ n) (hn : n ≤ 9223372036854775807) (hf2 : f ≤ 1000000) (hm0 : -9223372036854775808 ≤ m) (hm2 : m ≤ 1099511627776) :
    Calls Try.prog 20 #[uv, .int .i64 n, .int .i64 f, .int .i64 m] w fun e w' => e = .returned (.tuple #[.int .i64 (freeM us n f m).1, .bool (freeM us n f m).2]) ∧ w = w' := by
  have hlen := fun w' => hu.len (P := Try.prog) (ty := 3) Try.underlying27 w'
  by_cases h1 : n < 1
  · have HF := hid (show freeM us n f m = (0, false) from if_pos (by omega))
    go_enter Try.func20, Try.ntmps20
    go_wp2
    go_ret2
    exact ⟨ret_ib HF.out, rfl⟩
  by_cases h2 : f < 0
  · have HF := hid (show freeM us n f m = (0, false) from if_pos (by omega))
    go_enter Try.func20, Try.ntmps20
    go_wp2
    go_ret2
    exact ⟨ret_ib HF.out, rfl⟩
  obtain ⟨k, rfl⟩ := Int.eq_ofNat_of_zero_le (show 0 ≤ f by omega)
  go_enter Try.func20, Try.ntmps20
  go_wp2
  go_loop [10, 11, 12] (fun i _ _ => ∃ s : Nat, k ≤ s ∧ s ≤ max k us.length ∧ i = .int .i64 s ∧ Hid (first us n.toNat k = first us n.toNat s))
    (fun i _ _ => us.length - (intOf i).toNat)
  case atStart => exact ⟨k, Nat.le_refl _, by omega, rfl, rfl⟩
  case round =>
    obtain ⟨s, hks, hs, rfl, HF⟩ := hrel
    have hs2 : s ≤ 1000000 := by omega
    by_cases hsm : (s : Int) ≤ m
    · by_cases hnm : n ≤ m - s
      · go_wp2_with fail
        go_loop [11, 12] (fun ok i => ∃ j : Nat, s ≤ j ∧ j ≤ max s us.length ∧ (j : Int) - s ≤ n ∧ i = .int .i64 j ∧ ok = .bool (freeB us s (j - s)))
          (fun _ i => us.length - (intOf i).toNat)
        case atStart => exact ⟨s, Nat.le_refl _, by omega, by omega, rfl, by rw [Nat.sub_self, freeB_zero]⟩
        case round =>
          obtain ⟨j, hsj, hj, hjn, rfl, rfl⟩ := hrel
          have hj2 : j ≤ 1000000 := by omega
          by_cases hjl : j < us.length
          · by_cases hjn2 : (j : Int) - s < n
            · obtain ⟨b, o, hb, hia, hc⟩ := hu.addr (P := Try.prog) Try.underlying27 sizeI j hjl
              have hsucc := freeB_succ us s (j - s) (by omega)
              rw [show s + (j - s) = j by omega] at hsucc
              obtain ⟨x, hx⟩ : ∃ x, x = us.getD j 0 := ⟨_, rfl⟩
              rw [← hx] at hc hsucc
              clear hx
              obtain ⟨bo, hbo⟩ : ∃ bo, bo = freeB us s (j - s) := ⟨_, rfl⟩
              rw [← hbo] at hsucc ⊢
              have HS := hid hsucc
              clear hbo hsucc
              cases bo
              · go_wp2_with fail
                go_round
                case rel => exact ⟨j + 1, by omega, by omega, by omega, by go_num, by rw [show j + 1 - s = j - s + 1 by omega, HS.out]; rfl⟩
                case measure => simp [intOf]; omega
              · go_wp2_with fail
                go_round
                case rel => exact ⟨j + 1, by omega, by omega, by omega, by go_num, by rw [show j + 1 - s = j - s + 1 by omega, HS.out]; simp⟩
                case measure => simp [intOf]; omega
            · have hz : freeB us s (j - s) = freeB us s n.toNat := by congr 1; omega
              rw [hz]
              cases hb : freeB us s n.toNat
              · have HB := hid hb
                have hsl : s < us.length := by
                  rcases Nat.lt_or_ge s us.length with h | h
                  · exact h
                  · rw [freeB_end _ _ _ h] at hb; cases hb
                clear hb hz
                go_wp2_with fail
                go_round
                case rel => exact ⟨s + 1, by omega, by omega, by go_num, by unfold Hid; rw [HF.out]; exact first_next _ _ _ HB.out⟩
                case measure => simp [intOf]; omega
              · have HR := hid (freeM_some us n m k s (by omega) HF.out hb (by omega))
                clear hb hz
                go_wp2_with fail
                go_ret2
                exact ⟨ret_ib HR.out, rfl⟩
          · have hz : freeB us s (j - s) = freeB us s n.toNat := freeB_past _ _ _ _ (by omega) (by omega)
            rw [hz]
            cases hb : freeB us s n.toNat
            · have HB := hid hb
              have hsl : s < us.length := by
                rcases Nat.lt_or_ge s us.length with h | h
                · exact h
                · rw [freeB_end _ _ _ h] at hb; cases hb
              clear hb hz
              go_wp2_with fail
              go_round
              case rel => exact ⟨s + 1, by omega, by omega, by go_num, by unfold Hid; rw [HF.out]; exact first_next _ _ _ HB.out⟩
              case measure => simp [intOf]; omega
            · have HR := hid (freeM_some us n m k s (by omega) HF.out hb (by omega))
              clear hb hz
              go_wp2_with fail
              go_ret2
              exact ⟨ret_ib HR.out, rfl⟩
      · have HR := hid (freeM_none us n m k s HF.out (by omega))
        go_wp2_with fail
        go_ret2
        exact ⟨ret_ib HR.out, rfl⟩
    · have HR := hid (freeM_none us n m k s HF.out (by omega))
      go_wp2_with fail
      go_ret2
      exact ⟨ret_ib HR.out, rfl⟩
end Go.Proofs.Ytpgdncpomacghaa
