import Derived.Test.YtpgdncpomacghaaS
import Derived.Deep.QuietTactic
import Derived.BigQuiet
namespace Go.Proofs.Ytpgdncpomacghaa
open Go.RowKit Go.Mx Go.Cnt Go.Shelf

set_option maxRecDepth 100000 in
set_option maxHeartbeats 2000000 in
theorem rEach_any (a0 a1 a2 tv sv mv cv : Value) (t : Tab) (ss : List ShotM) (w : World) (ht : IsTab w w.heap.size tv t) (hs : IsShots w w.heap.size sv ss) (hl : t.length ≤ 1000000) (hls : ∀ i, i < ss.length → (ss.getD i default).t.length ≤ 1000000) (hsl : ss.length ≤ 30) :
    Calls Try.prog 17 #[.agg #[a0, a1, a2, tv, sv, mv, cv]] w fun e w' => ∃ v, e = .returned v ∧ OwnL w' w.heap.size v (eachM t ss) ∧ Below w.heap.size w w' := by
  have hlen := fun w' => hs.len w' (ty := 3)
  have hb1 : Below w.heap.size w (w.alloc (.cells #[a0, a1, a2, tv, sv, mv, cv] 29)) := (Below.refl _ _).alloc (Nat.le_refl _) _
  have hz1 : (w.alloc (.cells #[a0, a1, a2, tv, sv, mv, cv] 29)).heap.size = w.heap.size + 1 := by simp
  have HC := hid (reach_any (w.heap.size + 1) (.slice none 0 0) [] (-1) tv t (w.alloc (.cells #[a0, a1, a2, tv, sv, mv, cv] 29)) (World.ownsRow_nil _ _ _ _) (by omega) ((ht.below hb1 (Nat.le_refl _)).mono (by omega)) hl (by simp))
  have HB1 := hid (And.intro hb1 hz1)
  have HLS := hid hls
  have c4 := World.cell?_alloc_at #[a0, a1, a2, tv, sv, mv, cv] 29 w.heap.size 4 rfl
  have C4 := hid c4
  clear hls hb1 hz1 c4
  go_enter Try.func17, Try.ntmps17
  go_wp2_with fail
  refine HC.out.mono ?_
  rintro e w2 ⟨v2, rfl, ho2, hb12⟩
  obtain ⟨hb1, hz1⟩ := HB1.out
  generalize w.alloc (.cells #[a0, a1, a2, tv, sv, mv, cv] 29) = w1 at *
  clear HC HB1
  rw [List.nil_append] at ho2
  go_wp2_with fail
  go_loopw [3, 4] (fun v i wr => ∃ k : Nat, k ≤ ss.length ∧ i = .int .i64 k ∧ OwnL wr (w.heap.size + 1) v (eachTo t ss k) ∧ Below (w.heap.size + 1) w1 wr)
    (fun _ i _ => ss.length - (intOf i).toNat)
  case atStart => exact ⟨0, by omega, rfl, by rw [eachTo_zero]; exact ho2, hb12⟩
  case round =>
    obtain ⟨k, hk, rfl, ho, hbel⟩ := hrel
    clear ho2 hb12
    have hz := hbel.size
    have hc4 : wr.cell? ⟨w.heap.size, 4, none⟩ = some sv := (hbel.cell (p := ⟨w.heap.size, 4, none⟩) (by simp)).trans C4.out
    by_cases hlt : k < ss.length
    · obtain ⟨b, o, tv', hb, hia, c0, c1, c2, htk⟩ := ((hs.below hb1 (Nat.le_refl _)).below (hbel.mono (by omega)) (Nat.le_refl _)).at k hlt
      obtain ⟨ta, tn, tc, rfl⟩ := htk.shape
      have hlk := HLS.out k hlt
      have hel := eachTo_len t ss 1000000 hl HLS.out k hk
      have hel2 : (eachTo t ss k).length ≤ 300000000 := by
        have : (k + 1) * (1000000 * 8) ≤ 31 * (1000000 * 8) := Nat.mul_le_mul_right _ (by omega)
        omega
      have HS := hid (eachTo_succ t ss k)
      have HA := hid (reach_any (w.heap.size + 1) u3 (eachTo t ss k) (k : Int) (.slice ta tn tc) (ss.getD k default).t wr ho (by omega) (htk.mono (by omega)) hlk hel2)
      clear ho htk c0 c1
      go_wp2_with fail
      refine HA.out.mono ?_
      rintro e w3 ⟨v3, rfl, ho3, hb3⟩
      have hb4 := hbel.trans hb3
      clear HA hb3
      go_wp2
      go_roundw
      case rel => exact ⟨k + 1, by omega, by go_num, by rw [HS.out]; exact ho3, hb4⟩
      case measure => simp [intOf]; omega
    · obtain rfl : k = ss.length := by omega
      go_wp2
      go_ret
      exact ⟨_, rfl, ownsRow_base ho (by omega), hb1.trans (hbel.mono (by omega))⟩
end Go.Proofs.Ytpgdncpomacghaa
