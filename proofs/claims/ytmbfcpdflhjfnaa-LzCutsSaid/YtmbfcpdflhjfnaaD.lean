import Derived.Test.YtmbfcpdflhjfnaaC
namespace Go.Proofs.Ytmbfcpdflhjfnaa
open Go.RowKit Go.Mx Go.Lz

def RLenPost (w : World) (k0 : Nat) (r : Option (Nat × Nat)) (e : Ending) (w' : World) : Prop :=
  w = w' ∧ match r with
  | none => e = .returned (.tuple #[.int .i64 0, .int .i64 0, .bool false])
  | some (n, c) => e = .returned (.tuple #[.int .i64 n, .int .i64 (k0 + c : Nat), .bool true])

theorem rlen_none {w : World} {k0 : Nat} {r : Option (Nat × Nat)} (h : r = none) : RLenPost w k0 r (.returned (.tuple #[.int .i64 0, .int .i64 0, .bool false])) w := by subst h; exact ⟨rfl, rfl⟩
theorem rlen_some {w : World} {k0 n c : Nat} {m k : Int} {r : Option (Nat × Nat)} (h : r = some (n, c)) (hm : m = n) (hk : k = (k0 + c : Nat)) : RLenPost w k0 r (.returned (.tuple #[.int .i64 m, .int .i64 k, .bool true])) w := by subst h; subst hm; subst hk; exact ⟨rfl, rfl⟩

theorem byte_ne' {y : UInt8} (h : ¬ y = 255) : ((y.toNat : Int) != 255) = true := by
  rw [bne_iff_ne]; intro h'; apply h; apply UInt8.toNat_inj.1; simpa using (by omega : y.toNat = 255)

set_option maxHeartbeats 1000000 in
theorem rlength_any (k0 n0 bb bo cap : Nat) (bs : List UInt8) (w : World) (hx : RdB w bb bo bs) (hcap : bs.length ≤ cap) (hk : k0 ≤ bs.length) (hn : n0 ≤ 15) (hlen : bs.length ≤ 1000000000000) :
    Calls Try.prog 20 #[.slice (some ⟨bb, bo, none⟩) bs.length cap, .int .i64 k0, .int .i64 n0] w (RLenPost w k0 (lenM (bs.drop k0) n0)) := by
  by_cases hn15 : n0 < 15
  · have HR : Hid (lenM (bs.drop k0) n0 = some (n0, 0)) := by unfold Hid lenM; rw [if_pos hn15]
    go_enter Try.func20, Try.ntmps20
    go_wp2
    go_ret3
    exact rlen_some HR.out rfl rfl
  · obtain rfl : n0 = 15 := by omega
    obtain ⟨R, hR⟩ : ∃ R, R = lenM (bs.drop k0) 15 := ⟨_, rfl⟩
    rw [← hR]
    have HR := hid hR
    clear hR
    go_enter Try.func20, Try.ntmps20
    go_wp2
    go_loop [1, 9] (fun at_ n => ∃ k m : Nat, k0 ≤ k ∧ k ≤ bs.length ∧ at_ = .int .i64 k ∧ n = .int .i64 m ∧ m ≤ 15 + 255 * (k - k0) ∧
        Hid (R = (lenGo (bs.drop k) m).map (fun p => (p.1, p.2 + (k - k0)))))
      (fun at_ _ => bs.length - (intOf at_).toNat)
    case atStart => exact ⟨k0, 15, by omega, hk, rfl, rfl, by omega, by rw [HR.out]; unfold Hid lenM; simp⟩
    case round =>
      obtain ⟨k, m, hk1, hk2, rfl, rfl, hm, HR'⟩ := hrel
      by_cases hlt : k < bs.length
      · have hcell := hx.at hlt
        have hR := HR'.out
        rw [drop_getD bs k hlt, lenGo] at hR
        obtain ⟨y, hy⟩ : ∃ y, y = bs.getD k 0 := ⟨_, rfl⟩
        rw [← hy] at hcell hR
        have hyb := UInt8.toNat_lt y
        clear hy HR HR'
        by_cases hy255 : y = 255
        · subst hy255
          rw [if_pos rfl] at hR
          have HR := hid hR
          clear hR
          go_wp2
          go_round
          case rel => exact ⟨k+1, m+255, by omega, by omega, by go_num, by go_num, by omega, by
            rw [HR.out]; unfold Hid; simp only [Option.map_map]; congr 1; funext p; simp only [Function.comp]; congr 1; omega⟩
          case measure => simp [intOf]; omega
        · rw [if_neg hy255] at hR
          have hne := byte_ne' hy255
          have HR := hid hR
          clear hR hy255
          go_wp2
          go_ret3
          exact rlen_some HR.out (by omega) (by omega)
      · have hR := HR'.out
        rw [List.drop_eq_nil_of_le (by omega)] at hR
        have HR2 := hid hR
        clear hR HR' HR
        go_wp2
        go_ret3
        exact rlen_none HR2.out
end Go.Proofs.Ytmbfcpdflhjfnaa
