import Derived.Test.YtpgdncpomacghaaRows
import Derived.Test.YtpgdncpomacghaaN
import Derived.Test.YtpgdncpomacghaaL
namespace Go.Proofs.Ytpgdncpomacghaa
open Go.RowKit Go.Mx Go.Cnt

theorem hid {p : Prop} (h : p) : Hid p := h
theorem sizeI (w : World) : (sizeOf 3).run Try.prog w = .ok 1 w := by kernel_rfl

theorem ret_ib {a : Int} {b : Bool} {r : Int × Bool} (h : r = (a, b)) : Ending.returned (.tuple #[.int .i64 a, .bool b]) = .returned (.tuple #[.int .i64 r.1, .bool r.2]) := by rw [h]

def fitM (s n m : Int) : Int × Bool := if s > m - n then (0, false) else (s, true)

theorem fits_any (s n m : Int) (w : World) (hn : 1 ≤ n) (hm : n ≤ m) (hm2 : m ≤ 9223372036854775807) :
    Calls Try.prog 34 #[.int .i64 s, .int .i64 n, .int .i64 m] w fun e w' => e = .returned (.tuple #[.int .i64 (fitM s n m).1, .bool (fitM s n m).2]) ∧ w = w' := by
  by_cases h : m - n < s
  · have HF := hid (show fitM s n m = (0, false) from if_pos h)
    go_enter Try.func34, Try.ntmps34
    go_wp2
    go_ret2
    exact ⟨ret_ib HF.out, rfl⟩
  · have HF := hid (show fitM s n m = (s, true) from if_neg h)
    go_enter Try.func34, Try.ntmps34
    go_wp2
    go_ret2
    exact ⟨ret_ib HF.out, rfl⟩

theorem freeM_fit (us : List Int) (n f m : Int) (h : ¬ (n < 1 ∨ f < 0 ∨ m < 0 ∨ n > m)) : freeM us n f m = fitM (first us n.toNat f.toNat : Nat) n m := by
  unfold freeM fitM; rw [if_neg h]

set_option maxRecDepth 100000 in
set_option maxHeartbeats 1000000 in
theorem free_any (us : List Int) (uv : Value) (n f m : Int) (w : World) (hu : SlI w w.heap.size uv us) (hl : us.length ≤ 1000000000)
    (hn : -9223372036854775808 ≤ n) (hf2 : f ≤ 9223372036854775807) (hm2 : m ≤ 9223372036854775807) :
    Calls Try.prog 19 #[uv, .int .i64 n, .int .i64 f, .int .i64 m] w fun e w' => e = .returned (.tuple #[.int .i64 (freeM us n f m).1, .bool (freeM us n f m).2]) ∧ w = w' := by
  have hlen := fun w' => hu.len (P := Try.prog) (ty := 3) Try.underlying27 w'
  by_cases hbad : n < 1 ∨ f < 0 ∨ m < 0 ∨ n > m
  · have HF := hid (show freeM us n f m = (0, false) from if_pos hbad)
    by_cases h1 : n < 1
    · clear hbad
      go_enter Try.func19, Try.ntmps19
      go_wp2
      go_ret2
      exact ⟨ret_ib HF.out, rfl⟩
    by_cases h2 : f < 0
    · clear hbad
      go_enter Try.func19, Try.ntmps19
      go_wp2
      go_ret2
      exact ⟨ret_ib HF.out, rfl⟩
    by_cases h3 : m < 0
    · clear hbad
      go_enter Try.func19, Try.ntmps19
      go_wp2
      go_ret2
      exact ⟨ret_ib HF.out, rfl⟩
    have h4 : m < n := by omega
    clear hbad
    go_enter Try.func19, Try.ntmps19
    go_wp2
    go_ret2
    exact ⟨ret_ib HF.out, rfl⟩
  · have hn1 : 1 ≤ n := by omega
    have hf1 : 0 ≤ f := by omega
    have hm1 : 0 ≤ m := by omega
    have hnm : n ≤ m := by omega
    have HR := freeM_fit us n f m hbad
    clear hbad
    obtain ⟨k, rfl⟩ := Int.eq_ofNat_of_zero_le hf1
    obtain ⟨N, rfl⟩ := Int.eq_ofNat_of_zero_le (show 0 ≤ n by omega)
    simp only [Int.toNat_natCast] at HR
    obtain ⟨R, hR⟩ : ∃ R, R = freeM us N k m := ⟨_, rfl⟩
    rw [← hR] at HR ⊢
    clear hR
    have HH := hid HR
    clear HR
    by_cases hk : k < us.length
    · go_enter Try.func19, Try.ntmps19
      go_wp2
      go_loop [10, 11] (fun r i => ∃ (s run : Nat), s ≤ us.length ∧ i = .int .i64 s ∧ r = .int .i64 run ∧ Run us N k s run (first us N k))
        (fun _ i => us.length - (intOf i).toNat)
      case atStart => exact ⟨k, 0, by omega, rfl, rfl, Run.start us N k (by omega)⟩
      case round =>
        obtain ⟨s, run, hs, rfl, rfl, hrun⟩ := hrel
        have hlt := hrun.lt
        have hle := hrun.le
        have HRun := hid hrun
        clear hrun
        by_cases hsl : s < us.length
        · obtain ⟨b, o, hb, hia, hc⟩ := hu.addr (P := Try.prog) Try.underlying27 sizeI s hsl
          by_cases hz : us.getD s 0 = 0
          · rw [hz] at hc
            have HZ := hid hz
            clear hz
            by_cases hfull : run + 1 = N
            · have hbe : ((run : Int) + 1 == (N : Int)) = true := by simp; omega
              have hfin := HRun.out.full HZ.out hfull
              have hge : N ≤ s + 1 := by omega
              clear hfull
              go_wp2_with fail
              have HFin := hid (show (s : Int) - (N : Int) + 1 = (first us N k : Nat) by rw [hfin]; omega)
              clear hfin
              refine (fits_any _ _ _ _ (by omega) (by omega) (by omega)).mono ?_
              rintro e w' ⟨rfl, rfl⟩
              go_wp2
              go_ret2
              exact ⟨ret_ib (by rw [HH.out, HFin.out]), rfl⟩
            · have hbe : ((run : Int) + 1 == (N : Int)) = false := by rw [beq_eq_false_iff_ne]; omega
              go_wp2_with fail
              go_round
              case rel => exact ⟨s + 1, run + 1, by omega, by go_num, by go_num, HRun.out.free HZ.out (by omega)⟩
              case measure => simp [intOf]; omega
          · have hzb : (us.getD s 0 != 0) = true := by rw [bne_iff_ne]; exact hz
            obtain ⟨x, hx⟩ : ∃ x, x = us.getD s 0 := ⟨_, rfl⟩
            rw [← hx] at hc hzb
            have HZ := hid hz
            clear hz hx
            go_wp2_with fail
            go_round
            case rel => exact ⟨s + 1, 0, by omega, by go_num, rfl, HRun.out.used hsl HZ.out⟩
            case measure => simp [intOf]; omega
        · obtain rfl : s = us.length := by omega
          have hd := HRun.out.done
          have HD := hid (show (us.length : Int) - (run : Int) = (first us N k : Nat) by rw [hd]; omega)
          clear hd
          go_wp2_with fail
          refine (fits_any _ _ _ _ (by omega) (by omega) (by omega)).mono ?_
          rintro e w' ⟨rfl, rfl⟩
          go_wp2
          go_ret2
          exact ⟨ret_ib (by rw [HH.out, HD.out]), rfl⟩
    · have hfe := first_end us N k (by omega)
      have HD := hid (show (k : Int) = (first us N k : Nat) by rw [hfe])
      clear hfe
      go_enter Try.func19, Try.ntmps19
      go_wp2
      refine wp_loop_once ?_
      go_wp2_with fail
      refine (fits_any _ _ _ _ (by omega) (by omega) (by omega)).mono ?_
      rintro e w' ⟨rfl, rfl⟩
      go_wp2
      go_ret2
      exact ⟨ret_ib (by rw [HH.out, ← HD.out]), rfl⟩
end Go.Proofs.Ytpgdncpomacghaa
