import Derived.Test.YtoccgpddmhhlgaaD
namespace Go.Proofs.Ytoccgpddmhhlgaa
open Go.RowKit Go.Mx Go.Crc

set_option maxRecDepth 100000 in
set_option maxHeartbeats 1000000 in
theorem rmore_any (s : BitVec 32) (bs : List UInt8) (bv : Value) (w : World) (hb : SlB w w.heap.size bv bs) (hlen : bs.length ≤ 1000000000) :
    Calls Try.prog 55 #[.int .u32 s.toNat, bv] w fun e w' => e = .returned (.int .u32 (more s bs).toNat) ∧ w = w' := by
  obtain ⟨oa, cap, rfl, h1, h2, h3⟩ := hb
  have H3 := hid h3
  clear h3
  obtain ⟨R, hR⟩ : ∃ R, R = more s bs := ⟨_, rfl⟩
  rw [← hR]
  obtain ⟨c0, hc0⟩ : ∃ c0, c0 = ~~~ s := ⟨_, rfl⟩
  have hns := not_u32 s
  rw [← hc0] at hns
  have HR : Hid (R = ~~~ (crcL c0 bs)) := by unfold Hid; rw [hR, hc0]; rfl
  clear hR hc0
  have hsl := s.isLt
  go_enter Try.func55, Try.ntmps55
  go_wp2
  clear hns
  go_loop [5, 6] (fun c i => ∃ (k : Nat) (d : BitVec 32), k ≤ bs.length ∧ i = .int .i64 k ∧ c = .int .u32 d.toNat ∧ Hid (R = ~~~ (crcL d (bs.drop k))))
    (fun _ i => bs.length - (intOf i).toNat)
  case atStart => exact ⟨0, c0, by omega, rfl, rfl, by rw [List.drop_zero]; exact HR⟩
  case round =>
    obtain ⟨k, d, hk, rfl, rfl, HR2⟩ := hrel
    clear HR
    by_cases hlt : k < bs.length
    · obtain ⟨bb, bo, rfl, hbb, hrd⟩ := H3.out (by rintro rfl; simp at hlt)
      have hcell := hrd.at hlt
      obtain ⟨x, hx⟩ : ∃ x, x = bs.getD k 0 := ⟨_, rfl⟩
      rw [← hx] at hcell
      have hR3 := HR2.out
      rw [drop_getD bs k hlt, ← hx] at hR3
      simp only [crcL, List.foldl_cons, crcB] at hR3
      clear HR2 hx hrd
      have hx1 := xor_u8 d x
      have hxl := x.toNat_lt
      obtain ⟨d1, hd1⟩ : ∃ d1, d1 = d ^^^ z8 x := ⟨_, rfl⟩
      rw [← hd1] at hx1 hR3
      have HR3 := hid hR3
      clear hd1 hR3
      have hd1l := d1.isLt
      go_wp2
      clear hx1 hcell
      go_loop [5, 7] (fun c i => ∃ (j : Nat) (g : BitVec 32), j ≤ 8 ∧ i = .int .i64 j ∧ c = .int .u32 g.toNat ∧ Hid (R = ~~~ (List.foldl (fun h b => stpN 8 (h ^^^ z8 b)) (stpN (8 - j) g) (bs.drop (k + 1)))))
        (fun _ i => 8 - (intOf i).toNat)
      case atStart => exact ⟨0, d1, by omega, rfl, rfl, HR3⟩
      case round =>
        obtain ⟨j, g, hj, rfl, rfl, HT2⟩ := hrel
        clear HR3 hd1l
        by_cases hj8 : j < 8
        · have hT3 := HT2.out
          rw [show 8 - j = (8 - (j + 1)) + 1 by omega, stpN] at hT3
          have HT3 := hid hT3
          clear hT3 HT2
          have hdl := g.isLt
          cases hb : g.getLsbD 0
          · have hm := lsb_false g hb
            have HS := hid (stp_false g hb)
            clear hb
            go_wp2
            go_round
            case rel => exact ⟨j+1, stp g, by omega, by go_num, by rw [HS.out], HT3⟩
            case measure => simp [intOf]; omega
          · have hm := lsb_true g hb
            have HS := hid (stp_true g hb)
            clear hb
            go_wp2
            go_round
            case rel => exact ⟨j+1, stp g, by omega, by go_num, by rw [HS.out], HT3⟩
            case measure => simp [intOf]; omega
        · obtain rfl : j = 8 := by omega
          go_wp2
          go_round
          case rel => exact ⟨k+1, g, by omega, by go_num, rfl, HT2⟩
          case measure => simp [intOf]; omega
    · have hR3 := HR2.out
      rw [List.drop_eq_nil_of_le (by omega)] at hR3
      have hR4 : R = ~~~ d := hR3
      have hn := not_u32 d
      rw [← hR4] at hn
      clear hR3 HR2 hR4
      go_wp2
      go_ret
      exact ⟨rfl, rfl⟩

theorem sum_any (bs : List UInt8) (bv : Value) (w : World) (hb : SlB w w.heap.size bv bs) (hlen : bs.length ≤ 1000000000) :
    Calls Try.prog 36 #[bv] w fun e w' => e = .returned (.int .u32 (sum bs).toNat) ∧ Below w.heap.size w w' := by
  have hc : Calls Try.prog 52 #[.int .u32 0, bv] w _ := more_any 0 bs bv w hb hlen
  have HC := hid hc
  clear hc
  go_enter Try.func36, Try.ntmps36
  go_wp2_with fail
  refine HC.out.mono ?_
  rintro e w' ⟨rfl, hbel⟩
  go_wp2
  go_ret
  exact ⟨rfl, hbel⟩

theorem rsum_any (bs : List UInt8) (bv : Value) (w : World) (hb : SlB w w.heap.size bv bs) (hlen : bs.length ≤ 1000000000) :
    Calls Try.prog 40 #[bv] w fun e w' => e = .returned (.int .u32 (sum bs).toNat) ∧ w = w' := by
  have hc : Calls Try.prog 55 #[.int .u32 0, bv] w _ := rmore_any 0 bs bv w hb hlen
  have HC := hid hc
  clear hc
  go_enter Try.func40, Try.ntmps40
  go_wp2_with fail
  refine HC.out.mono ?_
  rintro e w' ⟨rfl, rfl⟩
  go_wp2
  go_ret
  exact ⟨rfl, rfl⟩

end Go.Proofs.Ytoccgpddmhhlgaa
