import Derived.Test.YtpgdncpomacghaaZ2
import Derived.Test.YtpgdncpomacghaaL2
import Derived.BigQuiet
namespace Go.Proofs.Ytpgdncpomacghaa
open Go.RowKit Go.Mx Go.Cnt Go.Shelf

set_option maxRecDepth 100000 in
set_option maxHeartbeats 4000000 in
theorem sums_any (m : MetaM) (tv sv mv cv : Value) (w : World) (hm : IsMeta w w.heap.size m tv sv mv cv) (hw : MetaW m) :
    Calls Try.prog 6 #[metaV m tv sv mv cv] w fun e w' => e = .returned (.bool true) ∧ Below w.heap.size w w' := by
  have hB0 := Bx.new hm
  have hb0 : Below w.heap.size w (w.alloc (.cells #[.int .i64 m.cl, .int .i64 m.sz, .string ⟨m.bk.toArray⟩, tv, sv, mv, cv] 29)) := (Below.refl _ _).alloc (Nat.le_refl _) _
  have HG := hid (great_any m tv sv mv cv _ hB0.is hw)
  have HB0 := hid (And.intro hB0 hb0)
  have HMW := hid hw
  clear hB0 hb0 hm hw
  unfold metaV
  go_enter Try.func6, Try.ntmps6
  go_wp2_with fail
  refine HG.out.mono ?_
  rintro e w1 ⟨b1, rfl, hP1, hb1⟩
  have B1 := HB0.out.1.step hb1
  have hw1 : Below w.heap.size w w1 := HB0.out.2.trans (hb1.mono HB0.out.2.size)
  obtain ⟨c0, c1, c2, c3, c4, c5, c6⟩ := B1.cells
  have HB1 := hid (And.intro B1 (And.intro hw1 hP1))
  clear B1 hw1 hP1 hb1 HB0 HG
  cases b1
  rotate_left
  · go_wp2_with fail
    refine (awake_any _).mono ?_
    rintro e w2 ⟨rfl, hb2⟩
    go_wp2
    go_ret
    exact ⟨rfl, HB1.out.2.1.trans (hb2.mono HB1.out.2.1.size)⟩
  have HS := hid (HB1.out.2.2 rfl)
  go_wp2_with fail
  refine (right_any m tv sv mv cv _ HB1.out.1.is HMW.out).mono ?_
  rintro e w2 ⟨b2, rfl, hP2, hb2⟩
  have B2 := HB1.out.1.step hb2
  have hw2 : Below w.heap.size w w2 := HB1.out.2.1.trans (hb2.mono HB1.out.2.1.size)
  clear c0 c1 c2 c3 c4 c5 c6
  obtain ⟨c0, c1, c2, c3, c4, c5, c6⟩ := B2.cells
  have HB2 := hid (And.intro B2 (And.intro hw2 hP2))
  clear B2 hw2 hP2 hb2 HB1
  cases b2
  · go_wp2_with fail
    refine (awake_any _).mono ?_
    rintro e w3 ⟨rfl, hb3⟩
    go_wp2
    go_ret
    exact ⟨rfl, HB2.out.2.1.trans (hb3.mono HB2.out.2.1.size)⟩
  have HM := hid (Main.mk HS.out (HB2.out.2.2 rfl) HMW.out)
  have HBW := hid HB2.out.2.1
  have HBB := hid HB2.out.1
  clear HB2 HS HMW
  have hsm := eachM_len m HM.out.small
  obtain ⟨ls, hls⟩ : ∃ ls, ls = eachM m.t m.ss := ⟨_, rfl⟩
  have hg : Goods ls := hls ▸ eachM_good m HM.out.right
  rw [← hls] at hsm
  have HG := hid hg
  clear hg
  go_wp2_with fail
  refine (HBB.out.ofB HM.out 65536 HBW.out).mono ?_
  rintro e w5 ⟨⟨v5, rfl, O5, hw5, B5, q0, q1, q2, q3, q4, q5, q6⟩, _⟩
  rw [← hls] at O5
  have HLS := hid hls
  clear hls
  obtain ⟨l, hl⟩ : ∃ l, l = ofM ls 65536 := ⟨_, rfl⟩
  rw [← hl] at O5
  have f1 : l.length = 65536 := by rw [hl]; exact ofM_lenN ls 65536 (by omega)
  have F2 := hid (show ∀ i, i < 65536 → l.getD i 0 = cnt ls i from fun i hi => by rw [hl]; exact ofM_at ls 65536 (by omega) i hi)
  have hla := fun w' => O5.len (P := Try.prog) (ty := 3) Try.underlying27 w'
  obtain ⟨N, hN⟩ : ∃ N, N = l.length := ⟨_, rfl⟩
  rw [← hN] at hla
  have hN5 : N = 65536 := hN.trans f1
  have HN := hid hN5
  have hNb : N ≤ 100000 := by omega
  have FE := hid (show ((N : Int) == 65536) = true by rw [hN5]; rfl)
  have F2' := hid (show ∀ i, i < N → i < l.length ∧ l.getD i 0 = cnt ls i from fun i hi => ⟨by omega, F2.out i (by omega)⟩)
  have HW5 := hid hw5
  have HB5 := hid B5
  clear hl hN hN5 f1 F2 c0 c1 c2 c3 c4 c5 c6 hw5 B5
  go_wp2_with fail
  go_loop [3, 6] (fun a i => ∃ (k : Nat) (A : Int), k ≤ N ∧ i = .int .i64 k ∧ a = .int .i64 A ∧ Hid (A = sumTo (fun i => cnt ls i) k))
    (fun _ i => N - (intOf i).toNat)
  case atStart => exact ⟨0, 0, by omega, rfl, rfl, rfl⟩
  case round =>
    obtain ⟨k, A, hk, rfl, rfl, HA⟩ := hrel
    have hA1 : 0 ≤ A := by rw [HA.out]; exact (sum_cnt_bd ls k).1
    have hA2 : A ≤ 66060353536 := by
      rw [HA.out]
      have h1 := (sum_cnt_bd ls k).2
      have h2 : k * (1 + ls.length) ≤ 65536 * 1008001 := Nat.mul_le_mul (by rw [← HN.out]; exact hk) (by omega)
      omega
    by_cases hlt : k < N
    · obtain ⟨b, o, hb, hia, d0⟩ := O5.addr (P := Try.prog) Try.underlying27 sizeI k (F2'.out k hlt).1
      rw [(F2'.out k hlt).2] at d0
      have hx1 : 0 ≤ cnt ls k ∧ cnt ls k ≤ 1 + ls.length := by unfold cnt; exact cntK_bd ls ls.length k
      have HA' := hid (show A + cnt ls k = sumTo (fun i => cnt ls i) (k + 1) by rw [sumTo_succ, HA.out])
      obtain ⟨x, hx⟩ : ∃ x, x = cnt ls k := ⟨_, rfl⟩
      rw [← hx] at d0 hx1 HA'
      obtain ⟨hx1, hx2⟩ := hx1
      clear hx HA
      go_wp2_with fail
      go_round
      case rel => exact ⟨k + 1, A + x, by omega, by go_num, by go_num, HA'⟩
      case measure => simp [intOf]; omega
    · obtain rfl : k = N := by omega
      have HA' := hid (show A = 2 + sumTo (cntOf ls) ls.length by rw [HA.out, HN.out]; exact sum_cnt ls HG.out)
      clear HA hlt
      go_wp2_with fail
      refine (HB5.out.eachB HM.out HW5.out).mono ?_
      rintro e w6 ⟨⟨v6, rfl, O6, hw6, B6, r0, r1, r2, r3, r4, r5, r6⟩, _, hk6⟩
      rw [← HLS.out] at O6
      have hlb := fun w' => O6.len w' (ty := 3)
      have HW6 := hid hw6
      clear q0 q1 q2 q3 q4 q5 q6 r0 r1 r2 r3 r4 r5 r6 hw6 B6 hk6 O5
      go_wp2_with fail
      go_loop [4, 8] (fun b j => ∃ (k : Nat) (B : Int), k ≤ ls.length ∧ j = .int .i64 k ∧ b = .int .i64 B ∧ Hid (B = 2 + sumTo (cntOf ls) k))
        (fun _ j => ls.length - (intOf j).toNat)
      case atStart => exact ⟨0, 2, by omega, rfl, rfl, rfl⟩
      case round =>
        obtain ⟨k, B, hk, rfl, rfl, HB⟩ := hrel
        have hB1 : 2 ≤ B := by rw [HB.out]; have := (sum_cntOf_bd ls HG.out k hk).1; omega
        have hB2 : B ≤ 66060353538 := by
          rw [HB.out]
          have h1 := (sum_cntOf_bd ls HG.out k hk).2
          have h2 : k * 65536 ≤ 1008000 * 65536 := Nat.mul_le_mul_right _ (by omega)
          omega
        by_cases hlt : k < ls.length
        · obtain ⟨b1, o1, hb1, hia1, d0, d1, d2, d3, d4, d5, d6⟩ := O6.at k hlt
          have hx1 : 0 ≤ (ls.getD k default).e.count ∧ (ls.getD k default).e.count ≤ 65536 := by
            have := HG.out k hlt; unfold GoodE at this; omega
          have HB' := hid (show B + (ls.getD k default).e.count = 2 + sumTo (cntOf ls) (k + 1) by rw [sumTo_succ, HB.out]; unfold cntOf; omega)
          obtain ⟨x, hx⟩ : ∃ x, x = (ls.getD k default).e.count := ⟨_, rfl⟩
          rw [← hx] at d4 hx1 HB'
          obtain ⟨hx1, hx2⟩ := hx1
          clear hx HB d0 d1 d2 d3 d5 d6
          go_wp2_with fail
          go_round
          case rel => exact ⟨k + 1, B + x, by omega, by go_num, by go_num, HB'⟩
          case measure => simp [intOf]; omega
        · obtain rfl : k = ls.length := by omega
          obtain rfl : A = B := by rw [HA'.out, HB.out]
          have hfe := FE.out
          clear HB HA'
          go_wp2_with fail
          refine (awakeB HW6.out).mono ?_
          rintro e w10 ⟨rfl, hw10⟩
          go_wp2
          go_ret
          exact ⟨rfl, hw10⟩
end Go.Proofs.Ytpgdncpomacghaa
