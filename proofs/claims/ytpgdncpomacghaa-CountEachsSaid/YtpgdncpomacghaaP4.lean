import Derived.Test.YtpgdncpomacghaaZ2
import Derived.BigQuiet
namespace Go.Proofs.Ytpgdncpomacghaa
open Go.RowKit Go.Mx Go.Cnt Go.Shelf

set_option maxRecDepth 100000 in
set_option maxHeartbeats 4000000 in
theorem eachs_any (m : MetaM) (tv sv mv cv : Value) (w : World) (hm : IsMeta w w.heap.size m tv sv mv cv) (hw : MetaW m) :
    Calls Try.prog 4 #[metaV m tv sv mv cv] w fun e w' => e = .returned (.bool true) ∧ Below w.heap.size w w' := by
  have hB0 := Bx.new hm
  have hb0 : Below w.heap.size w (w.alloc (.cells #[.int .i64 m.cl, .int .i64 m.sz, .string ⟨m.bk.toArray⟩, tv, sv, mv, cv] 29)) := (Below.refl _ _).alloc (Nat.le_refl _) _
  have HG := hid (great_any m tv sv mv cv _ hB0.is hw)
  have HB0 := hid (And.intro hB0 hb0)
  have HMW := hid hw
  clear hB0 hb0 hm hw
  unfold metaV
  go_enter Try.func4, Try.ntmps4
  go_wp2_with fail
  refine HG.out.mono ?_
  rintro e w1 ⟨b1, rfl, hP1, hb1⟩
  have B1 := HB0.out.1.step hb1
  have hw1 : Below w.heap.size w w1 := HB0.out.2.trans (hb1.mono HB0.out.2.size)
  obtain ⟨c0, c1, c2, c3, c4, c5, c6⟩ := B1.cells
  have HB1 := hid (And.intro B1 (And.intro hw1 hP1))
  clear B1 hw1 hP1 hb1 HB0 HG
  cases b1
  rotate_left
  · go_wp2_with fail
    refine (awake_any _).mono ?_
    rintro e w2 ⟨rfl, hb2⟩
    go_wp2
    go_ret
    exact ⟨rfl, HB1.out.2.1.trans (hb2.mono HB1.out.2.1.size)⟩
  have HS := hid (HB1.out.2.2 rfl)
  go_wp2_with fail
  refine (right_any m tv sv mv cv _ HB1.out.1.is HMW.out).mono ?_
  rintro e w2 ⟨b2, rfl, hP2, hb2⟩
  have B2 := HB1.out.1.step hb2
  have hw2 : Below w.heap.size w w2 := HB1.out.2.1.trans (hb2.mono HB1.out.2.1.size)
  clear c0 c1 c2 c3 c4 c5 c6
  obtain ⟨c0, c1, c2, c3, c4, c5, c6⟩ := B2.cells
  have HB2 := hid (And.intro B2 (And.intro hw2 hP2))
  clear B2 hw2 hP2 hb2 HB1
  cases b2
  · go_wp2_with fail
    refine (awake_any _).mono ?_
    rintro e w3 ⟨rfl, hb3⟩
    go_wp2
    go_ret
    exact ⟨rfl, HB2.out.2.1.trans (hb3.mono HB2.out.2.1.size)⟩
  have HM := hid (Main.mk HS.out (HB2.out.2.2 rfl) HMW.out)
  have HBW := hid HB2.out.2.1
  have HBB := hid HB2.out.1
  clear HB2 HS HMW
  have hlen := eachM_len m HM.out.small
  obtain ⟨ls, hls⟩ : ∃ ls, ls = eachM m.t m.ss := ⟨_, rfl⟩
  have hbe : ((ls.length : Int) != (ls.length : Int)) = false := by simp
  have BD : Bx w2.drew w.heap.size m tv sv mv cv := HBB.out.step (Below.refl _ _).drew
  have hwd : Below w.heap.size w w2.drew := HBW.out.drew
  go_wp2_with fail
  go_region_with (first
    | (go_at_call 17; refine (BD.rEachB HM.out hwd).mono ?_; rintro e w5 ⟨⟨v5, rfl, O5, hw5, B5, q0, q1, q2, q3, q4, q5, q6⟩, _⟩)
    | (go_at_call 18; refine (B5.eachB HM.out hw5).mono ?_; rintro e w6 ⟨⟨v6, rfl, O6, hw6, B6, r0, r1, r2, r3, r4, r5, r6⟩, hk6, _⟩; have O56 := hk6 _ _ O5))
  all_goals (
    rw [← hls] at hlen O56 O6
    clear hls
    have hla := fun w' => O56.len w' (ty := 3)
    have hlb := fun w' => O6.len w' (ty := 3)
    have HO := hid (And.intro O56 O6)
    have HW := hid hw6
    clear c0 c1 c2 c3 c4 c5 c6 q0 q1 q2 q3 q4 q5 q6 r0 r1 r2 r3 r4 r5 r6 O5 O6 O56 B5 B6 hw5 hw6 BD hwd hk6 HBB HBW
    go_wp2_with fail
    clear hbe
    go_loopw [5] (fun i wr => ∃ k : Nat, k ≤ ls.length ∧ i = .int .i64 k ∧ Below w6.heap.size w6 wr)
      (fun i _ => ls.length - (intOf i).toNat)
    case atStart => exact ⟨0, by omega, rfl, Below.refl _ _⟩
    case round =>
      obtain ⟨k, hk, rfl, hbel⟩ := hrel
      have hz := hbel.size
      by_cases hlt : k < ls.length
      · have h1 := HO.out.1.below hbel (Nat.le_refl _)
        have h2 := HO.out.2.below hbel (Nat.le_refl _)
        obtain ⟨b1, o1, hb1, hia1, d0, d1, d2, d3, d4, d5, d6⟩ := h1.at k hlt
        obtain ⟨b2, o2, hb2, hia2, e0, e1, e2, e3, e4, e5, e6⟩ := h2.at k hlt
        obtain ⟨x, hx⟩ : ∃ x, x = ls.getD k default := ⟨_, rfl⟩
        rw [← hx] at d0 d1 d2 d3 d4 d5 d6 e0 e1 e2 e3 e4 e5 e6
        obtain ⟨sh, cu, ⟨ki, st, co, si, su⟩⟩ := x
        simp only at d0 d1 d2 d3 d4 d5 d6 e0 e1 e2 e3 e4 e5 e6
        clear hx h1 h2
        go_wp2_with fail
        go_quiet (fail)
        rename_i nq
        generalize hwq : wr.drewN nq = wq
        have hbq : Below w6.heap.size w6 wq := hwq ▸ below_drewN hbel nq
        clear hwq
        go_wp2_with fail
        go_roundw
        case rel => exact ⟨k + 1, by omega, by go_num, hbq⟩
        case measure => simp [intOf]; omega
      · obtain rfl : k = ls.length := by omega
        go_wp2_with fail
        refine (awake_any _).mono ?_
        rintro e w8 ⟨rfl, hb8⟩
        go_wp2
        go_ret
        exact ⟨rfl, HW.out.trans ((hbel.trans (hb8.mono hz)).mono HW.out.size)⟩)
end Go.Proofs.Ytpgdncpomacghaa
