import Derived.Test.YtpgdncpomacghaaZ2
namespace Go.Proofs.Ytpgdncpomacghaa
open Go.RowKit Go.Mx Go.Cnt Go.Shelf

set_option maxRecDepth 100000 in
set_option maxHeartbeats 4000000 in
theorem ofs_any (m : MetaM) (tv sv mv cv : Value) (n : Int) (w : World) (hm : IsMeta w w.heap.size m tv sv mv cv) (hw : MetaW m) :
    Calls Try.prog 3 #[metaV m tv sv mv cv, .int .i64 n] w fun e w' => e = .returned (.bool true) ∧ Below w.heap.size w w' := by
  have hB0 := Bx.new hm
  have hb0 : Below w.heap.size w (w.alloc (.cells #[.int .i64 m.cl, .int .i64 m.sz, .string ⟨m.bk.toArray⟩, tv, sv, mv, cv] 29)) := (Below.refl _ _).alloc (Nat.le_refl _) _
  have HG := hid (great_any m tv sv mv cv _ hB0.is hw)
  have HB0 := hid (And.intro hB0 hb0)
  have HMW := hid hw
  clear hB0 hb0 hm hw
  unfold metaV
  go_enter Try.func3, Try.ntmps3
  go_wp2_with fail
  refine HG.out.mono ?_
  rintro e w1 ⟨b1, rfl, hP1, hb1⟩
  have B1 := HB0.out.1.step hb1
  have hw1 : Below w.heap.size w w1 := HB0.out.2.trans (hb1.mono HB0.out.2.size)
  obtain ⟨c0, c1, c2, c3, c4, c5, c6⟩ := B1.cells
  have HB1 := hid (And.intro B1 (And.intro hw1 hP1))
  clear B1 hw1 hP1 hb1 HB0 HG
  cases b1
  rotate_left
  · go_wp2_with fail
    refine (awake_any _).mono ?_
    rintro e w2 ⟨rfl, hb2⟩
    go_wp2
    go_ret
    exact ⟨rfl, HB1.out.2.1.trans (hb2.mono HB1.out.2.1.size)⟩
  have HS := hid (HB1.out.2.2 rfl)
  go_wp2_with fail
  refine (right_any m tv sv mv cv _ HB1.out.1.is HMW.out).mono ?_
  rintro e w2 ⟨b2, rfl, hP2, hb2⟩
  have B2 := HB1.out.1.step hb2
  have hw2 : Below w.heap.size w w2 := HB1.out.2.1.trans (hb2.mono HB1.out.2.1.size)
  clear c0 c1 c2 c3 c4 c5 c6
  obtain ⟨c0, c1, c2, c3, c4, c5, c6⟩ := B2.cells
  have HB2 := hid (And.intro B2 (And.intro hw2 hP2))
  clear B2 hw2 hP2 hb2 HB1
  cases b2
  · go_wp2_with fail
    refine (awake_any _).mono ?_
    rintro e w3 ⟨rfl, hb3⟩
    go_wp2
    go_ret
    exact ⟨rfl, HB2.out.2.1.trans (hb3.mono HB2.out.2.1.size)⟩
  have HM := hid (Main.mk HS.out (HB2.out.2.2 rfl) HMW.out)
  have HBW := hid HB2.out.2.1
  have HBB := hid HB2.out.1
  clear HB2 HS HMW
  have hlen : (ofM (eachM m.t m.ss) n).length ≤ 1000000000 := Nat.le_trans (ofM_len _ _) (by omega)
  have BD : Bx w2.drew w.heap.size m tv sv mv cv := HBB.out.step (Below.refl _ _).drew
  have hwd : Below w.heap.size w w2.drew := HBW.out.drew
  go_wp2_with fail
  go_region_with (first
    | (go_at_call 15; refine (BD.ofB HM.out n hwd).mono ?_; rintro e w5 ⟨⟨v5, rfl, O5, hw5, B5, q0, q1, q2, q3, q4, q5, q6⟩, _⟩)
    | (go_at_call 16; refine (B5.rOfB HM.out n hw5).mono ?_; rintro e w6 ⟨⟨v6, rfl, O6, hw6, B6, r0, r1, r2, r3, r4, r5, r6⟩, hk6⟩; have O56 := hk6 _ _ O5)
    | (go_at_call 14; refine (intsB _ _ _ O56 O6 hlen hw6).mono ?_; rintro e w7 ⟨rfl, hw7⟩)
    | (go_at_call 13; refine (awakeB hw7).mono ?_; rintro e w8 ⟨rfl, hw8⟩))
  all_goals (go_wp2_with fail)
  all_goals go_ret
  all_goals exact ⟨rfl, hw8⟩
end Go.Proofs.Ytpgdncpomacghaa
