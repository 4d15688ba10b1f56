import Derived.Test.YtpgdncpomacghaaZ2
import Derived.Test.YtpgdncpomacghaaL2

import Derived.BigQuiet
import Derived.Deep.RegionHeld
namespace Go.Proofs.Ytpgdncpomacghaa
open Go.RowKit Go.Mx Go.Cnt Go.Shelf

set_option maxRecDepth 100000 in
set_option maxHeartbeats 4000000 in
theorem begins_any (m : MetaM) (tv sv mv cv : Value) (k : Int) (w : World) (hm : IsMeta w w.heap.size m tv sv mv cv) (hw : MetaW m) (hk : 0 ≤ k ∧ k ≤ 255) :
    Calls Try.prog 9 #[metaV m tv sv mv cv, .int .u8 k] w fun e w' => e = .returned (.bool true) ∧ Below w.heap.size w w' := by
  have hB0 := Bx.new hm
  have hb0 : Below w.heap.size w (w.alloc (.cells #[.int .i64 m.cl, .int .i64 m.sz, .string ⟨m.bk.toArray⟩, tv, sv, mv, cv] 29)) := (Below.refl _ _).alloc (Nat.le_refl _) _
  have HG := hid (great_any m tv sv mv cv _ hB0.is hw)
  have HB0 := hid (And.intro hB0 hb0)
  have HMW := hid hw
  clear hB0 hb0 hm hw
  unfold metaV
  go_enter Try.func9, Try.ntmps9
  go_wp2_with fail
  refine HG.out.mono ?_
  rintro e w1 ⟨b1, rfl, hP1, hb1⟩
  have B1 := HB0.out.1.step hb1
  have hw1 : Below w.heap.size w w1 := HB0.out.2.trans (hb1.mono HB0.out.2.size)
  obtain ⟨c0, c1, c2, c3, c4, c5, c6⟩ := B1.cells
  have HB1 := hid (And.intro B1 (And.intro hw1 hP1))
  clear B1 hw1 hP1 hb1 HB0 HG
  cases b1
  rotate_left
  · go_wp2_with fail
    refine (awake_any _).mono ?_
    rintro e w2 ⟨rfl, hb2⟩
    go_wp2
    go_ret
    exact ⟨rfl, HB1.out.2.1.trans (hb2.mono HB1.out.2.1.size)⟩
  have HS := hid (HB1.out.2.2 rfl)
  go_wp2_with fail
  refine (right_any m tv sv mv cv _ HB1.out.1.is HMW.out).mono ?_
  rintro e w2 ⟨b2, rfl, hP2, hb2⟩
  have B2 := HB1.out.1.step hb2
  have hw2 : Below w.heap.size w w2 := HB1.out.2.1.trans (hb2.mono HB1.out.2.1.size)
  clear c0 c1 c2 c3 c4 c5 c6
  obtain ⟨c0, c1, c2, c3, c4, c5, c6⟩ := B2.cells
  have HB2 := hid (And.intro B2 (And.intro hw2 hP2))
  clear B2 hw2 hP2 hb2 HB1
  cases b2
  · go_wp2_with fail
    refine (awake_any _).mono ?_
    rintro e w3 ⟨rfl, hb3⟩
    go_wp2
    go_ret
    exact ⟨rfl, HB2.out.2.1.trans (hb3.mono HB2.out.2.1.size)⟩
  have HM := hid (Main.mk HS.out (HB2.out.2.2 rfl) HMW.out)
  have HBW := hid HB2.out.2.1
  have HBB := hid HB2.out.1
  clear HB2 HS HMW
  obtain ⟨n, rfl⟩ := Int.eq_ofNat_of_zero_le hk.1
  have hn : n ≤ 255 := by omega
  clear hk
  obtain ⟨ls, hls⟩ : ∃ ls, ls = eachM m.t m.ss := ⟨_, rfl⟩
  have hg : Goods ls := hls ▸ eachM_good m HM.out.right
  obtain ⟨l3, hl3⟩ : ∃ l, l = ofM ls 300 := ⟨_, rfl⟩
  obtain ⟨ln, hln⟩ : ∃ l, l = ofM ls (n : Int) := ⟨_, rfl⟩
  have f1 : l3.length = 300 := by rw [hl3]; exact ofM_lenN ls 300 (by omega)
  have f2 : ln.length = n := by rw [hln]; exact ofM_lenN ls n (by omega)
  have f3 : l3.take n = ln := by rw [hl3, hln]; exact ofM_take ls n 300 (by omega) (by omega)
  have f4 : l3.getD 0 0 = 1 := by rw [hl3]; exact (ofM_at ls 300 (by omega) 0 (by omega)).trans (cnt_low ls hg 0 (by omega))
  have f5 : l3.getD 1 0 = 1 := by rw [hl3]; exact (ofM_at ls 300 (by omega) 1 (by omega)).trans (cnt_low ls hg 1 (by omega))
  have f6 : ofM ls (-1) = [] := if_pos (.inl (by omega))
  have f7 : ofM ls 65537 = [] := if_pos (.inr (by omega))
  have HF1 := hid f1; have HF2 := hid f2; have HF3 := hid f3; have HF4 := hid f4; have HF5 := hid f5; have HF6 := hid f6; have HF7 := hid f7
  have HLS := hid hls; have HL3 := hid hl3; have HLN := hid hln
  clear f1 f2 f3 f4 f5 f6 f7 hls hl3 hln
  have hwr : IntKind.i64.wrap (n : Int) = n := IntWalk.i64_in _ (by omega)
  have hbe : ((n : Int) != (n : Int)) = false := by simp
  clear hg
  go_wp2_with fail
  have CC := fun w' (h : Below w2.heap.size w2 w') => (HBB.out.step h).cells
  have C0 := fun w' h => (CC w' h).1
  have C1 := fun w' h => (CC w' h).2.1
  have C2 := fun w' h => (CC w' h).2.2.1
  have C3 := fun w' h => (CC w' h).2.2.2.1
  have C4 := fun w' h => (CC w' h).2.2.2.2.1
  have C5 := fun w' h => (CC w' h).2.2.2.2.2.1
  have C6 := fun w' h => (CC w' h).2.2.2.2.2.2
  clear CC
  go_region_held (fun w' => Below w2.heap.size w2 w') (first | exact (Below.refl _ _).drew | assumption | exact Below.drew (by assumption)) (first
    | (go_at_call 15; refine (B5.ofB (w0 := w2) HM.out (n : Int) hw5).mono ?_; rintro e w6 ⟨⟨v6, rfl, O6, hw6, B6, r0, r1, r2, r3, r4, r5, r6⟩, hk6⟩; have O56 := hk6 _ _ O5)
    | (go_at_call 15; refine ((HBB.out.step (by assumption)).ofB (w0 := w2) HM.out 300 (by assumption)).mono ?_; rintro e w5 ⟨⟨v5, rfl, O5, hw5, B5, q0, q1, q2, q3, q4, q5, q6⟩, _⟩))
  have hw6 := HBW.out.trans (hw6.mono HBW.out.size)
  clear C0 C1 C2 C3 C4 C5 C6
  all_goals (
    rw [← HLS.out] at O56 O6
    rw [← HL3.out] at O56
    rw [← HLN.out] at O6
    have hla := fun w' => O56.len (P := Try.prog) (ty := 3) Try.underlying27 w'
    have hlb := fun w' => O6.len (P := Try.prog) (ty := 3) Try.underlying27 w'
    rw [HF1.out] at hla
    rw [HF2.out] at hlb
    have hla' : ∀ (w' : World), (Builtin.len_ #[27] 3 #[v5]).run Try.prog w' = .ok (.int .i64 300) w' := hla
    obtain ⟨b0, o0, hb0, hi0, d0⟩ := O56.addr (P := Try.prog) Try.underlying27 sizeI 0 (by rw [HF1.out]; omega)
    obtain ⟨b1, o1, hb1, hi1, d1⟩ := O56.addr (P := Try.prog) Try.underlying27 sizeI 1 (by rw [HF1.out]; omega)
    rw [HF4.out] at d0
    rw [HF5.out] at d1
    have hi0' : ∀ (w' : World) (k : IntKind), (Instr.indexAt 27 v5 (.int k 0)).run Try.prog w' = .ok (.pointer (some ⟨b0, o0, none⟩)) w' := hi0
    have hi1' : ∀ (w' : World) (k : IntKind), (Instr.indexAt 27 v5 (.int k 1)).run Try.prog w' = .ok (.pointer (some ⟨b1, o1, none⟩)) w' := hi1
    obtain ⟨v7, O7, hs7⟩ := O56.to (P := Try.prog) Try.underlying27 sizeI n (by rw [HF1.out]; omega)
    rw [HF3.out] at O7
    clear hla hi0 hi1 hk6 O5 O56 q0 q1 q2 q3 q4 q5 q6 c0 c1 c2 c3 c4 c5 c6 B5 hw5
    go_wp2_with fail
    refine (ints_eq ln v7 v6 _ O7 O6 (by rw [HF2.out]; omega)).mono ?_
    rintro e w7 ⟨rfl, hb7⟩
    have B7 := B6.step hb7
    have hw7 : Below w.heap.size w w7 := hw6.trans (hb7.mono hw6.size)
    clear r0 r1 r2 r3 r4 r5 r6 d0 d1 hi0' hi1' hs7 O7 O6 B6 hw6 hb7
    obtain ⟨c0, c1, c2, c3, c4, c5, c6⟩ := B7.cells
    go_wp2_with fail
    refine (B7.ofB HM.out (-1) hw7).mono ?_
    rintro e w8 ⟨⟨v8, rfl, O8, hw8, B8, q0, q1, q2, q3, q4, q5, q6⟩, _⟩
    rw [← HLS.out, HF6.out] at O8
    have hl8 : ∀ (w' : World), (Builtin.len_ #[27] 3 #[v8]).run Try.prog w' = .ok (.int .i64 0) w' := fun w' => O8.len (P := Try.prog) (ty := 3) Try.underlying27 w'
    clear c0 c1 c2 c3 c4 c5 c6 B7 hw7 O8
    go_wp2_with fail
    refine (B8.ofB HM.out 65537 hw8).mono ?_
    rintro e w9 ⟨⟨v9, rfl, O9, hw9, B9, r0, r1, r2, r3, r4, r5, r6⟩, _⟩
    rw [← HLS.out, HF7.out] at O9
    have hl9 : ∀ (w' : World), (Builtin.len_ #[27] 3 #[v9]).run Try.prog w' = .ok (.int .i64 0) w' := fun w' => O9.len (P := Try.prog) (ty := 3) Try.underlying27 w'
    clear q0 q1 q2 q3 q4 q5 q6 B8 hw8 O9
    go_wp2_with fail
    refine (awakeB hw9).mono ?_
    rintro e w10 ⟨rfl, hw10⟩
    go_wp2
    go_ret
    exact ⟨rfl, hw10⟩)
end Go.Proofs.Ytpgdncpomacghaa
