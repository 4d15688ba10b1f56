import Derived.Test.YtoccgpddmhhlgaaW
namespace Go.Proofs.Ytoccgpddmhhlgaa
open Go.RowKit Go.Mx Go.Crc Go.Str

theorem xor_u8u8 (x z : UInt8) : bits .xor .u8 (x.toNat : Int) (z.toNat : Int) = ((x ^^^ z).toNat : Int) := by
  rw [u8_xor_nat x.toNat z.toNat x.toNat_lt z.toNat_lt, UInt8.toNat_xor]
theorem xor_ne (x z : UInt8) (h : z ≠ 0) : x ^^^ z ≠ x := by
  intro e
  apply h
  have := congrArg (x ^^^ ·) e
  simpa [← UInt8.xor_assoc] using this

set_option maxRecDepth 100000 in
set_option maxHeartbeats 4000000 in
theorem turned_any (s : Strm) (sv : Value) (at_ y0 : Int) (w : World) (h : SlR w w.heap.size sv s.recs) (hat : -9223372036854775808 ≤ at_ ∧ at_ ≤ 9223372036854775807) (hy0 : 0 ≤ y0 ∧ y0 ≤ 255) :
    Calls Try.prog 7 #[strmV s sv, .int .i64 at_, .int .u8 y0] w fun e w' => e = .returned (.bool true) ∧ Below w.heap.size w w' := by
  obtain ⟨y, rfl⟩ : ∃ y : UInt8, y0 = y.toNat := by
    obtain ⟨n, rfl⟩ := Int.eq_ofNat_of_zero_le hy0.1
    exact ⟨UInt8.ofNat n, by rw [UInt8.toNat_ofNat']; omega⟩
  have hyl := y.toNat_lt
  clear hy0 hat
  have B0 := Bx.new h
  have HB0 := hid B0
  have HG := hid (great_any s sv _ B0.slw)
  clear h B0
  have e0 : strmV s sv = .agg #[.bool s.full, .int .i64 s.size, sv] := rfl
  rw [e0]
  clear e0
  go_enter Try.func7, Try.ntmps7
  go_wp2_with fail
  refine HG.out.mono ?_
  rintro e w1 ⟨⟨g, rfl⟩, hb1⟩
  have B1 := HB0.out.step hb1
  obtain ⟨c0, c1, c2⟩ := B1.cells
  have HB1 := hid B1
  clear HG HB0 hb1 B1
  cases g
  rotate_left
  · go_wp2_with (go_at_call 20; refine (awake_any _).mono ?_; rintro e w2 ⟨rfl, hb2⟩)
    go_ret
    exact ⟨rfl, HB1.out.bel.trans (hb2.mono HB1.out.bel.size)⟩
  have HR := hid (rright_any s sv _ HB1.out.slw)
  go_wp2_with fail
  refine HR.out.mono ?_
  rintro e w2 ⟨rfl, hb2⟩
  have B2 := HB1.out.step hb2
  clear c0 c1 c2
  obtain ⟨c0, c1, c2⟩ := B2.cells
  have HB2 := hid B2
  clear HR HB1 hb2 B2
  cases hr : right s
  · go_wp2_with (go_at_call 20; refine (awake_any _).mono ?_; rintro e w3 ⟨rfl, hb3⟩)
    go_ret
    exact ⟨rfl, HB2.out.bel.trans (hb3.mono HB2.out.bel.size)⟩
  have HRT := hid hr
  clear hr
  have HC := hid (sput_any s sv _ HB2.out.slw)
  rw [show putR s = (putB s, 0) by unfold putR; rw [HRT.out]; rfl] at HC
  have HPL := hid (And.intro (putB_length s) (putB_short HRT.out))
  have HT := hid (get_turned s HRT.out)
  have HFC := hid (form_cut s HRT.out)
  obtain ⟨pb, hpb⟩ : ∃ pb, pb = putB s := ⟨_, rfl⟩
  rw [← hpb] at HC HPL HT HFC
  clear hpb
  go_wp2_with fail
  refine HC.out.mono ?_
  rintro e w3 ⟨v, rfl, ho, hb3⟩
  have hlb := fun w' => ho.slB.len (P := Try.prog) (ty := 3) Try.underlying25 w'
  have hL1 : 13 ≤ pb.length := by have := HPL.out.1; omega
  have hL2 : pb.length ≤ 98317 := HPL.out.2
  have hL0 : ((pb.length : Int) == 0) = false := by rw [beq_eq_false_iff_ne]; omega
  obtain ⟨k, hk, hidx⟩ := Mx.idx at_ pb.length (by omega)
  have hbw3 := HB2.out.bel.trans (hb3.mono HB2.out.bel.size)
  have HO := hid (And.intro ho hbw3)
  have hs3 := ho.slB
  clear HC HB2 hb3 c0 c1 c2 ho hbw3
  go_wp2_with (first
    | (go_at_call 25; refine (snumE_any _ _).mono ?_; rintro e w' ⟨rfl, rfl⟩)
    | (at_builtin; refine append_sl _ rfl _ _ 25 5 rfl Try.underlying25 Try.info5 w3.heap.size _ [] rfl (own_empty w3 5) _ pb w3.heap.size rfl (hs3.below ((Below.refl _ _).alloc (Nat.le_refl _) _) (Nat.le_refl _)) ?_ ?_ ?_))
  · simp; omega
  · simp
  intro v4 w4 ho4 hb4
  have hb4' := ((Below.refl w3.heap.size w3).alloc (Nat.le_refl _) (.cells #[] 5)).trans hb4
  have ho4' : OwnB w4 w3.heap.size 5 v4 pb := by simpa using ho4
  clear ho4 hb4 hs3
  obtain ⟨g, gc, rfl, hg1, hg2, hg3, hcell⟩ := ho4'.at k hk
  obtain ⟨x, hx⟩ : ∃ x, x = pb.getD k 0 := ⟨_, rfl⟩
  rw [← hx] at hcell
  have hfz := ho4'.fz k
  obtain ⟨y', hy', hyn⟩ : ∃ y' : UInt8, (1 : Int) + (y.toNat : Int) % 255 = (y'.toNat : Int) ∧ y' ≠ 0 := by
    refine ⟨UInt8.ofNat (1 + y.toNat % 255), by rw [UInt8.toNat_ofNat']; omega, ?_⟩
    intro e
    have := congrArg UInt8.toNat e
    rw [UInt8.toNat_ofNat'] at this
    simp at this
    omega
  have hxo := xor_u8u8 x y'
  obtain ⟨z, hz⟩ : ∃ z, z = x ^^^ y' := ⟨_, rfl⟩
  rw [← hz] at hxo
  rw [← hy'] at hxo
  have hzx : z ≠ pb.getD k 0 := by rw [← hx, hz]; exact xor_ne x y' hyn
  have HT2 := hid (HT.out k z hk hzx)
  have HF2 := hid (getB_form (HFC.out k hk))
  have ho5 := (ho4'.store k z).resolve_right (by omega)
  have hb5 := hb4'.setCell (p := ⟨g, k, none⟩) hg1 (u8 z)
  have hls : (pb.set k z).length = pb.length := List.length_set
  have HG5 := hid (sget_any (pb.set k z) _ _ ho5.slB (by omega))
  have HO5 := hid hb5
  clear hzx hz hyn hy' hx HT HFC ho5 hb5 ho4' hb4'
  go_wp2_with fail
  refine HG5.out.mono ?_
  rintro e w6 ⟨hb6, ⟨hn6, rfl⟩ | ⟨rv, ps, h0, _⟩⟩
  rotate_left
  · exfalso; rcases HT2.out with h | h <;> rw [h0] at h <;> cases h
  have hb36 := HO5.out.trans (hb6.mono HO5.out.size)
  have hs6 : SlB w6 w6.heap.size v pb := (HO.out.1.slB.below hb36 (Nat.le_refl _)).mono hb36.size
  obtain ⟨v', hv', hsl⟩ := hs6.to (P := Try.prog) Try.underlying25 size5 k (by omega)
  have hb7 := hb36.alloc hb36.size (.cells #[.bool false, .int .i64 0, .slice none 0 0] 39)
  have hv7 := (hv'.below ((Below.refl w6.heap.size w6).alloc (Nat.le_refl _) (.cells #[.bool false, .int .i64 0, .slice none 0 0] 39)) (Nat.le_refl _)).mono (Below.size ((Below.refl w6.heap.size w6).alloc (Nat.le_refl _) (.cells #[.bool false, .int .i64 0, .slice none 0 0] 39)))
  have HG7 := hid (sget_any (pb.take k) v' _ hv7 (by simp; omega))
  have hst : (w6.alloc (.cells #[.bool false, .int .i64 0, .slice none 0 0] 39)).heap[w6.heap.size]? = some (.cells #[.bool false, .int .i64 0, .slice none 0 0] 39 (0, 0)) := alloc_new w6 _
  have HO7 := hid (And.intro hb7 hst)
  clear hb36 hs6 hv' hb7 hv7 hb6 hst HG5 HO5
  obtain ⟨cd, hcd⟩ : ∃ cd, cd = (getB (pb.set k z)).2 := ⟨_, rfl⟩
  rw [← hcd] at HT2 ⊢
  clear hcd hn6
  go_wp2_with fail
  refine HG7.out.mono ?_
  rintro e w8 ⟨hb8, ⟨hn8, rfl⟩ | ⟨rv, ps, h0, _⟩⟩
  rotate_left
  · exfalso; rw [HF2.out] at h0; cases h0
  rw [HF2.out]
  have hst8 := (hb8.block _ (blk_lt HO7.out.2)).trans HO7.out.2
  have q2 : w8.cell? ⟨w6.heap.size, 2, none⟩ = some (.slice none 0 0) := by simp [World.cell?, hst8]
  have hq8 : w6.heap.size < w8.heap.size := blk_lt hst8
  have q2' : (w8.alloc (.cells #[.bool false, .int .i64 0, .slice none 0 0] 39)).cell? ⟨w6.heap.size, 2, none⟩ = some (.slice none 0 0) := (((Below.refl w8.heap.size w8).alloc (Nat.le_refl _) _).cell (p := ⟨w6.heap.size, 2, none⟩) hq8).trans q2
  have hbf := HO.out.2.trans ((HO7.out.1.trans (hb8.mono HO7.out.1.size)).mono HO.out.2.size)
  have HBF := hid (hbf.alloc hbf.size (.cells #[.bool false, .int .i64 0, .slice none 0 0] 39))
  clear HG7 hb8 hn8 hst8 hbf HO7 HO
  rcases HT2.out with h3 | h3
  all_goals (
    subst h3
    clear HT2
    go_wp2_with (first
      | (go_at_call 25; refine (snumE_any _ _).mono ?_; rintro e w' ⟨rfl, rfl⟩)
      | (go_at_call 20; refine (awake_any _).mono ?_; rintro e w9 ⟨rfl, hb9⟩))
    go_ret
    exact ⟨rfl, HBF.out.trans (hb9.mono HBF.out.size)⟩)
end Go.Proofs.Ytoccgpddmhhlgaa
