import Derived.Test.YtmbfcpdflhjfnaaK
namespace Go.Proofs.Ytmbfcpdflhjfnaa
open Go.RowKit Go.Mx Go.Lz

theorem unpack_far (plain tail : List UInt8) (far : Nat) (hfar : far < 65536) (hbad : far = 0 ∨ plain.length < far) (hp : plain.length ≤ 60000) :
    unpack (seqL plain far 0 ++ tail) 1048576 = .error 3 := by
  unfold unpack
  rw [if_neg (by omega)]
  exact far_law plain tail far hfar hbad _ (by show plain.length ≤ 1048576; omega) _ (by omega) 0

theorem lens_seq0 (plain : List UInt8) (f : Nat) : (seqL plain f 0).length ≤ plain.length + plain.length + 10 := by
  have := lens_seq plain f 0; omega

set_option maxRecDepth 100000 in
set_option maxHeartbeats 4000000 in
theorem lzFar_walk (pv tv : Value) (plain tail : List UInt8) (more : Int) (w : World) (hp : SlB w w.heap.size pv plain) (ht : SlB w w.heap.size tv tail) (hmore : 0 ≤ more ∧ more ≤ 65535) :
    Calls Try.prog 5 #[pv, .int .u16 more, tv] w fun e w' => e = .returned (.bool true) ∧ Below w.heap.size w w' := by
  obtain ⟨hm0, hm1⟩ := hmore
  have hlp := fun w => len_sl (P := Try.prog) Try.underlying22 (ty := 3) hp.choose_spec.choose_spec.1 w
  have hlt := fun w => len_sl (P := Try.prog) Try.underlying22 (ty := 3) ht.choose_spec.choose_spec.1 w
  by_cases h1 : 1000 < plain.length
  · go_enter Try.func5, Try.ntmps5
    go_wp2_with (go_at_call 11; refine (awake_any _).mono ?_; rintro e w' ⟨rfl, hbel⟩)
    go_ret
    exact ⟨rfl, hbel⟩
  by_cases h2 : 1000 < tail.length
  · go_enter Try.func5, Try.ntmps5
    go_wp2_with (go_at_call 11; refine (awake_any _).mono ?_; rintro e w' ⟨rfl, hbel⟩)
    go_ret
    exact ⟨rfl, hbel⟩
  obtain ⟨m, hm⟩ : ∃ m : Nat, more % 60000 = (m : Int) := Int.eq_ofNat_of_zero_le (by omega)
  have hmm : m < 60000 := by omega
  obtain ⟨d, hd⟩ : ∃ d, d = plain.length + 1 + m := ⟨_, rfl⟩
  have hd1 : d < 65536 := by omega
  have hd2 : plain.length < d := by omega
  have HD := hid hd
  clear hd
  have hs1 := lens_seq0 plain 0
  have hs2 := lens_seq0 plain d
  go_enter Try.func5, Try.ntmps5
  go_wp2_with fail
  refine (show Calls Try.prog 15 #[.slice none 0 0, pv, .int .i64 0, .int .i64 4] w _ from lseq_any _ pv [] plain 0 0 w.heap.size w (OwnB.nil _ _ _) hp (Nat.le_refl _) (by simp; omega) (by omega)).mono ?_
  rintro e w1 ⟨v1, rfl, ho1, hb1⟩
  have hz1 := hb1.size
  simp only [List.nil_append] at ho1
  go_wp2_with (at_builtin; refine append_sl _ rfl _ _ 22 5 rfl Try.underlying22 Try.info5 w.heap.size _ _ rfl ho1 _ tail w.heap.size rfl (ht.below hb1 (Nat.le_refl _)) ?_ ?_ ?_)
  · omega
  · omega
  intro v2 w2 ho2 hbl2
  have hb2 := hb1.trans hbl2
  have hz2 := hb2.size
  clear hbl2 ho1 hb1 hz1
  go_wp2_with fail
  refine (unpack_call _ v2 _ w2 ho2.slB (by rw [List.length_append]; omega)).mono ?_
  rintro e w3 ⟨v3, rfl, hv3, hb3⟩
  rw [unpack_far plain tail 0 (by omega) (.inl rfl) (by omega)] at hv3 ⊢
  simp only [resB, resE] at hv3 ⊢
  have hb4 := hb2.trans (hb3.mono hz2)
  have hz4 := hb4.size
  clear ho2 hb2 hb3 hz2
  go_wp2_with fail
  rw [show ((plain.length : Int) + 1 + (m : Int)) = (d : Int) by have := HD.out; omega]
  refine (show Calls Try.prog 15 #[.slice none 0 0, pv, .int .i64 d, .int .i64 4] w3 _ from lseq_any _ pv [] plain d 0 w3.heap.size w3 (OwnB.nil _ _ _) ((hp.below hb4 (Nat.le_refl _)).mono hz4) (Nat.le_refl _) (by simp; omega) hd1).mono ?_
  rintro e w5 ⟨v5, rfl, ho5, hbl5⟩
  have hz5 := hbl5.size
  have hb5 := hb4.trans (hbl5.mono hz4)
  have hv5 := hv3.below hbl5 (Nat.le_refl _)
  simp only [List.nil_append] at ho5
  clear hv3 hb4
  go_wp2_with (at_builtin; refine append_sl _ rfl _ _ 22 5 rfl Try.underlying22 Try.info5 w3.heap.size _ _ rfl ho5 _ tail w.heap.size rfl (ht.below hb5 (Nat.le_refl _)) ?_ ?_ ?_)
  · omega
  · omega
  intro v6 w6 ho6 hbl6
  have hz6 := hbl6.size
  have hb6 := hb5.trans (hbl6.mono hz4)
  have hv6 := hv5.below hbl6 (Nat.le_refl _)
  clear hbl6 ho5 hb5 hv5
  go_wp2_with fail
  refine (unpack_call _ v6 _ w6 ho6.slB (by rw [List.length_append]; omega)).mono ?_
  rintro e w7 ⟨v7, rfl, hv7, hbl7⟩
  rw [unpack_far plain tail d hd1 (.inr hd2) (by omega)] at hv7 ⊢
  simp only [resB, resE] at hv7 ⊢
  have hb7 := hb6.trans (hbl7.mono (by omega))
  have hz7 := hb7.size
  have hl3 := fun w => len_sl (P := Try.prog) Try.underlying22 (ty := 3) hv6.choose_spec.choose_spec.1 w
  have hl7 := fun w => len_sl (P := Try.prog) Try.underlying22 (ty := 3) hv7.choose_spec.choose_spec.1 w
  clear ho6 hb6 hbl7 hv6 hv7 hbl5
  go_wp2_with (first | (go_at_call 14; refine (num_any _ _).mono ?_; rintro e w' ⟨rfl, rfl⟩) | (go_at_call 11; refine (awake_any _).mono ?_; rintro e w16 ⟨rfl, hb16⟩))
  go_ret
  exact ⟨rfl, hb7.trans (hb16.mono hz7)⟩

theorem unpack_neg (bs : List UInt8) (r : Int) (h : r < 0 ∨ 1048576 < r) : unpack bs r = .error 1 := by unfold unpack; rw [if_pos h]

theorem resB_le (bs : List UInt8) (r : Int) (h : 0 ≤ r) : ((resB (unpack bs r)).length : Int) ≤ r := by
  cases hu : unpack bs r with
  | error n => simpa [resB] using h
  | ok l => exact unpack_le bs r l hu

set_option maxRecDepth 100000 in
set_option maxHeartbeats 4000000 in
theorem lzRoom_walk (bv : Value) (bs : List UInt8) (most : Int) (w : World) (hb : SlB w w.heap.size bv bs) (hmost : 0 ≤ most ∧ most ≤ 65535) :
    Calls Try.prog 6 #[bv, .int .u16 most] w fun e w' => e = .returned (.bool true) ∧ Below w.heap.size w w' := by
  obtain ⟨hm0, hm1⟩ := hmost
  have hlb := fun w => len_sl (P := Try.prog) Try.underlying22 (ty := 3) hb.choose_spec.choose_spec.1 w
  by_cases h1 : 3000 < bs.length
  · go_enter Try.func6, Try.ntmps6
    go_wp2_with (go_at_call 11; refine (awake_any _).mono ?_; rintro e w' ⟨rfl, hbel⟩)
    go_ret
    exact ⟨rfl, hbel⟩
  have hle := resB_le bs most hm0
  have hz : (resE (unpack bs most) = 0) ∨ ((resB (unpack bs most)).length = 0) := by
    cases unpack bs most with
    | error n => exact .inr rfl
    | ok l => exact .inl rfl
  obtain ⟨E, hE⟩ : ∃ E, E = resE (unpack bs most) := ⟨_, rfl⟩
  obtain ⟨A, hA⟩ : ∃ A, A = resB (unpack bs most) := ⟨_, rfl⟩
  rw [← hE, ← hA] at hz
  rw [← hA] at hle
  have HE := hid hE
  have HA := hid hA
  clear hE hA
  have hz' : (((E : Int) == 0) = true) ∨ (((E : Int) == 0) = false ∧ ((A.length : Int) == 0) = true) := by
    rcases hz with h | h
    · exact .inl (by simp [h])
    · by_cases h0 : E = 0
      · exact .inl (by simp [h0])
      · exact .inr ⟨by rw [beq_eq_false_iff_ne]; omega, by simp [h]⟩
  clear hz
  rcases hz' with hz | ⟨hz, hz2⟩
  all_goals
    go_enter Try.func6, Try.ntmps6
    go_wp2_with fail
    refine (unpack_call bs bv _ w hb (by omega)).mono ?_
    rintro e w1 ⟨v1, rfl, hv1, hb1⟩
    rw [← HA.out] at hv1
    rw [← HE.out]
    have hz1 := hb1.size
    go_wp2_with fail
    refine (unpack_call bs bv _ w1 ((hb.below hb1 (Nat.le_refl _)).mono hz1) (by omega)).mono ?_
    rintro e w2 ⟨v2, rfl, hv2, hbl2⟩
    rw [unpack_neg _ _ (by omega)]
    simp only [resE]
    have hb2 := hb1.trans (hbl2.mono hz1)
    have hz2 := hb2.size
    have hv3 := hv1.below hbl2 (Nat.le_refl _)
    have hz22 := hbl2.size
    clear hv1 hv2 hb1 hbl2
    go_wp2_with fail
    refine (unpack_call bs bv _ w2 ((hb.below hb2 (Nat.le_refl _)).mono hz2) (by omega)).mono ?_
    rintro e w4 ⟨v4, rfl, hv4, hbl4⟩
    rw [unpack_neg _ _ (by omega)]
    simp only [resE]
    have hb4 := hb2.trans (hbl4.mono hz2)
    have hz4 := hb4.size
    have hv5 := hv3.below hbl4 (by omega)
    have hl5 := fun w => len_sl (P := Try.prog) Try.underlying22 (ty := 3) hv5.choose_spec.choose_spec.1 w
    clear hv3 hv4 hb2 hbl4 hv5
    go_wp2_with (first | (go_at_call 14; refine (num_any _ _).mono ?_; rintro e w' ⟨rfl, rfl⟩) | (go_at_call 11; refine (awake_any _).mono ?_; rintro e w16 ⟨rfl, hb16⟩))
    go_ret
    exact ⟨rfl, hb4.trans (hb16.mono hz4)⟩
end Go.Proofs.Ytmbfcpdflhjfnaa
