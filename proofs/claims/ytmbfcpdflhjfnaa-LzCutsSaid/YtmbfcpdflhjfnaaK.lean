import Derived.Test.YtmbfcpdflhjfnaaJ
namespace Go.Proofs.Ytmbfcpdflhjfnaa
open Go.RowKit Go.Mx Go.Lz

theorem lens_seq (plain : List UInt8) (f m : Nat) : (seqL plain f m).length ≤ plain.length + m + plain.length + 10 := by
  simp [seqL, addedL_length]; split <;> split <;> omega
theorem lens_tail (t : List UInt8) : (tailL t).length ≤ t.length + t.length + 2 := by
  simp [tailL, addedL_length]; split <;> omega

theorem unpack_hand (plain tail : List UInt8) (f m : Nat) (hf : 1 ≤ f) (hfp : f ≤ plain.length) (hp : plain.length ≤ 60000) (room : Nat) (hr : room ≤ 1048576) :
    unpack (seqL plain f m ++ tailL tail) room = if plain.length + (m + 4) + tail.length ≤ room then .ok (matL f (m + 4) plain ++ tail) else .error 2 := by
  unfold unpack
  rw [if_neg (by omega)]
  simp only [Int.toNat_natCast]
  exact hand_law plain tail f m hf hfp hp room _ (by simp [seqL, tailL])

set_option maxRecDepth 100000 in
set_option maxHeartbeats 4000000 in
theorem lzHand_walk (pv tv : Value) (plain tail : List UInt8) (far again : Int) (w : World) (hp : SlB w w.heap.size pv plain) (ht : SlB w w.heap.size tv tail) (hfar : 0 ≤ far ∧ far ≤ 65535) (hagain : 0 ≤ again ∧ again ≤ 65535) :
    Calls Try.prog 4 #[pv, .int .u16 far, .int .u16 again, tv] w fun e w' => e = .returned (.bool true) ∧ Below w.heap.size w w' := by
  obtain ⟨hfar0, hfar1⟩ := hfar
  obtain ⟨hag0, hag1⟩ := hagain
  have hlp := fun w => len_sl (P := Try.prog) Try.underlying22 (ty := 3) hp.choose_spec.choose_spec.1 w
  have hlt := fun w => len_sl (P := Try.prog) Try.underlying22 (ty := 3) ht.choose_spec.choose_spec.1 w
  by_cases h0 : plain.length = 0
  · have hc : ((plain.length : Int) == 0) = true := by simp [h0]
    clear h0
    go_enter Try.func4, Try.ntmps4
    go_wp2_with (go_at_call 11; refine (awake_any _).mono ?_; rintro e w' ⟨rfl, hbel⟩)
    go_ret
    exact ⟨rfl, hbel⟩
  · have hc : ((plain.length : Int) == 0) = false := by rw [beq_eq_false_iff_ne]; omega
    have hpos : 0 < plain.length := by omega
    clear h0
    by_cases h1 : 2000 < plain.length
    · go_enter Try.func4, Try.ntmps4
      go_wp2_with (go_at_call 11; refine (awake_any _).mono ?_; rintro e w' ⟨rfl, hbel⟩)
      go_ret
      exact ⟨rfl, hbel⟩
    · by_cases h2 : 2000 < tail.length
      · go_enter Try.func4, Try.ntmps4
        go_wp2_with (go_at_call 11; refine (awake_any _).mono ?_; rintro e w' ⟨rfl, hbel⟩)
        go_ret
        exact ⟨rfl, hbel⟩
      · have hm1 : 0 ≤ far % (plain.length : Int) := Int.emod_nonneg _ (by omega)
        have hm2 : far % (plain.length : Int) < (plain.length : Int) := Int.emod_lt_of_pos _ (by omega)
        obtain ⟨f, hf⟩ : ∃ f : Nat, far % (plain.length : Int) = (f : Int) := Int.eq_ofNat_of_zero_le (by omega)
        obtain ⟨m, hm⟩ : ∃ m : Nat, again % 1000 = (m : Int) := Int.eq_ofNat_of_zero_le (by omega)
        have hf2 : f + 1 ≤ plain.length := by omega
        have hmm : m < 1000 := by omega
        clear hm1 hm2
        have hls := lens_seq plain (f+1) m
        have hlt2 := lens_tail tail
        obtain ⟨L, hL⟩ : ∃ L, L = seqL plain (f+1) m ++ tailL tail := ⟨_, rfl⟩
        have hLl : L.length ≤ 10000 := by rw [hL, List.length_append]; omega
        have HL := hid hL
        clear hL
        have hlw : (matL (f+1) (m+4) plain).length = plain.length + (m + 4) := matL_length _ _ _
        obtain ⟨T, hT⟩ : ∃ T, T = matL (f+1) (m+4) plain := ⟨_, rfl⟩
        rw [← hT] at hlw
        have HT := hid hT
        have hTl := hid hlw
        clear hT hlw
        obtain ⟨tb, htb⟩ : ∃ tb, tb = UInt8.ofNat (min tail.length 15 * 16) := ⟨_, rfl⟩
        have HTB := hid htb
        clear htb
        rcases Nat.lt_or_ge 15 tail.length with h15 | h15
        all_goals
          go_enter Try.func4, Try.ntmps4
          go_wp2_with fail
          rw [show (1 : Int) + (f : Int) = ((f + 1 : Nat) : Int) by omega, show (4 : Int) + (m : Int) = ((m + 4 : Nat) : Int) by omega]
          refine (lseq_any _ pv [] plain (f+1) m w.heap.size w (OwnB.nil _ _ _) hp (Nat.le_refl _) (by simp; omega) (by omega)).mono ?_
          rintro e w1 ⟨v1, rfl, ho1, hb1⟩
          have hz1 := hb1.size
          simp only [List.nil_append] at ho1
          go_wp2_with (at_builtin; refine append_byte _ rfl _ _ 22 5 rfl Try.underlying22 Try.info5 w.heap.size _ _ tb rfl (ho1.alloc _) w1.heap.size 1 rfl (cell_u8 _ _ _ _ ?_) ?_ ?_ ?_)
          · rw [HTB.out, UInt8.toNat_ofNat']; omega
          · omega
          · simp; omega
          intro v2 w2 ho2 hbl2
          have hb2 := (hb1.alloc hz1 _).trans hbl2
          have hz2 := hb2.size
          clear hbl2 ho1 hb1 hz1
          go_wp2_with fail
          refine (ladded_any v2 _ tail.length w.heap.size _ ho2 (by omega) (by simp; omega)).mono ?_
          rintro e w3 ⟨v3, rfl, ho3, hbl3⟩
          have hb3 := hb2.trans hbl3
          have hz3 := hb3.size
          clear hbl3 ho2 hb2 hz2
          go_wp2_with (at_builtin; refine append_sl _ rfl _ _ 22 5 rfl Try.underlying22 Try.info5 w.heap.size _ _ rfl ho3 _ tail w.heap.size rfl (ht.below hb3 (Nat.le_refl _)) ?_ ?_ ?_)
          · simp [addedL_length]; split <;> omega
          · omega
          intro v4 w4 ho4 hbl4
          have hb4 := hb3.trans hbl4
          have hz4 := hb4.size
          clear hbl4 ho3 hb3 hz3
          have ho5 : OwnB w4 w.heap.size 5 v4 L := by rw [HL.out]; unfold tailL; rw [← HTB.out]; simpa only [List.append_assoc, List.cons_append, List.nil_append] using ho4
          clear ho4
          go_wp2_with (at_builtin; refine append_sl _ rfl _ _ 22 5 rfl Try.underlying22 Try.info5 w4.heap.size _ [] rfl (own_empty w4 5) _ plain w.heap.size rfl (hp.below (hb4.alloc hz4 _) (Nat.le_refl _)) ?_ ?_ ?_)
          · simp; omega
          · simp
          intro v6 w6 ho6 hbl6
          have hbw := ((Below.refl w4.heap.size w4).alloc (Nat.le_refl _) (.cells #[] 5)).trans hbl6
          have ho7 := ho5.slB.below hbw (Nat.le_refl _)
          have hz6 := hbw.size
          have hb6 := hb4.trans (hbw.mono hz4)
          have ho6' : OwnB w6 w4.heap.size 5 v6 plain := by simpa using ho6
          clear ho6
          clear hbl6 hbw
          go_wp2_with fail
          go_loopw [12, 13] (fun v i wr => ∃ (j : Nat) (l2 : List UInt8), OwnB wr w4.heap.size 5 v l2 ∧ i = .int .i64 j ∧ j ≤ m + 4 ∧ f + 1 ≤ l2.length ∧ l2.length ≤ 2000 + j ∧ Below w4.heap.size w6 wr ∧ Hid (T = matL (f+1) (m + 4 - j) l2))
            (fun _ i _ => m + 4 - (intOf i).toNat)
          case atStart => exact ⟨0, plain, ho6', rfl, by omega, by omega, by omega, Below.refl _ _, HT⟩
          case round =>
            obtain ⟨j, l2, ho8, rfl, hj, hfl, hl2, hb8, HT2⟩ := hrel
            clear ho6'
            have hz8 := hb8.size
            by_cases hjn : j < m + 4
            · obtain ⟨y, hy⟩ : ∃ y, y = l2.getD (l2.length - (f+1)) 0 := ⟨_, rfl⟩
              obtain ⟨g, gc, rfl, hg1, hg2, hg3, hg4⟩ := ho8.at (l2.length - (f+1)) (by omega)
              rw [← hy] at hg4
              have hT2 := HT2.out
              rw [show m + 4 - j = (m + 4 - (j + 1)) + 1 by omega, matL, ← hy] at hT2
              have HT3 := hid hT2
              clear hT2 HT2 hy
              have hix : (l2.length : Int) - (1 + (f : Int)) = ((l2.length - (f + 1) : Nat) : Int) := by omega
              go_wp2_with (at_builtin; refine append_byte _ rfl _ _ 22 5 rfl Try.underlying22 Try.info5 w4.heap.size _ l2 y rfl (ho8.alloc _) wr.heap.size 1 rfl (cell_alloc1 _ _ _) ?_ ?_ ?_)
              · omega
              · simp; omega
              intro v' w' ho' hbl'
              have hb9 := (hb8.alloc (by omega) _).trans hbl'
              clear hbl' ho8 hg4 hb8 hz8
              go_wp2
              go_roundw
              case rel => exact ⟨j+1, _, ho', by go_num, by omega, by simp; omega, by simp; omega, hb9, HT3⟩
              case measure => simp [intOf]; omega
            · obtain rfl : j = m + 4 := by omega
              have hT2 := HT2.out
              rw [Nat.sub_self, matL] at hT2
              subst hT2
              have hTl2 := hTl.out
              have hTb : T.length ≤ 4000 := by omega
              clear HT2
              have ho9 := ho7.below hb8 (Nat.le_refl _)
              have hb9 := hb6.trans (hb8.mono (by omega))
              clear ho7 hb6 hb8
              have hTL := hid hTl2
              clear hTl2
              go_wp2_with (at_builtin; refine append_sl _ rfl _ _ 22 5 rfl Try.underlying22 Try.info5 w4.heap.size _ T rfl ho8 _ tail w.heap.size rfl (ht.below hb9 (Nat.le_refl _)) ?_ ?_ ?_)
              · omega
              · omega
              intro v10 w10 ho10 hbl10
              have ho11 := ho9.below hbl10 (Nat.le_refl _)
              have hz10 := hbl10.size
              have hb10 := hb9.trans (hbl10.mono (by omega))
              have hz11 := hb10.size
              clear hbl10 ho9 ho8 hb9
              have hlo := fun w => len_own (P := Try.prog) Try.underlying22 (ty := 3) ho10 w
              have hwl : (T ++ tail).length = T.length + tail.length := List.length_append
              rw [hwl] at hlo
              have u1 := unpack_hand plain tail (f+1) m (by omega) hf2 (by omega) (T.length + tail.length) (by omega)
              rw [if_pos (by have := hTL.out; omega), ← HL.out, ← HT.out] at u1
              have u2 := unpack_hand plain tail (f+1) m (by omega) hf2 (by omega) (T.length + tail.length - 1) (by omega)
              rw [if_neg (by have := hTL.out; omega), ← HL.out] at u2
              have U1 := hid u1
              have U2 := hid u2
              clear u1 u2
              have hT1 : 1 ≤ T.length := by omega
              have hz16 : w4.heap.size ≤ w10.heap.size := by omega
              clear hwl hls hlt2 hz8 hz6 HTB HL HT hf2 hfl hl2 hj hjn
              go_wp2_with fail
              have hL11 := ho11.mono (show w4.heap.size ≤ w10.heap.size by omega)
              rw [show ((T.length : Int) + (tail.length : Int)) = ((T.length + tail.length : Nat) : Int) by omega]
              refine (unpack_call L v4 _ w10 hL11 (by omega)).mono ?_
              rintro e w12 ⟨v12, rfl, hv12, hb12⟩
              rw [U1.out] at hv12 ⊢
              simp only [resB, resE] at hv12 ⊢
              have hz12 := hb12.size
              have hL12 := hL11.below hb12 (Nat.le_refl _)
              have ho12 := ho10.slB.below hb12 (Nat.le_refl _)
              have hb13 := hb10.trans (hb12.mono hz11)
              clear hL11 ho10 ho11 hb10 U1
              go_wp2_with fail
              rw [show ((T.length : Int) + (tail.length : Int) - 1) = ((T.length + tail.length - 1 : Nat) : Int) by omega]
              refine (unpack_call L v4 _ w12 (hL12.mono hz12) (by omega)).mono ?_
              rintro e w14 ⟨v14, rfl, hv14, hb14⟩
              rw [U2.out] at hv14 ⊢
              simp only [resB, resE] at hv14 ⊢
              have hc12 := conv_sl (P := Try.prog) Try.underlying22 Try.underlying5 Try.underlying9 (hv12.below hb14 (Nat.le_refl _))
              have hc10 := conv_sl (P := Try.prog) Try.underlying22 Try.underlying5 Try.underlying9 (ho12.below hb14 hz12)
              have hl14 := fun w => len_sl (P := Try.prog) Try.underlying22 (ty := 3) hv14.choose_spec.choose_spec.1 w
              have hb15 := hb13.trans (hb14.mono (by omega))
              clear hv12 ho12 hv14 hb13 hb14 hL12 hb12 U2
              go_wp2_with (first | (go_at_call 14; refine (num_any _ _).mono ?_; rintro e w' ⟨rfl, rfl⟩) | (go_at_call 11; refine (awake_any _).mono ?_; rintro e w16 ⟨rfl, hb16⟩))
              go_ret
              exact ⟨rfl, hb15.trans (hb16.mono hb15.size)⟩
end Go.Proofs.Ytmbfcpdflhjfnaa
