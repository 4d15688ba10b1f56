import Derived.Test.YtcmfmjmjamfndaaS
namespace Go.Dk
theorem put_nil (a : Nat) (s : Sec) : put [] a s = List.replicate a zs ++ [s] := by
  unfold put grow
  simp only [List.nil_append, List.length_nil, Nat.sub_zero]
  rw [List.replicate_succ', List.set_append_right _ _ (by simp)]
  simp
theorem flat_zs (a : Nat) : (List.replicate a zs).flatten = List.replicate (a * 16) 0 := by
  induction a with
  | zero => rfl
  | succ a ih =>
    rw [List.replicate_succ, List.flatten_cons, ih, Nat.succ_mul, Nat.add_comm, ← List.replicate_append_replicate]; rfl
theorem flat_get (a i : Nat) (c : UInt8) (hi : i < (a + 1) * 16) : ((List.replicate a zs ++ [List.replicate 16 c]).flatten).getD i 0 = if i / 16 = a then c else 0 := by
  rw [List.flatten_append, flat_zs]
  simp only [List.flatten_cons, List.flatten_nil, List.append_nil, List.getD_eq_getElem?_getD]
  by_cases h : i < a * 16
  · rw [List.getElem?_append_left (by simpa using h), if_neg (by omega), List.getElem?_replicate, if_pos h]; rfl
  · rw [List.getElem?_append_right (by simp; omega), if_pos (by omega), List.getElem?_replicate, if_pos (by simp; omega)]; rfl
end Go.Dk
namespace Go.Proofs.Ytcmfmjmjamfndaa
open Go.RowKit Go.Mx Go.Dk
set_option linter.unusedSimpArgs false
set_option linter.unusedVariables false
theorem put_ok_nil (a : Nat) (ha : a < 65536) (c : UInt8) : SecsOk (put [] a (secOf c)) := put_ok ok_nil a ha _ (secOf_len c)

set_option maxRecDepth 100000 in
set_option maxHeartbeats 2000000 in
theorem between_any (c0 a0 : Int) (flush stays : Bool) (w : World) (hc0 : 0 ≤ c0 ∧ c0 ≤ 255) (ha0 : 0 ≤ a0 ∧ a0 ≤ 255) : Calls Try.prog 5 #[.int .u8 c0, .int .u8 a0, .bool flush, .bool stays] w fun e w' => e = .returned (.bool true) ∧ Below w.heap.size w w' := by
  obtain ⟨c, rfl⟩ : ∃ c : UInt8, c0 = c.toNat := by
    obtain ⟨n, rfl⟩ := Int.eq_ofNat_of_zero_le hc0.1
    exact ⟨UInt8.ofNat n, by rw [UInt8.toNat_ofNat']; omega⟩
  obtain ⟨a, rfl⟩ := Int.eq_ofNat_of_zero_le ha0.1
  have ha : a ≤ 255 := by omega
  clear hc0 ha0
  have hcl := c.toNat_lt
  go_enter Try.func5, Try.ntmps5
  go_wp2_with fail
  refine (new_any 1000 w (by decide)).mono ?_
  rintro e w1 ⟨rfl, hd, hb1⟩
  have HD := hid (And.intro hd hb1)
  clear hd hb1
  go_wp2_with (go_at_call 12; refine (num_any _ _).mono ?_; rintro e w' ⟨rfl, rfl⟩)
  refine (create_S0 HD.out.1).mono ?_
  rintro e w2 ⟨rfl, hd2, hf2⟩
  have H2 := hid (And.intro hd2 (HD.out.2.trans hf2.bel))
  clear hd2 hf2
  go_wp2_with fail
  refine (sector_any c w2).mono ?_
  rintro e w3 ⟨v3, rfl, ho3, hb3⟩
  obtain ⟨a3, n3, c3, rfl⟩ := slB_shape ho3.slB
  have hbb : w.heap.size ≤ w2.heap.size := H2.out.2.size
  have HW3 := hid (write_S1 (H2.out.1.below hb3) ok_nil ok_nil log_nil a (secOf c) (secOf_len _) _ (stab_own ho3) (by omega) (by show a + 1 ≤ 1000; omega) (by simp) (by decide) (by decide))
  simp only [show ¬ (0 : Nat) = 1 by decide, if_false] at HW3
  have HB3 := hid (H2.out.2.trans (hb3.mono hbb))
  clear ho3 hb3 hbb
  go_wp2_with fail
  refine HW3.out.mono ?_
  rintro e w4 ⟨hf4, rfl, hd4⟩
  have H4 := hid (And.intro hd4 (HB3.out.trans hf4.bel))
  have hoN : SecsOk (put [] a (secOf c)) := put_ok_nil a (by omega) c
  have HON := hid hoN
  have hNl : (put [] a (secOf c)).length = a + 1 := by rw [put_len]; simp
  obtain ⟨N, hN⟩ : ∃ N, N = put [] a (secOf c) := ⟨_, rfl⟩
  have H4' : Hid (H1 w4 w.heap.size (w.heap.size + 1) (S1 1000 N [] [(a, secOf c)] 0 false) ∧ Below w.heap.size w w4) := by rw [hN]; exact H4
  rw [← hN] at HON hNl
  have HN := hid (And.intro hN hNl)
  clear hd4 hf4 H4 hoN hN hNl HW3
  -- behind the flush
  cases flush
  rotate_left
  · go_wp2_with fail
    refine (flush_S1 H4'.out.1 HON.out ok_nil (log_one a (by omega) _)).mono ?_
    rintro e w5 ⟨rfl, hd5, hf5⟩
    have H5 := hid (And.intro hd5 (H4'.out.2.trans hf5.bel))
    have hal : Below w5.heap.size w5 (w5.alloc (.cells #[.bool stays] 4)) := (Below.refl _ _).alloc (Nat.le_refl _) _
    have hbb : w.heap.size ≤ w5.heap.size := H5.out.2.size
    have HC := hid (crash_S1 (H5.out.1.below hal) HON.out HON.out log_nil _ [stays] (picks_new w5 stays w.heap.size) (by simp))
    have hlay : lay N (pk1 [stays] []) = N := rfl
    rw [hlay] at HC
    have HB7 := hid (H5.out.2.trans (hal.mono hbb))
    clear hal hbb hlay hd5 hf5
    go_wp2_with fail
    refine HC.out.mono ?_
    rintro e w8 ⟨rfl, hd8, hf8⟩
    have H8 := hid (And.intro hd8 (HB7.out.trans hf8.bel))
    clear hd8 hf8
    have HR := hid (And.intro HON.out (show N.length = a + 1 from HN.out.2))
    have hnl := HN.out.2
    have HSZ := hid (size_S1 H8.out.1)
    rw [hnl] at HSZ
    have HRD := hid (read_S1 H8.out.1 HON.out HON.out log_nil 0 (a + 1) (by omega))
    rw [show ((a + 1 : Nat) : Int) = (a : Int) + 1 by omega] at HRD HSZ
    have hT : ∀ j, j < (a + 1) * 16 → (secs N 0 (a + 1)).getD j 0 = if j / 16 = a then c else 0 := fun j hj => by
      unfold secs
      rw [List.drop_zero, List.take_of_length_le (by omega), HN.out.1, put_nil]
      exact flat_get a j c hj
    have hTl : (secs N 0 (a + 1)).length = (a + 1) * 16 := by
      unfold secs
      rw [List.drop_zero, List.take_of_length_le (by omega), HN.out.1, put_nil, List.flatten_append, flat_zs]
      simp [secOf]; omega
    have HT := hid (And.intro hT hTl)
    clear hnl hT hTl
    go_wp2_with fail
    refine HSZ.out.mono ?_
    rintro e w' ⟨rfl, rfl⟩
    go_wp2_with fail
    refine HRD.out.mono ?_
    rintro e w9 ⟨v9, rfl, ho9, hb9⟩
    have hl9 := fun w' => ho9.slB.len (P := Try.prog) (ty := 3) Try.underlying22 w'
    rw [HT.out.2] at hl9
    obtain ⟨a9, n9, c9, rfl⟩ := slB_shape ho9.slB
    have H9 := hid (And.intro ho9.slB (H8.out.2.trans (hb9.mono H8.out.2.size)))
    clear ho9 hb9
    go_wp2_with fail
    go_loopw [15, 16] (fun s15 _ wr => ∃ j : Nat, j ≤ (a + 1) * 16 ∧ s15 = .int .i64 j ∧ Below w9.heap.size w9 wr) (fun s15 _ _ => (a + 1) * 16 - (intOf s15).toNat)
    case atStart => exact ⟨0, by omega, rfl, Below.refl _ _⟩
    case round =>
      obtain ⟨j, hj, rfl, hbl⟩ := hrel
      by_cases hlt : j < (a + 1) * 16
      · obtain ⟨b, o, hbb, hia, hcc⟩ := (H9.out.1.below hbl (Nat.le_refl _)).addr (P := Try.prog) Try.underlying22 (fun w => show (sizeOf 5).run Try.prog w = .ok 1 w by kernel_rfl) j (by rw [HT.out.2]; exact hlt)
        rw [HT.out.1 j hlt] at hcc
        have HBL := hid hbl
        clear hbl
        by_cases hja : j / 16 = a
        · rw [if_pos hja] at hcc
          have tq : ((j : Int) / 16 == (a : Int)) = true := by simp; omega
          have tp : (j : Int) / 16 = (a : Int) := by omega
          clear hja
          have HTP := hid tp
          clear tp
          go_wp2_with fail
          go_roundw
          case rel => exact ⟨j + 1, by omega, by go_num, HBL.out⟩
          case measure => simp [intOf]; omega
        · rw [if_neg hja] at hcc
          have tq : ((j : Int) / 16 == (a : Int)) = false := by simp; omega
          have tp : ¬ ((j : Int) / 16 = (a : Int)) := by omega
          clear hja
          go_wp2_with fail
          go_roundw
          case rel => exact ⟨j + 1, by omega, by go_num, HBL.out⟩
          case measure => simp [intOf]; omega
      · obtain rfl : j = (a + 1) * 16 := by omega
        have t8 : (((a : Int) + 1) == 0) = false := by rw [beq_eq_false_iff_ne]; omega
        have HBL := hid (H9.out.2.trans (hbl.mono H9.out.2.size))
        clear hbl
        go_wp2_with (first
          | (go_at_call 12; refine (num_any _ _).mono ?_; rintro e w' ⟨rfl, rfl⟩)
          | (go_at_call 10; refine (awake_any _).mono ?_; rintro e w10 ⟨rfl, hb10⟩))
        go_ret
        exact ⟨rfl, HBL.out.trans (hb10.mono HBL.out.size)⟩
  · cases stays
    · have hal : Below w4.heap.size w4 (w4.alloc (.cells #[.bool false] 4)) := (Below.refl _ _).alloc (Nat.le_refl _) _
      have hbb : w.heap.size ≤ w4.heap.size := H4'.out.2.size
      have HC := hid (crash_S1 (H4'.out.1.below hal) HON.out ok_nil (log_one a (by omega) _) _ [false] (picks_new w4 false w.heap.size) (by decide))
      have hlay : lay [] (pk1 [false] [(a, secOf c)]) = [] := rfl
      rw [hlay] at HC
      have HB7 := hid (H4'.out.2.trans (hal.mono hbb))
      clear hal hbb hlay
      go_wp2_with fail
      refine HC.out.mono ?_
      rintro e w8 ⟨rfl, hd8, hf8⟩
      have H8 := hid (And.intro hd8 (HB7.out.trans hf8.bel))
      clear hd8 hf8
      have HSZ := hid (size_S1 H8.out.1)
      have HRD := hid (read_S1 H8.out.1 ok_nil ok_nil log_nil 0 0 (by decide))
      go_wp2_with fail
      refine HSZ.out.mono ?_
      rintro e w' ⟨rfl, rfl⟩
      go_wp2_with fail
      refine HRD.out.mono ?_
      rintro e w9 ⟨v9, rfl, ho9, hb9⟩
      have hl9 := fun w' => ho9.slB.len (P := Try.prog) (ty := 3) Try.underlying22 w'
      rw [show secs [] 0 0 = [] from rfl] at hl9
      obtain ⟨a9, n9, c9, rfl⟩ := slB_shape ho9.slB
      have H9 := hid (H8.out.2.trans (hb9.mono H8.out.2.size))
      clear ho9 hb9
      go_wp2_with fail
      go_loopw [15, 16] (fun s15 _ wr => s15 = .int .i64 0 ∧ Below w9.heap.size w9 wr) (fun s15 _ _ => 0)
      case atStart => exact ⟨rfl, Below.refl _ _⟩
      case round =>
        obtain ⟨rfl, hbl⟩ := hrel
        have HBL := hid (H9.out.trans (hbl.mono H9.out.size))
        clear hbl
        go_wp2_with (first
          | (go_at_call 12; refine (num_any _ _).mono ?_; rintro e w' ⟨rfl, rfl⟩)
          | (go_at_call 10; refine (awake_any _).mono ?_; rintro e w10 ⟨rfl, hb10⟩))
        go_ret
        exact ⟨rfl, HBL.out.trans (hb10.mono HBL.out.size)⟩
    · have hal : Below w4.heap.size w4 (w4.alloc (.cells #[.bool true] 4)) := (Below.refl _ _).alloc (Nat.le_refl _) _
      have hbb : w.heap.size ≤ w4.heap.size := H4'.out.2.size
      have HC := hid (crash_S1 (H4'.out.1.below hal) HON.out ok_nil (log_one a (by omega) _) _ [true] (picks_new w4 true w.heap.size) (by decide))
      have hlay : lay [] (pk1 [true] [(a, secOf c)]) = N := by rw [HN.out.1]; rfl
      rw [hlay] at HC
      have HB7 := hid (H4'.out.2.trans (hal.mono hbb))
      clear hal hbb hlay
      go_wp2_with fail
      refine HC.out.mono ?_
      rintro e w8 ⟨rfl, hd8, hf8⟩
      have H8 := hid (And.intro hd8 (HB7.out.trans hf8.bel))
      clear hd8 hf8
      have hnl := HN.out.2
      have HSZ := hid (size_S1 H8.out.1)
      rw [hnl] at HSZ
      have HRD := hid (read_S1 H8.out.1 HON.out HON.out log_nil 0 (a + 1) (by omega))
      rw [show ((a + 1 : Nat) : Int) = (a : Int) + 1 by omega] at HRD HSZ
      have hT : ∀ j, j < (a + 1) * 16 → (secs N 0 (a + 1)).getD j 0 = if j / 16 = a then c else 0 := fun j hj => by
        unfold secs
        rw [List.drop_zero, List.take_of_length_le (by omega), HN.out.1, put_nil]
        exact flat_get a j c hj
      have hTl : (secs N 0 (a + 1)).length = (a + 1) * 16 := by
        unfold secs
        rw [List.drop_zero, List.take_of_length_le (by omega), HN.out.1, put_nil, List.flatten_append, flat_zs]
        simp [secOf]; omega
      have HT := hid (And.intro hT hTl)
      clear hnl hT hTl
      go_wp2_with fail
      refine HSZ.out.mono ?_
      rintro e w' ⟨rfl, rfl⟩
      go_wp2_with fail
      refine HRD.out.mono ?_
      rintro e w9 ⟨v9, rfl, ho9, hb9⟩
      have hl9 := fun w' => ho9.slB.len (P := Try.prog) (ty := 3) Try.underlying22 w'
      rw [HT.out.2] at hl9
      obtain ⟨a9, n9, c9, rfl⟩ := slB_shape ho9.slB
      have H9 := hid (And.intro ho9.slB (H8.out.2.trans (hb9.mono H8.out.2.size)))
      clear ho9 hb9
      go_wp2_with fail
      go_loopw [15, 16] (fun s15 _ wr => ∃ j : Nat, j ≤ (a + 1) * 16 ∧ s15 = .int .i64 j ∧ Below w9.heap.size w9 wr) (fun s15 _ _ => (a + 1) * 16 - (intOf s15).toNat)
      case atStart => exact ⟨0, by omega, rfl, Below.refl _ _⟩
      case round =>
        obtain ⟨j, hj, rfl, hbl⟩ := hrel
        by_cases hlt : j < (a + 1) * 16
        · obtain ⟨b, o, hbb, hia, hcc⟩ := (H9.out.1.below hbl (Nat.le_refl _)).addr (P := Try.prog) Try.underlying22 (fun w => show (sizeOf 5).run Try.prog w = .ok 1 w by kernel_rfl) j (by rw [HT.out.2]; exact hlt)
          rw [HT.out.1 j hlt] at hcc
          have HBL := hid hbl
          clear hbl
          by_cases hja : j / 16 = a
          · rw [if_pos hja] at hcc
            have tq : ((j : Int) / 16 == (a : Int)) = true := by simp; omega
            have tp : (j : Int) / 16 = (a : Int) := by omega
            clear hja
            have HTP := hid tp
            clear tp
            go_wp2_with fail
            go_roundw
            case rel => exact ⟨j + 1, by omega, by go_num, HBL.out⟩
            case measure => simp [intOf]; omega
          · rw [if_neg hja] at hcc
            have tq : ((j : Int) / 16 == (a : Int)) = false := by simp; omega
            have tp : ¬ ((j : Int) / 16 = (a : Int)) := by omega
            clear hja
            go_wp2_with fail
            go_roundw
            case rel => exact ⟨j + 1, by omega, by go_num, HBL.out⟩
            case measure => simp [intOf]; omega
        · obtain rfl : j = (a + 1) * 16 := by omega
          have t8 : (((a : Int) + 1) == 0) = false := by rw [beq_eq_false_iff_ne]; omega
          have HBL := hid (H9.out.2.trans (hbl.mono H9.out.2.size))
          clear hbl
          go_wp2_with (first
            | (go_at_call 12; refine (num_any _ _).mono ?_; rintro e w' ⟨rfl, rfl⟩)
            | (go_at_call 10; refine (awake_any _).mono ?_; rintro e w10 ⟨rfl, hb10⟩))
          go_ret
          exact ⟨rfl, HBL.out.trans (hb10.mono HBL.out.size)⟩
end Go.Proofs.Ytcmfmjmjamfndaa
