import Derived.Test.YtcmfmjmjamfndaaP76
namespace Go.Proofs.Ytcmfmjmjamfndaa
open Go.RowKit Go.Mx Go.Dk
set_option linter.unusedSimpArgs false
set_option linter.unusedVariables false
theorem Try.info4' : (Try.prog.info? 4).map (fun i => (i.zero, i.size, i.bytes)) = some (some (.bool false), 1, 1) := by kernel_rfl
theorem Try.info5' : (Try.prog.info? 5).map (fun i => (i.zero, i.size, i.bytes)) = some (some (.int .u8 0), 1, 1) := by kernel_rfl
set_option maxRecDepth 100000 in
set_option maxHeartbeats 4000000 in
theorem powers_any (n0 : Int) (zs : List Bool) (pv : Value) (w : World) (hn0 : 0 ≤ n0 ∧ n0 ≤ 255) (hp : SlG w w.heap.size 1 pv (zs.map fun b => [.bool b])) :
    Calls Try.prog 7 #[.int .u8 n0, pv] w fun e w' => e = .returned (.bool true) ∧ Below w.heap.size w w' := by
  obtain ⟨n, rfl⟩ := Int.eq_ofNat_of_zero_le hn0.1
  have hn : n ≤ 255 := by omega
  have hlp := fun w' => hp.len (P := Try.prog) (ty := 3) Try.underlying23 w'
  rw [List.length_map] at hlp
  obtain ⟨pa, pn, pc, rfl⟩ : ∃ oa n c, pv = .slice oa n c := by obtain ⟨oa, c, rfl, _⟩ := hp; exact ⟨_, _, _, rfl⟩
  clear hp
  obtain ⟨J, hJ, hJq⟩ : ∃ k : Nat, k < 20 ∧ ((n : Nat) : Int).tmod 20 = (k : Int) := ⟨n % 20, Nat.mod_lt _ (by omega), by rw [Int.tmod_eq_emod_of_nonneg (by omega)]; rfl⟩
  have hyw : IntKind.i64.wrap (n : Int) = (n : Int) := IntWalk.i64_in _ (by omega)
  obtain ⟨K, hKJ⟩ : ∃ K : Nat, K = J + 1 := ⟨_, rfl⟩
  have hk1 : IntKind.i64.wrap (1 + (J : Int)) = (K : Int) := by rw [IntWalk.i64_in _ (by omega)]; omega
  have hk2 : IntKind.i64.wrap ((K : Int) - 1) = (J : Int) := by rw [IntWalk.i64_in _ (by omega)]; omega
  have hk3 : IntKind.i64.wrap (16 * (J : Int)) = 16 * (J : Int) := IntWalk.i64_in _ (by omega)
  have HKJ := hid hKJ
  clear hKJ hn0
  go_enter Try.func7, Try.ntmps7
  go_wp2_with fail
  refine (new_any 100 w (by decide)).mono ?_
  rintro e w1 ⟨rfl, hd, hb1⟩
  have HD := hid (And.intro hd hb1)
  clear hd hb1
  by_cases hg : 100 < zs.length
  · have t0 : decide ((100 : Int) < (zs.length : Int)) = true := by simp; omega
    go_wp2_with (first
      | (go_at_call 12; refine (num_any _ _).mono ?_; rintro e w' ⟨rfl, rfl⟩)
      | (go_at_call 10; refine (awake_any _).mono ?_; rintro e w10 ⟨rfl, hb10⟩))
    go_ret
    exact ⟨rfl, HD.out.2.trans (hb10.mono HD.out.2.size)⟩
  have t0 : decide ((100 : Int) < (zs.length : Int)) = false := by simp; omega
  have t1 : ¬ ((100 : Int) < (zs.length : Int)) := by omega
  go_wp2_with (go_at_call 12; refine (num_any _ _).mono ?_; rintro e w' ⟨rfl, rfl⟩)
  refine (create_S0 HD.out.1).mono ?_
  rintro e w2 ⟨rfl, hd2, hf2⟩
  have H2 := hid (And.intro hd2 (HD.out.2.trans hf2.bel))
  clear hd2 hf2 t0 t1 hg
  have HPW := hid (power_S1 H2.out.1 K)
  go_wp2_with fail
  refine HPW.out.mono ?_
  rintro e w3 ⟨rfl, hd3, hf3⟩
  have H3 := hid (And.intro hd3 (H2.out.2.trans hf3.bel))
  clear hd3 hf3
  go_wp2_with fail
  go_loopw [8, 9] (fun s8 s9 wr => ∃ (i : Nat) (oa : Option Addr) (m c : Nat), s8 = .slice oa m c ∧ s9 = .int .i64 i ∧ i ≤ 20 ∧ OwnB wr w3.heap.size 5 (.slice oa m c) (abc i).flatten ∧ Below w3.heap.size w3 wr) (fun _ s9 _ => 20 - (intOf s9).toNat)
  case atStart => exact ⟨0, _, _, _, rfl, rfl, by omega, OwnB.nil _ _ _, Below.refl _ _⟩
  case round =>
    obtain ⟨i, a8, n8, c8, rfl, rfl, hi, ho, hbl⟩ := hrel
    by_cases hlt : i < 20
    · obtain ⟨c, hc⟩ : ∃ c : UInt8, c = UInt8.ofNat (97 + i) := ⟨_, rfl⟩
      have hcN : IntKind.i64.wrap (97 + (i : Int)) = 97 + (i : Int) := IntWalk.i64_in _ (by omega)
      have hcT : IntKind.u8.wrap (97 + (i : Int)) = (c.toNat : Int) := by
        rw [hc]
        simp [IntKind.wrap, IntKind.bits, IntKind.signed, UInt8.toNat_ofNat]
      have HC := hid hc
      have HX := hid (And.intro ho hbl)
      have HS := hid (sector_any c wr)
      clear hc ho hbl
      go_wp2_with fail
      go_wp2_with (first
        | (go_at_call 15; refine HS.out.mono ?_; rintro e w4 ⟨v4, rfl, ho4, hb4⟩)
        | (at_builtin; refine append_sl _ rfl _ _ 22 5 rfl Try.underlying22 Try.info5' w3.heap.size _ (abc i).flatten rfl (HX.out.1.below hb4 (fun k hk => HX.out.1.lt k hk)) _ (secOf c) _ rfl ho4.slB ?_ ?_ ?_))
      · rw [flat_len _ (abc_ok i), abc_len, secOf_len]; omega
      · have h1 := HX.out.2.size; have h2 := hb4.size; omega
      intro v5 w5 ho5 hb5
      obtain ⟨a5, n5, c5, rfl⟩ := slB_shape ho5.slB
      have H5 := hid (And.intro ho5 (HX.out.2.trans ((hb4.mono HX.out.2.size).trans hb5)))
      clear ho5 hb5 ho4 hb4
      go_wp2_with fail
      go_roundw
      case rel =>
        refine ⟨i + 1, _, _, _, rfl, by go_num, by omega, ?_, H5.out.2⟩
        rw [abc_succ, ← HC.out]; exact H5.out.1
      case measure => simp [intOf]; omega
    · obtain rfl : i = 20 := by omega
      have hsz3 : w.heap.size ≤ w3.heap.size := H3.out.2.size
      have hsz : w3.heap.size ≤ wr.heap.size := hbl.size
      have HL : Hid ((abc 20).take J = (abc 20).take (K - 1) ∧ ((abc 20).take J).length = J) := hid ⟨by rw [HKJ.out]; rfl, by rw [List.length_take, abc_len]; omega⟩
      have HOK : Hid (SecsOk ((abc 20).take J)) := hid ⟨by rw [HL.out.2]; omega, fun s hs => abc_ok 20 s (List.mem_of_mem_take hs)⟩
      have HSt := hid (stab_own (base := w.heap.size) ho)
      have HWF : Hid (Calls Try.prog 14 #[dp (w.heap.size + 1), fN, .int .i64 0, .slice a8 n8 c8] wr fun e w' => Fr w.heap.size wr w' ∧ e = .returned (.int .i64 8) ∧ H1 w' w.heap.size (w.heap.size + 1) (S1 100 ((abc 20).take J) [] (idx 0 ((abc 20).take J)) 0 true)) := hid (by
        have := write_fall (H3.out.1.below hbl) ok_nil ok_nil log_nil (abc 20) (abc_ok 20) (.slice a8 n8 c8) HSt.out (by rw [abc_len]; simp) (by rw [abc_len]; simp) (by decide) (by rw [HKJ.out]; omega) (by rw [abc_len, HKJ.out]; omega)
        rw [← HL.out.1] at this
        exact this)
      have HB4 := hid (H3.out.2.trans (hbl.mono hsz3))
      clear ho hbl
      go_wp2_with fail
      refine HWF.out.mono ?_
      rintro e w5 ⟨hf5, rfl, hd5⟩
      have H5 := hid (And.intro hd5 (And.intro (HB4.out.trans hf5.bel) hf5))
      clear hd5 hf5
      have HSZ := hid (size_S1 H5.out.1)
      rw [HL.out.2] at HSZ
      have HRO := hid (read_off H5.out.1 0 0)
      go_wp2_with fail
      refine HSZ.out.mono ?_
      rintro e w' ⟨rfl, rfl⟩
      go_wp2_with fail
      refine HRO.out.mono ?_
      rintro e w' ⟨rfl, rfl⟩
      go_wp2_with (first
        | (go_at_call 12; refine (num_any _ _).mono ?_; rintro e w' ⟨rfl, rfl⟩)
        | (go_at_call 13; refine (create_off H5.out.1 _).mono ?_; rintro e w' ⟨rfl, rfl⟩)
        | (go_at_call 21; refine (remove_off H5.out.1).mono ?_; rintro e w' ⟨rfl, rfl⟩)
        | (go_at_call 16; refine (flush_off H5.out.1).mono ?_; rintro e w' ⟨rfl, rfl⟩)
        | (go_at_call 23; refine (cut_off H5.out.1 _).mono ?_; rintro e w' ⟨rfl, rfl⟩)
        | (go_at_call 14; refine (write_off H5.out.1 _ _ _ _).mono ?_; rintro e w' ⟨rfl, rfl⟩))
      obtain ⟨wO, hwO⟩ : ∃ w, w = wr := ⟨_, rfl⟩
      subst hwO
      go_wp2_with fail
      go_loopw [15, 16] (fun s15 s16 wr => ∃ (i : Nat) (oa : Option Addr) (m c : Nat), s15 = .slice oa m c ∧ s16 = .int .i64 i ∧ i ≤ J ∧ OwnV wr w5.heap.size 4 (.slice oa m c) ((List.replicate i true).map .bool) ∧ Below w5.heap.size w5 wr) (fun _ s16 _ => J - (intOf s16).toNat)
      case atStart => exact ⟨0, _, _, _, rfl, rfl, by omega, OwnV.nil _ _ _, Below.refl _ _⟩
      case round =>
        obtain ⟨i, a6, n6, c6, rfl, rfl, hi, ho, hbl⟩ := hrel
        by_cases hlt : i < J
        · have HX := hid (And.intro ho hbl)
          clear ho hbl
          go_wp2_with (at_builtin; refine append_v _ rfl _ _ 23 4 _ 1 rfl Try.underlying23 Try.info4' rfl w5.heap.size _ ((List.replicate i true).map .bool) (.bool true) rfl (HX.out.1.below ((Below.refl _ _).alloc (Nat.le_refl _) _) (Nat.le_refl _)) _ _ rfl (cell_alloc1 _ _ _) rfl ?_ ?_ ?_ ?_)
          · simp; omega
          · simp; omega
          · have h1 := HX.out.2.size; simp; omega
          intro v6 w6 ho6 hb6
          obtain ⟨a7, n7, c7, rfl⟩ : ∃ oa n c, v6 = .slice oa n c := by obtain ⟨oa, c, hh, _⟩ := ho6.slG; exact ⟨_, _, _, hh⟩
          have H6 := hid (And.intro ho6 ((HX.out.2.alloc HX.out.2.size (.cells #[.bool true] 4)).trans hb6))
          clear ho6 hb6
          go_wp2_with fail
          go_roundw
          case rel =>
            refine ⟨i + 1, _, _, _, rfl, by go_num, by omega, ?_, H6.out.2⟩
            rw [List.replicate_succ', List.map_append, List.map_replicate]; exact H6.out.1
          case measure => simp [intOf]; omega
        · obtain rfl : i = J := by omega
          have hsz5 : w.heap.size ≤ w5.heap.size := H5.out.2.1.size
          have HPk := hid (picks_own (base := w.heap.size) ho)
          have HCR : Hid (Calls Try.prog 18 #[dp (w.heap.size + 1), .slice a6 n6 c6] wr fun e w' => e = .returned (.tuple #[]) ∧ H1 w' w.heap.size (w.heap.size + 1) (S1 100 ((abc 20).take i) ((abc 20).take i) [] 0 false) ∧ Fr w.heap.size wr w') := hid (crash_fall (H5.out.1.below hbl) HOK.out (by rw [HL.out.2]; omega) _ (by rw [HL.out.2]; exact HPk.out))
          have HB6 := hid (And.intro (H5.out.2.1.trans (hbl.mono hsz5)) (H5.out.2.2.trans (Fr.of_below (hbl) hsz5)))
          clear ho hbl
          go_wp2_with fail
          refine HCR.out.mono ?_
          rintro e w7 ⟨rfl, hd7, hf7⟩
          have H7 := hid (And.intro hd7 (And.intro (HB6.out.1.trans hf7.bel) (HB6.out.2.trans hf7)))
          clear hd7 hf7
          have HRD := hid (read_S1 H7.out.1 HOK.out HOK.out log_nil 0 i (by rw [HL.out.2]; omega))
          go_wp2_with fail
          refine HRD.out.mono ?_
          rintro e w9 ⟨v9, rfl, ho9, hb9⟩
          have hs9 : secs ((abc 20).take i) 0 i = ((abc 20).take i).flatten := by have := secs_all ((abc 20).take i); rwa [HL.out.2] at this
          rw [hs9] at ho9
          have hsz7 : w.heap.size ≤ w7.heap.size := H7.out.2.1.size
          have hft : (abc 20).flatten.take (16 * i) = ((abc 20).take i).flatten := flat_take _ _ (abc_ok 20) (by rw [abc_len]; omega)
          have hst8 := fun w' (h : Fr w.heap.size w9 w') => HSt.out w' ((H7.out.2.2.trans (Fr.of_below hb9 hsz7)).trans h)
          have HST8 := hid hst8
          obtain ⟨sv, hsv, hto⟩ := slb_to_fr hst8 (16 * i) (by rw [flat_len _ (abc_ok 20), abc_len]; omega)
          rw [hft] at hsv
          have hcut : ∀ w' (k : IntKind), (Instr.slice 22 (.slice a8 n8 c8) none (some (.int k (16 * (i : Int)))) none).run Try.prog w' = .ok sv w' := fun w' k => hto w' k
          obtain ⟨T, hT⟩ : ∃ T, T = ((abc 20).take i).flatten := ⟨_, rfl⟩
          rw [← hT] at ho9 hsv
          have hc8 := conv_fr hsv
          have hc9 := conv_fr (stab_own (base := w.heap.size) ho9)
          obtain ⟨sa, sn, sc, rfl⟩ := slB_shape (hsv w9 (Fr.refl _ _))
          obtain ⟨a9, n9, c9, rfl⟩ := slB_shape ho9.slB
          have hdr : Below w9.heap.size w9 w9.drew := (Below.refl _ _).drew
          have hsz9 : w.heap.size ≤ w9.heap.size := by have := hb9.size; omega
          have hfd : Fr w.heap.size w9 w9.drew := Fr.of_below hdr hsz9
          have HWG : Hid (Calls Try.prog 14 #[dp (w.heap.size + 1), fN, .int .i64 0, .slice a8 n8 c8] w9.drew fun e w' => e = .returned (.int .i64 0) ∧ Fr w.heap.size w9 w') := hid ((write_go ((H7.out.1.below hb9).below hdr) HOK.out HOK.out log_nil (abc 20) (abc_ok 20) (.slice a8 n8 c8) (fun w' h => HST8.out w' (hfd.trans h)) (by rw [abc_len]; simp) (by rw [abc_len]; simp) (by rw [abc_len]; simp) (by rw [HL.out.2]; omega) (by decide)).mono fun e w' ⟨he, hf⟩ => ⟨he, hfd.trans hf⟩)
          have HAW : Hid (∀ w', Fr w.heap.size w9 w' → Calls Try.prog 10 #[] w' fun e w'' => e = .returned (.bool true) ∧ Fr w.heap.size w9 w'') := hid fun w' h => (awake_any w').mono fun e w'' ⟨he, hb⟩ => ⟨he, h.trans (Fr.of_below hb (by have := h.size; omega))⟩
          have H9 := hid (H7.out.2.1.trans (hb9.mono hsz7))
          clear ho9 hb9 hs9 hft hst8 hsv hto hT hdr
          go_wp2_with fail
          refine wp_region_held_drew (S := fun w' => Fr w.heap.size w9 w') (by kernel_rfl) (by exact hfd) (fun hHeld => ?_)
          refine wpAnyH_take (i := 0) (v := ?_) rfl (by kernel_rfl) (by kernel_rfl) (by kernel_rfl) (fun _ _ _ h => h) (Or.inl ⟨by rfl, ?_⟩) (by assumption) ?_
          rotate_left
          · (intro w hSw; (try dsimp only at hSw); go_simp; try (with_reducible rfl))
          try simp only [Act.put, List.getElem_toArray, List.getElem_cons_succ, List.getElem_cons_zero, List.setIfInBounds_toArray, List.set_cons_zero, List.set_cons_succ]
          refine wpAnyH_ready (rs := [1]) (by kernel_rfl) (by simp) (AllReadyH.cons rfl (fun K hK => ?_) AllReadyH.nil)
          go_simp
          go_wp2_with ((go_at_call 12; refine (num_any _ _).mono ?_; rintro e w' ⟨rfl, rfl⟩))
          refine hK.out _ _ (by first | assumption | exact Fr.refl _ _) (fun hHeld5 => ?_)
          clear hK K hHeld
          have hHeld := hHeld5
          clear hHeld5
          try simp only [Act.put, List.getElem_toArray, List.getElem_cons_succ, List.getElem_cons_zero, List.setIfInBounds_toArray, List.set_cons_zero, List.set_cons_succ]
          refine wpAnyH_take (i := 2) (v := ?_) rfl (by kernel_rfl) (by kernel_rfl) (by kernel_rfl) (fun _ _ _ h => h) (Or.inl ⟨by rfl, ?_⟩) (by assumption) ?_
          rotate_left
          · (intro w hSw; (try dsimp only at hSw); go_simp; try (with_reducible rfl))
          try simp only [Act.put, List.getElem_toArray, List.getElem_cons_succ, List.getElem_cons_zero, List.setIfInBounds_toArray, List.set_cons_zero, List.set_cons_succ]
          refine wpAnyH_take (i := 3) (v := ?_) rfl (by kernel_rfl) (by kernel_rfl) (by kernel_rfl) (fun _ _ _ h => h) (Or.inl ⟨by rfl, ?_⟩) (by assumption) ?_
          rotate_left
          · (intro w hSw; (try dsimp only at hSw); go_simp; try (with_reducible rfl))
          try simp only [Act.put, List.getElem_toArray, List.getElem_cons_succ, List.getElem_cons_zero, List.setIfInBounds_toArray, List.set_cons_zero, List.set_cons_succ]
          refine wpAnyH_take (i := 4) (v := ?_) rfl (by kernel_rfl) (by kernel_rfl) (by kernel_rfl) (fun _ _ _ h => h) (Or.inl ⟨by rfl, ?_⟩) (by assumption) ?_
          rotate_left
          · (intro w hSw; (try dsimp only at hSw); go_simp; try (with_reducible rfl))
          try simp only [Act.put, List.getElem_toArray, List.getElem_cons_succ, List.getElem_cons_zero, List.setIfInBounds_toArray, List.set_cons_zero, List.set_cons_succ]
          refine wpAnyH_take (i := 5) (v := ?_) rfl (by kernel_rfl) (by kernel_rfl) (by kernel_rfl) (fun _ _ _ h => h) (Or.inl ⟨by rfl, ?_⟩) (by assumption) ?_
          rotate_left
          · (intro w hSw; (try dsimp only at hSw); go_simp; try (with_reducible rfl))
          try simp only [Act.put, List.getElem_toArray, List.getElem_cons_succ, List.getElem_cons_zero, List.setIfInBounds_toArray, List.set_cons_zero, List.set_cons_succ]
          refine wpAnyH_take (i := 6) (v := ?_) rfl (by kernel_rfl) (by kernel_rfl) (by kernel_rfl) (fun _ _ _ h => h) (Or.inl ⟨by rfl, ?_⟩) (by assumption) ?_
          rotate_left
          · (intro w hSw; (try dsimp only at hSw); go_simp; try (with_reducible rfl))
          try simp only [Act.put, List.getElem_toArray, List.getElem_cons_succ, List.getElem_cons_zero, List.setIfInBounds_toArray, List.set_cons_zero, List.set_cons_succ]
          refine wpAnyH_take (i := 7) (v := ?_) rfl (by kernel_rfl) (by kernel_rfl) (by kernel_rfl) (fun _ _ _ h => h) (Or.inl ⟨by rfl, ?_⟩) (by assumption) ?_
          rotate_left
          · (intro w hSw; (try dsimp only at hSw); go_simp; try (with_reducible rfl))
          try simp only [Act.put, List.getElem_toArray, List.getElem_cons_succ, List.getElem_cons_zero, List.setIfInBounds_toArray, List.set_cons_zero, List.set_cons_succ]
          refine wpAnyH_take (i := 8) (v := ?_) rfl (by kernel_rfl) (by kernel_rfl) (by kernel_rfl) (fun _ _ _ h => h) (Or.inl ⟨by rfl, ?_⟩) (by assumption) ?_
          rotate_left
          · (intro w hSw; (try dsimp only at hSw); go_simp; try (with_reducible rfl))
          try simp only [Act.put, List.getElem_toArray, List.getElem_cons_succ, List.getElem_cons_zero, List.setIfInBounds_toArray, List.set_cons_zero, List.set_cons_succ]
          refine wpAnyH_take (i := 9) (v := ?_) rfl (by kernel_rfl) (by kernel_rfl) (by kernel_rfl) (fun _ _ _ h => h) (Or.inl ⟨by rfl, ?_⟩) (by assumption) ?_
          rotate_left
          · (intro w hSw; (try dsimp only at hSw); go_simp; try (with_reducible rfl))
          try simp only [Act.put, List.getElem_toArray, List.getElem_cons_succ, List.getElem_cons_zero, List.setIfInBounds_toArray, List.set_cons_zero, List.set_cons_succ]
          refine wpAnyH_take (i := 10) (v := ?_) rfl (by kernel_rfl) (by kernel_rfl) (by kernel_rfl) (fun _ _ _ h => h) (Or.inl ⟨by rfl, ?_⟩) (by assumption) ?_
          rotate_left
          · (intro w hSw; (try dsimp only at hSw); go_simp; try (with_reducible rfl))
          try simp only [Act.put, List.getElem_toArray, List.getElem_cons_succ, List.getElem_cons_zero, List.setIfInBounds_toArray, List.set_cons_zero, List.set_cons_succ]
          refine wpAnyH_take (i := 11) (v := ?_) rfl (by kernel_rfl) (by kernel_rfl) (by kernel_rfl) (fun _ _ _ h => h) (Or.inl ⟨by rfl, ?_⟩) (by assumption) ?_
          rotate_left
          · (intro w hSw; (try dsimp only at hSw); go_simp; try (with_reducible rfl))
          try simp only [Act.put, List.getElem_toArray, List.getElem_cons_succ, List.getElem_cons_zero, List.setIfInBounds_toArray, List.set_cons_zero, List.set_cons_succ]
          refine wpAnyH_take (i := 12) (v := ?_) rfl (by kernel_rfl) (by kernel_rfl) (by kernel_rfl) (fun _ _ _ h => h) (Or.inl ⟨by rfl, ?_⟩) (by assumption) ?_
          rotate_left
          · (intro w hSw; (try dsimp only at hSw); go_simp; try (with_reducible rfl))
          try simp only [Act.put, List.getElem_toArray, List.getElem_cons_succ, List.getElem_cons_zero, List.setIfInBounds_toArray, List.set_cons_zero, List.set_cons_succ]
          refine wpAnyH_take (i := 13) (v := ?_) rfl (by kernel_rfl) (by kernel_rfl) (by kernel_rfl) (fun _ _ _ h => h) (Or.inl ⟨by rfl, ?_⟩) (by assumption) ?_
          rotate_left
          · (intro w hSw; (try dsimp only at hSw); go_simp; try (with_reducible rfl))
          try simp only [Act.put, List.getElem_toArray, List.getElem_cons_succ, List.getElem_cons_zero, List.setIfInBounds_toArray, List.set_cons_zero, List.set_cons_succ]
          refine wpAnyH_take (i := 14) (v := ?_) rfl (by kernel_rfl) (by kernel_rfl) (by kernel_rfl) (fun _ _ _ h => h) (Or.inl ⟨by rfl, ?_⟩) (by assumption) ?_
          rotate_left
          · (intro w hSw; (try dsimp only at hSw); go_simp; try (with_reducible rfl))
          try simp only [Act.put, List.getElem_toArray, List.getElem_cons_succ, List.getElem_cons_zero, List.setIfInBounds_toArray, List.set_cons_zero, List.set_cons_succ]
          refine wpAnyH_take (i := 15) (v := ?_) rfl (by kernel_rfl) (by kernel_rfl) (by kernel_rfl) (fun _ _ _ h => h) (Or.inl ⟨by rfl, ?_⟩) (by assumption) ?_
          rotate_left
          · (intro w hSw; (try dsimp only at hSw); go_simp; try (with_reducible rfl))
          try simp only [Act.put, List.getElem_toArray, List.getElem_cons_succ, List.getElem_cons_zero, List.setIfInBounds_toArray, List.set_cons_zero, List.set_cons_succ]
          refine wpAnyH_take (i := 16) (v := ?_) rfl (by kernel_rfl) (by kernel_rfl) (by kernel_rfl) (fun _ _ _ h => h) (Or.inl ⟨by rfl, ?_⟩) (by assumption) ?_
          rotate_left
          · (intro w hSw; (try dsimp only at hSw); go_simp; try (with_reducible rfl))
          try simp only [Act.put, List.getElem_toArray, List.getElem_cons_succ, List.getElem_cons_zero, List.setIfInBounds_toArray, List.set_cons_zero, List.set_cons_succ]
          refine wpAnyH_ready (rs := [17]) (by kernel_rfl) (by simp) (AllReadyH.cons rfl (fun K hK => ?_) AllReadyH.nil)
          go_simp
          go_wp2_with ((go_at_call 14; refine HWG.out.mono ?_; rintro e w10 ⟨rfl, hf10⟩))
          refine hK.out _ _ (by first | assumption | exact Fr.refl _ _) (fun hHeld5 => ?_)
          clear hK K hHeld
          have hHeld := hHeld5
          clear hHeld5
          try simp only [Act.put, List.getElem_toArray, List.getElem_cons_succ, List.getElem_cons_zero, List.setIfInBounds_toArray, List.set_cons_zero, List.set_cons_succ]
          refine wpAnyH_ready (rs := [18]) (by kernel_rfl) (by simp) (AllReadyH.cons rfl (fun K hK => ?_) AllReadyH.nil)
          go_simp
          go_wp2_with ((go_at_call 12; refine (num_any _ _).mono ?_; rintro e w' ⟨rfl, rfl⟩))
          refine hK.out _ _ (by first | assumption | exact Fr.refl _ _) (fun hHeld5 => ?_)
          clear hK K hHeld
          have hHeld := hHeld5
          clear hHeld5
          try simp only [Act.put, List.getElem_toArray, List.getElem_cons_succ, List.getElem_cons_zero, List.setIfInBounds_toArray, List.set_cons_zero, List.set_cons_succ]
          refine wpAnyH_take (i := 19) (v := ?_) rfl (by kernel_rfl) (by kernel_rfl) (by kernel_rfl) (fun _ _ _ h => h) (Or.inl ⟨by rfl, ?_⟩) (by assumption) ?_
          rotate_left
          · (intro w hSw; (try dsimp only at hSw); go_simp; try (with_reducible rfl))
          try simp only [Act.put, List.getElem_toArray, List.getElem_cons_succ, List.getElem_cons_zero, List.setIfInBounds_toArray, List.set_cons_zero, List.set_cons_succ]
          refine wpAnyH_take (i := 20) (v := ?_) rfl (by kernel_rfl) (by kernel_rfl) (by kernel_rfl) (fun _ _ _ h => h) (Or.inl ⟨by rfl, ?_⟩) (by assumption) ?_
          rotate_left
          · (intro w hSw; (try dsimp only at hSw); go_simp; try (with_reducible rfl))
          try simp only [Act.put, List.getElem_toArray, List.getElem_cons_succ, List.getElem_cons_zero, List.setIfInBounds_toArray, List.set_cons_zero, List.set_cons_succ]
          refine wpAnyH_take (i := 21) (v := ?_) rfl (by kernel_rfl) (by kernel_rfl) (by kernel_rfl) (fun _ _ _ h => h) (Or.inl ⟨by rfl, ?_⟩) (by assumption) ?_
          rotate_left
          · (intro w hSw; (try dsimp only at hSw); go_simp; try (with_reducible rfl))
          try simp only [Act.put, List.getElem_toArray, List.getElem_cons_succ, List.getElem_cons_zero, List.setIfInBounds_toArray, List.set_cons_zero, List.set_cons_succ]
          refine wpAnyH_ready (rs := [22]) (by kernel_rfl) (by simp) (AllReadyH.cons rfl (fun K hK => ?_) AllReadyH.nil)
          go_simp
          go_wp2_with ((go_at_call 10; refine (HAW.out _ hf10).mono ?_; rintro e w11 ⟨rfl, hf11⟩))
          refine hK.out _ _ (by first | assumption | exact Fr.refl _ _) (fun hHeld5 => ?_)
          clear hK K hHeld
          have hHeld := hHeld5
          clear hHeld5
          try simp only [Act.put, List.getElem_toArray, List.getElem_cons_succ, List.getElem_cons_zero, List.setIfInBounds_toArray, List.set_cons_zero, List.set_cons_succ]
          refine wpAnyH_take (i := 23) (v := ?_) rfl (by kernel_rfl) (by kernel_rfl) (by kernel_rfl) (fun _ _ _ h => h) (Or.inl ⟨by rfl, ?_⟩) (by assumption) ?_
          rotate_left
          · (intro w hSw; (try dsimp only at hSw); go_simp; try (with_reducible rfl))
          try simp only [Act.put, List.getElem_toArray, List.getElem_cons_succ, List.getElem_cons_zero, List.setIfInBounds_toArray, List.set_cons_zero, List.set_cons_succ]
          refine wpAnyH_take (i := 24) (v := ?_) rfl (by kernel_rfl) (by kernel_rfl) (by kernel_rfl) (fun _ _ _ h => h) (Or.inl ⟨by rfl, ?_⟩) (by assumption) ?_
          rotate_left
          · (intro w hSw; (try dsimp only at hSw); go_simp; try (with_reducible rfl))
          try simp only [Act.put, List.getElem_toArray, List.getElem_cons_succ, List.getElem_cons_zero, List.setIfInBounds_toArray, List.set_cons_zero, List.set_cons_succ]
          refine wpAnyH_done (by kernel_rfl) ?_ _
          go_wp2_with fail
          go_ret
          exact ⟨rfl, H9.out.trans (hf11.bel |>.mono (Nat.le_refl _))⟩
end Go.Proofs.Ytcmfmjmjamfndaa
