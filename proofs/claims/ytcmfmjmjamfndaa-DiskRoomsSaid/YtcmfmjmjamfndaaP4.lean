import Derived.Test.YtcmfmjmjamfndaaP44
namespace Go.Proofs.Ytcmfmjmjamfndaa
open Go.RowKit Go.Mx Go.Dk
set_option linter.unusedSimpArgs false
set_option linter.unusedVariables false
set_option maxRecDepth 100000 in
set_option maxHeartbeats 4000000 in
theorem rooms_any (r0 f0 a0 : Int) (w : World) (hr0 : 0 ≤ r0 ∧ r0 ≤ 255) (hf0 : 0 ≤ f0 ∧ f0 ≤ 255) (ha0 : 0 ≤ a0 ∧ a0 ≤ 255) :
    Calls Try.prog 4 #[.int .u8 r0, .int .u8 f0, .int .u8 a0] w fun e w' => e = .returned (.bool true) ∧ Below w.heap.size w w' := by
  obtain ⟨r, rfl⟩ := Int.eq_ofNat_of_zero_le hr0.1
  obtain ⟨f, rfl⟩ := Int.eq_ofNat_of_zero_le hf0.1
  obtain ⟨q, rfl⟩ := Int.eq_ofNat_of_zero_le ha0.1
  have hr1 : IntKind.i64.wrap (r : Int) = (r : Int) := IntWalk.i64_in _ (by omega)
  have hf1 : IntKind.i64.wrap (f : Int) = (f : Int) := IntWalk.i64_in _ (by omega)
  have hq1 : IntKind.i64.wrap (q : Int) = (q : Int) := IntWalk.i64_in _ (by omega)
  obtain ⟨m, hm, hmq⟩ : ∃ k : Nat, k < 60 ∧ ((r : Nat) : Int).tmod 60 = (k : Int) := ⟨r % 60, Nat.mod_lt _ (by omega), by rw [Int.tmod_eq_emod_of_nonneg (by omega)]; rfl⟩
  obtain ⟨N, hN⟩ : ∃ N : Nat, N = m + 1 := ⟨_, rfl⟩
  have hN1 : IntKind.i64.wrap (1 + (m : Int)) = (N : Int) := by rw [IntWalk.i64_in _ (by omega)]; omega
  obtain ⟨M, hM⟩ : ∃ M : Nat, M = N + 1 := ⟨_, rfl⟩
  have hM1 : IntKind.i64.wrap ((N : Int) + 1) = (M : Int) := by rw [IntWalk.i64_in _ (by omega)]; omega
  have hM0 : ((M : Int) == 0) = false := by rw [beq_eq_false_iff_ne]; omega
  have hM2 : ¬ M = 0 := by omega
  obtain ⟨K, hK, hKq⟩ : ∃ k : Nat, k < M ∧ ((f : Nat) : Int).tmod (M : Int) = (k : Int) := ⟨f % M, Nat.mod_lt _ (by omega), by rw [Int.tmod_eq_emod_of_nonneg (by omega)]; rfl⟩
  obtain ⟨J, hJ⟩ : ∃ J : Nat, J + K = N := ⟨N - K, by omega⟩
  have hJ1 : IntKind.i64.wrap ((N : Int) - (K : Int)) = (J : Int) := by rw [IntWalk.i64_in _ (by omega)]; omega
  obtain ⟨J', hJ'⟩ : ∃ J' : Nat, J' = J + 1 := ⟨_, rfl⟩
  have hJ2 : IntKind.i64.wrap ((J : Int) + 1) = (J' : Int) := by rw [IntWalk.i64_in _ (by omega)]; omega
  have hK16 : IntKind.i64.wrap (16 * (K : Int)) = 16 * (K : Int) := IntWalk.i64_in _ (by omega)
  have hJ16 : IntKind.i64.wrap (16 * (J : Int)) = 16 * (J : Int) := IntWalk.i64_in _ (by omega)
  have hJ'16 : IntKind.i64.wrap (16 * (J' : Int)) = 16 * (J' : Int) := IntWalk.i64_in _ (by omega)
  have hm1 : IntKind.i64.wrap ((N : Int) - 1) = (m : Int) := by rw [IntWalk.i64_in _ (by omega)]; omega
  have hmkK := run_mk5 (16 * K) (by omega) (16 * (K : Int)) (by omega)
  have hmkJ := run_mk5 (16 * J) (by omega) (16 * (J : Int)) (by omega)
  have hmkJ' := run_mk5 (16 * J') (by omega) (16 * (J' : Int)) (by omega)
  have hmk1 := run_mk5 16 (by omega) 16 rfl
  have HA : Hid (N = m + 1 ∧ M = N + 1 ∧ K < M ∧ J + K = N ∧ J' = J + 1 ∧ m < 60) := hid ⟨hN, hM, hK, hJ, hJ', hm⟩
  clear hN hM hK hJ hJ' hm hr0 hf0 ha0
  go_enter Try.func4, Try.ntmps4
  go_wp2_with fail
  refine (new_any N w (by have := HA.out; omega)).mono ?_
  rintro e w1 ⟨rfl, hd, hb1⟩
  have H1 : Hid (HG w1 w.heap.size (w.heap.size + 1) N [] 0 ∧ Below w.heap.size w w1) := hid ⟨HG.empty hd, hb1⟩
  clear hd hb1
  go_wp2_with (go_at_call 12; refine (num_any _ _).mono ?_; rintro e w' ⟨rfl, rfl⟩)
  refine (show Calls Try.prog 13 #[dp (w.heap.size + 1), aN] w1 _ from create_G H1.out.1 [97] (by decide) (by decide) (by simp) (by simp)).mono ?_
  rintro e w2 ⟨rfl, hd2, hf2⟩
  have H2 := hid (And.intro hd2 (H1.out.2.trans hf2.bel))
  clear hd2 hf2
  go_wp2_with fail
  refine (show Calls Try.prog 13 #[dp (w.heap.size + 1), bN] w2 _ from create_G H2.out.1 [98] (by decide) (by decide) (by simp) (by simp)).mono ?_
  rintro e w3 ⟨rfl, hd3, hf3⟩
  have H3 : Hid (HG w3 w.heap.size (w.heap.size + 1) N [([97], 0), ([98], 0)] 0 ∧ Below w.heap.size w w3) := hid ⟨hd3, H2.out.2.trans hf3.bel⟩
  clear hd3 hf3
  -- the contracts of what is written
  have W1 : Hid (∀ w0, HG w0 w.heap.size (w.heap.size + 1) N [([97], 0), ([98], 0)] 0 → Calls Try.prog 14 #[dp (w.heap.size + 1), aN, .int .i64 0, .slice (some ⟨w0.heap.size, 0, none⟩) (16 * K) (16 * K)] (mk5 w0 (16 * K)) fun e w' => e = .returned (.int .i64 0) ∧ HG w' w.heap.size (w.heap.size + 1) N [([97], K), ([98], 0)] K ∧ Fr w.heap.size w0 w') :=
    hid fun w0 h => (write_ZA h (i := 0) rfl (by decide) 0 0 K rfl (by have := HA.out; omega) (.inl (Nat.le_refl _)) (by have := HA.out; simp; omega) (by simp) (by have := HA.out; omega) (by have := HA.out; omega) aN rfl _ rfl).mono fun e w' ⟨he, hg, hf⟩ => ⟨he, hg.cast (by simp) (by omega), hf⟩
  have W2 : Hid (∀ w0, HG w0 w.heap.size (w.heap.size + 1) N [([97], K), ([98], 0)] K → Calls Try.prog 14 #[dp (w.heap.size + 1), bN, .int .i64 0, .slice (some ⟨w0.heap.size, 0, none⟩) (16 * J') (16 * J')] (mk5 w0 (16 * J')) fun e w' => e = .returned (.int .i64 7) ∧ HG w' w.heap.size (w.heap.size + 1) N [([97], K), ([98], 0)] K ∧ Fr w.heap.size w0 w') :=
    hid fun w0 h => write_7A h (i := 1) rfl (by decide) 0 0 J' rfl (by have := HA.out; omega) (by have := HA.out; omega) (by have := HA.out; simp; omega) (by have := HA.out; simp; omega) (by have := HA.out; omega) (by have := HA.out; omega) bN rfl _ rfl
  have W3 : Hid (∀ w0, HG w0 w.heap.size (w.heap.size + 1) N [([97], K), ([98], 0)] K → Calls Try.prog 14 #[dp (w.heap.size + 1), bN, .int .i64 0, .slice (some ⟨w0.heap.size, 0, none⟩) (16 * J) (16 * J)] (mk5 w0 (16 * J)) fun e w' => e = .returned (.int .i64 0) ∧ HG w' w.heap.size (w.heap.size + 1) N [([97], K), ([98], J)] (K + J) ∧ Fr w.heap.size w0 w') :=
    hid fun w0 h => (write_ZA h (i := 1) rfl (by decide) 0 0 J rfl (by have := HA.out; omega) (.inl (Nat.le_refl _)) (by have := HA.out; simp; omega) (by have := HA.out; simp; omega) (by have := HA.out; omega) (by have := HA.out; omega) bN rfl _ rfl).mono fun e w' ⟨he, hg, hf⟩ => ⟨he, hg.cast (by simp) rfl, hf⟩
  have W4 : Hid (∀ w0, HG w0 w.heap.size (w.heap.size + 1) N [([97], K), ([98], J)] (K + J) → Calls Try.prog 14 #[dp (w.heap.size + 1), bN, .int .i64 J, .slice (some ⟨w0.heap.size, 0, none⟩) 16 16] (mk5 w0 16) fun e w' => e = .returned (.int .i64 7) ∧ HG w' w.heap.size (w.heap.size + 1) N [([97], K), ([98], J)] (K + J) ∧ Fr w.heap.size w0 w') :=
    hid fun w0 h => write_7A h (i := 1) rfl (by decide) J J 1 rfl (by have := HA.out; omega) (by omega) (by have := HA.out; simp; omega) (by have := HA.out; simp; omega) (by have := HA.out; omega) (by have := HA.out; omega) bN rfl _ rfl
  have U4 : Hid (∀ w0, HG w0 w.heap.size (w.heap.size + 1) N [([97], K), ([98], 0)] K → Calls Try.prog 20 #[dp (w.heap.size + 1)] w0 fun e w' => e = .returned (.int .i64 K) ∧ HG w' w.heap.size (w.heap.size + 1) N [([97], K), ([98], 0)] K ∧ Fr w.heap.size w0 w') :=
    hid fun w0 h => (used_G h (by have := HA.out; simp; omega)).mono fun e w' ⟨he, hg, hb⟩ => ⟨by rw [he]; simp, hg, Fr.of_below hb h.base_le⟩
  have U5 : Hid (∀ w0, HG w0 w.heap.size (w.heap.size + 1) N [([97], K), ([98], J)] (K + J) → Calls Try.prog 20 #[dp (w.heap.size + 1)] w0 fun e w' => e = .returned (.int .i64 N) ∧ HG w' w.heap.size (w.heap.size + 1) N [([97], K), ([98], J)] (K + J) ∧ Fr w.heap.size w0 w') :=
    hid fun w0 h => (used_G h (by have := HA.out; simp; omega)).mono fun e w' ⟨he, hg, hb⟩ => ⟨by rw [he]; have := HA.out; simp; omega, hg, Fr.of_below hb h.base_le⟩
  go_wp2_with (first
    | (go_at_call 12; refine (num_any _ _).mono ?_; rintro e w' ⟨rfl, rfl⟩)
    | (go_at_call 14; refine (W4.out _ hg8).mono ?_; rintro e w9 ⟨rfl, hg9, hf9⟩)
    | (go_at_call 20; refine (U5.out _ hg7).mono ?_; rintro e w8 ⟨rfl, hg8, hf8⟩)
    | (go_at_call 14; refine (W3.out _ hg6).mono ?_; rintro e w7 ⟨rfl, hg7, hf7⟩)
    | (go_at_call 20; refine (U4.out _ hg5).mono ?_; rintro e w6 ⟨rfl, hg6, hf6⟩)
    | (go_at_call 14; refine (W2.out _ hg4).mono ?_; rintro e w5 ⟨rfl, hg5, hf5⟩)
    | (go_at_call 14; refine (W1.out _ H3.out.1).mono ?_; rintro e w4 ⟨rfl, hg4, hf4⟩))
  have H9 := hid (And.intro hg9 ((((((H3.out.2.trans hf4.bel).trans hf5.bel).trans hf6.bel).trans hf7.bel).trans hf8.bel).trans hf9.bel))
  clear hg4 hg5 hg6 hg7 hg8 hg9 hf4 hf5 hf6 hf7 hf8 hf9 W1 W2 W3 W4 U4 U5 hmkK hmkJ hmkJ'
  have hdr : Below w9.heap.size w9 w9.drew := (Below.refl _ _).drew
  have hsz9 : w.heap.size ≤ w9.heap.size := H9.out.2.size
  have hfd : Fr w.heap.size w9 w9.drew := Fr.of_below hdr hsz9
  have hfm : Fr w.heap.size w9 (mk5 w9.drew 16) := hfd.trans (Fr.of_below (mk5_own w9.drew 16 (by omega)).2 hsz9)
  by_cases hJ0 : 0 < J
  · obtain ⟨Q, hQ, hQq⟩ : ∃ k : Nat, k < J ∧ ((q : Nat) : Int).tmod (J : Int) = (k : Int) := ⟨q % J, Nat.mod_lt _ (by omega), by rw [Int.tmod_eq_emod_of_nonneg (by omega)]; rfl⟩
    have tK : decide ((K : Int) < (N : Int)) = true := by have := HA.out; simp; omega
    have tK' : K < N := by have := HA.out; omega
    have hJn : ((J : Int) == 0) = false := by rw [beq_eq_false_iff_ne]; omega
    have hJm : ¬ J = 0 := by omega
    have hJz : ¬ (J : Int) = 0 := by omega
    have HWR : Hid (Calls Try.prog 14 #[dp (w.heap.size + 1), bN, .int .i64 Q, .slice (some ⟨w9.drew.heap.size, 0, none⟩) 16 16] (mk5 w9.drew 16) fun e w' => e = .returned (.int .i64 0) ∧ HG w' w.heap.size (w.heap.size + 1) N [([97], K), ([98], J)] (K + J + 1) ∧ Fr w.heap.size w9 w') :=
      hid ((write_ZA (H9.out.1.below hdr) (i := 1) rfl (by decide) Q Q 1 rfl (by have := HA.out; omega) (.inr (Nat.le_refl _)) (by omega) (by have := HA.out; simp; omega) (by have := HA.out; omega) (by have := HA.out; omega) bN rfl _ rfl).mono fun e w' ⟨he, hg, hf⟩ => ⟨he, hg.cast (by simp; omega) rfl, hfd.trans hf⟩)
    clear hQ hJ0 hdr
    go_wp2_with fail
    refine wp_region_held_drew (S := fun w' => Fr w.heap.size w9 w') (by kernel_rfl) (by exact hfd) (fun hHeld => ?_)
    refine wpAnyH_take (i := 0) (v := ?_) rfl (by kernel_rfl) (by kernel_rfl) (by kernel_rfl) (fun _ _ _ h => h) (Or.inl ⟨by rfl, ?_⟩) (by assumption) ?_
    rotate_left
    · (intro w hSw; (try dsimp only at hSw); go_simp; try (with_reducible rfl))
    try simp only [Act.put, List.getElem_toArray, List.getElem_cons_succ, List.getElem_cons_zero, List.setIfInBounds_toArray, List.set_cons_zero, List.set_cons_succ]
    refine wpAnyH_take (i := 1) (v := ?_) rfl (by kernel_rfl) (by kernel_rfl) (by kernel_rfl) (fun _ _ _ h => h) (Or.inl ⟨by rfl, ?_⟩) (by assumption) ?_
    rotate_left
    · (intro w hSw; (try dsimp only at hSw); go_simp; try (with_reducible rfl))
    try simp only [Act.put, List.getElem_toArray, List.getElem_cons_succ, List.getElem_cons_zero, List.setIfInBounds_toArray, List.set_cons_zero, List.set_cons_succ]
    refine wpAnyH_take (i := 2) (v := ?_) rfl (by kernel_rfl) (by kernel_rfl) (by kernel_rfl) (fun _ _ _ h => h) (Or.inl ⟨by rfl, ?_⟩) (by assumption) ?_
    rotate_left
    · (intro w hSw; (try dsimp only at hSw); go_simp; try (with_reducible rfl))
    try simp only [Act.put, List.getElem_toArray, List.getElem_cons_succ, List.getElem_cons_zero, List.setIfInBounds_toArray, List.set_cons_zero, List.set_cons_succ]
    refine wpAnyH_take (i := 3) (v := ?_) rfl (by kernel_rfl) (by kernel_rfl) (by kernel_rfl) (fun _ _ _ h => h) (Or.inl ⟨by rfl, ?_⟩) (by assumption) ?_
    rotate_left
    · (intro w hSw; (try dsimp only at hSw); go_simp; try (with_reducible rfl))
    try simp only [Act.put, List.getElem_toArray, List.getElem_cons_succ, List.getElem_cons_zero, List.setIfInBounds_toArray, List.set_cons_zero, List.set_cons_succ]
    refine wpAnyH_take (i := 4) (v := ?_) rfl (by kernel_rfl) (by kernel_rfl) (by kernel_rfl) (fun _ _ _ h => h) (Or.inl ⟨by rfl, ?_⟩) (by assumption) ?_
    rotate_left
    · (intro w hSw; (try dsimp only at hSw); go_simp; try (with_reducible rfl))
    try simp only [Act.put, List.getElem_toArray, List.getElem_cons_succ, List.getElem_cons_zero, List.setIfInBounds_toArray, List.set_cons_zero, List.set_cons_succ]
    refine wpAnyH_take (i := 5) (v := ?_) rfl (by kernel_rfl) (by kernel_rfl) (by kernel_rfl) (fun _ _ _ h => h) (Or.inl ⟨by rfl, ?_⟩) (by assumption) ?_
    rotate_left
    · (intro w hSw; (try dsimp only at hSw); go_simp; try (with_reducible rfl))
    try simp only [Act.put, List.getElem_toArray, List.getElem_cons_succ, List.getElem_cons_zero, List.setIfInBounds_toArray, List.set_cons_zero, List.set_cons_succ]
    refine wpAnyH_take (i := 6) (v := ?_) rfl (by kernel_rfl) (by kernel_rfl) (by kernel_rfl) (fun _ _ _ h => h) (Or.inl ⟨by rfl, ?_⟩) (by assumption) ?_
    rotate_left
    · (intro w hSw; (try dsimp only at hSw); go_simp; try (with_reducible rfl))
    try simp only [Act.put, List.getElem_toArray, List.getElem_cons_succ, List.getElem_cons_zero, List.setIfInBounds_toArray, List.set_cons_zero, List.set_cons_succ]
    refine wpAnyH_take (i := 7) (v := ?_) rfl (by kernel_rfl) (by kernel_rfl) (by kernel_rfl) (fun _ _ _ h => h) (Or.inl ⟨by rfl, ?_⟩) (by assumption) ?_
    rotate_left
    · (intro w hSw; (try dsimp only at hSw); go_simp; try (with_reducible rfl))
    try simp only [Act.put, List.getElem_toArray, List.getElem_cons_succ, List.getElem_cons_zero, List.setIfInBounds_toArray, List.set_cons_zero, List.set_cons_succ]
    refine wpAnyH_take (i := 8) (v := ?_) rfl (by kernel_rfl) (by kernel_rfl) (by kernel_rfl) (fun _ _ _ h => h) (Or.inl ⟨by rfl, ?_⟩) (by assumption) ?_
    rotate_left
    · (intro w hSw; (try dsimp only at hSw); go_simp; try (with_reducible rfl))
    try simp only [Act.put, List.getElem_toArray, List.getElem_cons_succ, List.getElem_cons_zero, List.setIfInBounds_toArray, List.set_cons_zero, List.set_cons_succ]
    refine wpAnyH_take (i := 9) (v := ?_) rfl (by kernel_rfl) (by kernel_rfl) (by kernel_rfl) (fun _ _ _ h => h) (Or.inl ⟨by rfl, ?_⟩) (by assumption) ?_
    rotate_left
    · (intro w hSw; (try dsimp only at hSw); go_simp; try (with_reducible rfl))
    try simp only [Act.put, List.getElem_toArray, List.getElem_cons_succ, List.getElem_cons_zero, List.setIfInBounds_toArray, List.set_cons_zero, List.set_cons_succ]
    refine wpAnyH_take (i := 10) (v := ?_) rfl (by kernel_rfl) (by kernel_rfl) (by kernel_rfl) (fun _ _ _ h => h) (Or.inl ⟨by rfl, ?_⟩) (by assumption) ?_
    rotate_left
    · (intro w hSw; (try dsimp only at hSw); go_simp; try (with_reducible rfl))
    try simp only [Act.put, List.getElem_toArray, List.getElem_cons_succ, List.getElem_cons_zero, List.setIfInBounds_toArray, List.set_cons_zero, List.set_cons_succ]
    refine wpAnyH_ready (rs := [11]) (by kernel_rfl) (by simp) (AllReadyH.cons rfl (fun K hK => ?_) AllReadyH.nil)
    go_simp
    refine hK.out _ _ (by exact hfm) (fun hHeld5 => ?_)
    clear hK K hHeld
    have hHeld := hHeld5
    clear hHeld5
    try simp only [Act.put, List.getElem_toArray, List.getElem_cons_succ, List.getElem_cons_zero, List.setIfInBounds_toArray, List.set_cons_zero, List.set_cons_succ]
    refine wpAnyH_ready (rs := [12]) (by kernel_rfl) (by simp) (AllReadyH.cons rfl (fun K hK => ?_) AllReadyH.nil)
    go_simp
    go_wp2_with ((go_at_call 14; refine HWR.out.mono ?_; rintro e w10 ⟨rfl, hg10, hf10⟩))
    refine hK.out _ _ (by first | assumption | exact Fr.refl _ _) (fun hHeld5 => ?_)
    clear hK K hHeld
    have hHeld := hHeld5
    clear hHeld5
    try simp only [Act.put, List.getElem_toArray, List.getElem_cons_succ, List.getElem_cons_zero, List.setIfInBounds_toArray, List.set_cons_zero, List.set_cons_succ]
    refine wpAnyH_ready (rs := [13]) (by kernel_rfl) (by simp) (AllReadyH.cons rfl (fun K hK => ?_) AllReadyH.nil)
    go_simp
    go_wp2_with ((go_at_call 12; refine (num_any _ _).mono ?_; rintro e w' ⟨rfl, rfl⟩))
    refine hK.out _ _ (by first | assumption | exact Fr.refl _ _) (fun hHeld5 => ?_)
    clear hK K hHeld
    have hHeld := hHeld5
    clear hHeld5
    try simp only [Act.put, List.getElem_toArray, List.getElem_cons_succ, List.getElem_cons_zero, List.setIfInBounds_toArray, List.set_cons_zero, List.set_cons_succ]
    refine wpAnyH_take (i := 14) (v := ?_) rfl (by kernel_rfl) (by kernel_rfl) (by kernel_rfl) (fun _ _ _ h => h) (Or.inl ⟨by rfl, ?_⟩) (by assumption) ?_
    rotate_left
    · (intro w hSw; (try dsimp only at hSw); go_simp; try (with_reducible rfl))
    try simp only [Act.put, List.getElem_toArray, List.getElem_cons_succ, List.getElem_cons_zero, List.setIfInBounds_toArray, List.set_cons_zero, List.set_cons_succ]
    refine wpAnyH_take (i := 15) (v := ?_) rfl (by kernel_rfl) (by kernel_rfl) (by kernel_rfl) (fun _ _ _ h => h) (Or.inl ⟨by rfl, ?_⟩) (by assumption) ?_
    rotate_left
    · (intro w hSw; (try dsimp only at hSw); go_simp; try (with_reducible rfl))
    try simp only [Act.put, List.getElem_toArray, List.getElem_cons_succ, List.getElem_cons_zero, List.setIfInBounds_toArray, List.set_cons_zero, List.set_cons_succ]
    refine wpAnyH_done (by kernel_rfl) ?_ _
    have HZ := hid (And.intro hg10 (H9.out.2.trans hf10.bel))
    clear hg10 hf10 HWR hfd hfm
    go_wp2_with fail
    refine (show Calls Try.prog 21 #[dp (w.heap.size + 1), aN] _ _ from remove_G HZ.out.1 (nm := [97]) rfl (by decide)).mono ?_
    rintro e w11 ⟨rfl, hg11, hf11⟩
    have H11 := hid (And.intro hg11 (HZ.out.2.trans hf11.bel))
    clear hg11 hf11
    have W6 : Hid (∀ w0, HG w0 w.heap.size (w.heap.size + 1) N [([98], J)] (K + J + 1) → Calls Try.prog 14 #[dp (w.heap.size + 1), bN, .int .i64 m, .slice (some ⟨w0.heap.size, 0, none⟩) 16 16] (mk5 w0 16) fun e w' => e = .returned (.int .i64 0) ∧ HG w' w.heap.size (w.heap.size + 1) N [([98], N)] (K + J + 1 + 1) ∧ Fr w.heap.size w0 w') :=
      hid fun w0 h => (write_ZA h (i := 0) rfl (by decide) m m 1 rfl (by have := HA.out; omega) (.inr (Nat.le_refl _)) (by have := HA.out; simp; omega) (by have := HA.out; simp; omega) (by have := HA.out; omega) (by have := HA.out; omega) bN rfl _ rfl).mono fun e w' ⟨he, hg, hf⟩ => ⟨he, hg.cast (by have := HA.out; simp; omega) rfl, hf⟩
    have U7 : Hid (∀ w0, HG w0 w.heap.size (w.heap.size + 1) N [([98], N)] (K + J + 1 + 1) → Calls Try.prog 20 #[dp (w.heap.size + 1)] w0 fun e w' => e = .returned (.int .i64 N) ∧ Fr w.heap.size w0 w') :=
      hid fun w0 h => (used_G h (by have := HA.out; simp; omega)).mono fun e w' ⟨he, hg, hb⟩ => ⟨by rw [he]; simp, Fr.of_below hb h.base_le⟩
    go_wp2_with (first
      | (go_at_call 12; refine (num_any _ _).mono ?_; rintro e w' ⟨rfl, rfl⟩)
      | (go_at_call 10; refine (awake_any w13).mono ?_; rintro e w14 ⟨rfl, hb14⟩)
      | (go_at_call 20; refine (U7.out _ hg12).mono ?_; rintro e w13 ⟨rfl, hf13⟩)
      | (go_at_call 14; refine (W6.out _ H11.out.1).mono ?_; rintro e w12 ⟨rfl, hg12, hf12⟩))
    go_ret
    have hb13 := (H11.out.2.trans hf12.bel).trans hf13.bel
    exact ⟨rfl, hb13.trans (hb14.mono hb13.size)⟩
  · have tK : decide ((K : Int) < (N : Int)) = false := by have := HA.out; simp; omega
    have tK' : ¬ K < N := by have := HA.out; omega
    have HZ := hid (And.intro (H9.out.1.below hdr) (H9.out.2.trans hfd.bel))
    clear hdr
    go_wp2_with fail
    refine wp_region_held_drew (S := fun w' => Fr w.heap.size w9 w') (by kernel_rfl) (by exact hfd) (fun hHeld => ?_)
    refine wpAnyH_take (i := 0) (v := ?_) rfl (by kernel_rfl) (by kernel_rfl) (by kernel_rfl) (fun _ _ _ h => h) (Or.inl ⟨by rfl, ?_⟩) (by assumption) ?_
    rotate_left
    · (intro w hSw; (try dsimp only at hSw); go_simp; try (with_reducible rfl))
    try simp only [Act.put, List.getElem_toArray, List.getElem_cons_succ, List.getElem_cons_zero, List.setIfInBounds_toArray, List.set_cons_zero, List.set_cons_succ]
    refine wpAnyH_take (i := 1) (v := ?_) rfl (by kernel_rfl) (by kernel_rfl) (by kernel_rfl) (fun _ _ _ h => h) (Or.inl ⟨by rfl, ?_⟩) (by assumption) ?_
    rotate_left
    · (intro w hSw; (try dsimp only at hSw); go_simp; try (with_reducible rfl))
    try simp only [Act.put, List.getElem_toArray, List.getElem_cons_succ, List.getElem_cons_zero, List.setIfInBounds_toArray, List.set_cons_zero, List.set_cons_succ]
    refine wpAnyH_take (i := 2) (v := ?_) rfl (by kernel_rfl) (by kernel_rfl) (by kernel_rfl) (fun _ _ _ h => h) (Or.inl ⟨by rfl, ?_⟩) (by assumption) ?_
    rotate_left
    · (intro w hSw; (try dsimp only at hSw); go_simp; try (with_reducible rfl))
    try simp only [Act.put, List.getElem_toArray, List.getElem_cons_succ, List.getElem_cons_zero, List.setIfInBounds_toArray, List.set_cons_zero, List.set_cons_succ]
    refine wpAnyH_take (i := 3) (v := ?_) rfl (by kernel_rfl) (by kernel_rfl) (by kernel_rfl) (fun _ _ _ h => h) (Or.inl ⟨by rfl, ?_⟩) (by assumption) ?_
    rotate_left
    · (intro w hSw; (try dsimp only at hSw); go_simp; try (with_reducible rfl))
    try simp only [Act.put, List.getElem_toArray, List.getElem_cons_succ, List.getElem_cons_zero, List.setIfInBounds_toArray, List.set_cons_zero, List.set_cons_succ]
    refine wpAnyH_take (i := 4) (v := undef) rfl (by kernel_rfl) (by kernel_rfl) (by kernel_rfl) (fun _ _ _ h => h) (Or.inr ⟨by rfl, rfl⟩) (by assumption) ?_
    try simp only [Act.put, List.getElem_toArray, List.getElem_cons_succ, List.getElem_cons_zero, List.setIfInBounds_toArray, List.set_cons_zero, List.set_cons_succ]
    refine wpAnyH_take (i := 5) (v := undef) rfl (by kernel_rfl) (by kernel_rfl) (by kernel_rfl) (fun _ _ _ h => h) (Or.inr ⟨by rfl, rfl⟩) (by assumption) ?_
    try simp only [Act.put, List.getElem_toArray, List.getElem_cons_succ, List.getElem_cons_zero, List.setIfInBounds_toArray, List.set_cons_zero, List.set_cons_succ]
    refine wpAnyH_take (i := 6) (v := undef) rfl (by kernel_rfl) (by kernel_rfl) (by kernel_rfl) (fun _ _ _ h => h) (Or.inr ⟨by rfl, rfl⟩) (by assumption) ?_
    try simp only [Act.put, List.getElem_toArray, List.getElem_cons_succ, List.getElem_cons_zero, List.setIfInBounds_toArray, List.set_cons_zero, List.set_cons_succ]
    refine wpAnyH_take (i := 7) (v := undef) rfl (by kernel_rfl) (by kernel_rfl) (by kernel_rfl) (fun _ _ _ h => h) (Or.inr ⟨by rfl, rfl⟩) (by assumption) ?_
    try simp only [Act.put, List.getElem_toArray, List.getElem_cons_succ, List.getElem_cons_zero, List.setIfInBounds_toArray, List.set_cons_zero, List.set_cons_succ]
    refine wpAnyH_take (i := 8) (v := undef) rfl (by kernel_rfl) (by kernel_rfl) (by kernel_rfl) (fun _ _ _ h => h) (Or.inr ⟨by rfl, rfl⟩) (by assumption) ?_
    try simp only [Act.put, List.getElem_toArray, List.getElem_cons_succ, List.getElem_cons_zero, List.setIfInBounds_toArray, List.set_cons_zero, List.set_cons_succ]
    refine wpAnyH_take (i := 9) (v := undef) rfl (by kernel_rfl) (by kernel_rfl) (by kernel_rfl) (fun _ _ _ h => h) (Or.inr ⟨by rfl, rfl⟩) (by assumption) ?_
    try simp only [Act.put, List.getElem_toArray, List.getElem_cons_succ, List.getElem_cons_zero, List.setIfInBounds_toArray, List.set_cons_zero, List.set_cons_succ]
    refine wpAnyH_take (i := 10) (v := undef) rfl (by kernel_rfl) (by kernel_rfl) (by kernel_rfl) (fun _ _ _ h => h) (Or.inr ⟨by rfl, rfl⟩) (by assumption) ?_
    try simp only [Act.put, List.getElem_toArray, List.getElem_cons_succ, List.getElem_cons_zero, List.setIfInBounds_toArray, List.set_cons_zero, List.set_cons_succ]
    refine wpAnyH_take (i := 11) (v := undef) rfl (by kernel_rfl) (by kernel_rfl) (by kernel_rfl) (fun _ _ _ h => h) (Or.inr ⟨by rfl, rfl⟩) (by assumption) ?_
    try simp only [Act.put, List.getElem_toArray, List.getElem_cons_succ, List.getElem_cons_zero, List.setIfInBounds_toArray, List.set_cons_zero, List.set_cons_succ]
    refine wpAnyH_take (i := 12) (v := undef) rfl (by kernel_rfl) (by kernel_rfl) (by kernel_rfl) (fun _ _ _ h => h) (Or.inr ⟨by rfl, rfl⟩) (by assumption) ?_
    try simp only [Act.put, List.getElem_toArray, List.getElem_cons_succ, List.getElem_cons_zero, List.setIfInBounds_toArray, List.set_cons_zero, List.set_cons_succ]
    refine wpAnyH_take (i := 13) (v := undef) rfl (by kernel_rfl) (by kernel_rfl) (by kernel_rfl) (fun _ _ _ h => h) (Or.inr ⟨by rfl, rfl⟩) (by assumption) ?_
    try simp only [Act.put, List.getElem_toArray, List.getElem_cons_succ, List.getElem_cons_zero, List.setIfInBounds_toArray, List.set_cons_zero, List.set_cons_succ]
    refine wpAnyH_take (i := 14) (v := undef) rfl (by kernel_rfl) (by kernel_rfl) (by kernel_rfl) (fun _ _ _ h => h) (Or.inr ⟨by rfl, rfl⟩) (by assumption) ?_
    try simp only [Act.put, List.getElem_toArray, List.getElem_cons_succ, List.getElem_cons_zero, List.setIfInBounds_toArray, List.set_cons_zero, List.set_cons_succ]
    refine wpAnyH_take (i := 15) (v := ?_) rfl (by kernel_rfl) (by kernel_rfl) (by kernel_rfl) (fun _ _ _ h => h) (Or.inl ⟨by rfl, ?_⟩) (by assumption) ?_
    rotate_left
    · (intro w hSw; (try dsimp only at hSw); go_simp; try (with_reducible rfl))
    try simp only [Act.put, List.getElem_toArray, List.getElem_cons_succ, List.getElem_cons_zero, List.setIfInBounds_toArray, List.set_cons_zero, List.set_cons_succ]
    refine wpAnyH_done (by kernel_rfl) ?_ _
    clear hfd hfm
    go_wp2_with fail
    refine (show Calls Try.prog 21 #[dp (w.heap.size + 1), aN] _ _ from remove_G HZ.out.1 (nm := [97]) rfl (by decide)).mono ?_
    rintro e w11 ⟨rfl, hg11, hf11⟩
    have H11 := hid (And.intro hg11 (HZ.out.2.trans hf11.bel))
    clear hg11 hf11
    have W6 : Hid (∀ w0, HG w0 w.heap.size (w.heap.size + 1) N [([98], J)] (K + J) → Calls Try.prog 14 #[dp (w.heap.size + 1), bN, .int .i64 m, .slice (some ⟨w0.heap.size, 0, none⟩) 16 16] (mk5 w0 16) fun e w' => e = .returned (.int .i64 0) ∧ HG w' w.heap.size (w.heap.size + 1) N [([98], N)] (K + J + 1) ∧ Fr w.heap.size w0 w') :=
      hid fun w0 h => (write_ZA h (i := 0) rfl (by decide) m m 1 rfl (by have := HA.out; omega) (.inr (Nat.le_refl _)) (by have := HA.out; simp; omega) (by have := HA.out; simp; omega) (by have := HA.out; omega) (by have := HA.out; omega) bN rfl _ rfl).mono fun e w' ⟨he, hg, hf⟩ => ⟨he, hg.cast (by have := HA.out; simp; omega) rfl, hf⟩
    have U7 : Hid (∀ w0, HG w0 w.heap.size (w.heap.size + 1) N [([98], N)] (K + J + 1) → Calls Try.prog 20 #[dp (w.heap.size + 1)] w0 fun e w' => e = .returned (.int .i64 N) ∧ Fr w.heap.size w0 w') :=
      hid fun w0 h => (used_G h (by have := HA.out; simp; omega)).mono fun e w' ⟨he, hg, hb⟩ => ⟨by rw [he]; simp, Fr.of_below hb h.base_le⟩
    go_wp2_with (first
      | (go_at_call 12; refine (num_any _ _).mono ?_; rintro e w' ⟨rfl, rfl⟩)
      | (go_at_call 10; refine (awake_any w13).mono ?_; rintro e w14 ⟨rfl, hb14⟩)
      | (go_at_call 20; refine (U7.out _ hg12).mono ?_; rintro e w13 ⟨rfl, hf13⟩)
      | (go_at_call 14; refine (W6.out _ H11.out.1).mono ?_; rintro e w12 ⟨rfl, hg12, hf12⟩))
    go_ret
    have hb13 := (H11.out.2.trans hf12.bel).trans hf13.bel
    exact ⟨rfl, hb13.trans (hb14.mono hb13.size)⟩
end Go.Proofs.Ytcmfmjmjamfndaa
