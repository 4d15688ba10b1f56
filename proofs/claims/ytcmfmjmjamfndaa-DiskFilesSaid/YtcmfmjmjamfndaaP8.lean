import Derived.Test.YtcmfmjmjamfndaaP84
namespace Go.Proofs.Ytcmfmjmjamfndaa
open Go.RowKit Go.Mx Go.Dk Go.Sort
set_option linter.unusedSimpArgs false
set_option linter.unusedVariables false
set_option maxRecDepth 100000 in
set_option maxHeartbeats 4000000 in
theorem files_any (n0 : Int) (turn : Bool) (w : World) (hn0 : 0 ≤ n0 ∧ n0 ≤ 255) :
    Calls Try.prog 8 #[.int .u8 n0, .bool turn] w fun e w' => e = .returned (.bool true) ∧ Below w.heap.size w w' := by
  obtain ⟨n, rfl⟩ := Int.eq_ofNat_of_zero_le hn0.1
  have hr1 : IntKind.i64.wrap (n : Int) = (n : Int) := IntWalk.i64_in _ (by omega)
  obtain ⟨K1, hK1, hKq⟩ : ∃ k : Nat, k < 40 ∧ ((n : Nat) : Int).tmod 40 = (k : Int) := ⟨n % 40, Nat.mod_lt _ (by omega), by rw [Int.tmod_eq_emod_of_nonneg (by omega)]; rfl⟩
  obtain ⟨K, hK⟩ : ∃ K : Nat, K = K1 + 1 := ⟨_, rfl⟩
  have hN1 : IntKind.i64.wrap (1 + (K1 : Int)) = (K : Int) := by rw [IntWalk.i64_in _ (by omega)]; omega
  have hN2 : IntKind.i64.wrap ((K : Int) - 1) = (K1 : Int) := by rw [IntWalk.i64_in _ (by omega)]; omega
  have HK : Hid (K ≤ 40 ∧ K = K1 + 1) := hid ⟨by omega, hK⟩
  clear hK hK1 hn0
  go_enter Try.func8, Try.ntmps8
  go_wp2_with fail
  refine (new_any 1000 w (by decide)).mono ?_
  rintro e w1 ⟨rfl, hd, hb1⟩
  have H1 : Hid (HG w1 w.heap.size (w.heap.size + 1) 1000 [] 0 ∧ Below w.heap.size w w1) := hid ⟨HG.empty hd, hb1⟩
  clear hd hb1
  go_wp2_with (go_at_call 12; refine (num_any _ _).mono ?_; rintro e w' ⟨rfl, rfl⟩)
  go_loopw [8] (fun s8 wr => ∃ i : Nat, s8 = .int .i64 i ∧ i ≤ K ∧ HG wr w.heap.size (w.heap.size + 1) 1000 (flI turn K i) 0 ∧ Below w.heap.size w wr) (fun s8 _ => K - (intOf s8).toNat)
  case atStart => exact ⟨0, rfl, by omega, H1.out.1, H1.out.2⟩
  case round =>
    obtain ⟨i, rfl, hi, hg, hbl⟩ := hrel
    by_cases hlt : i < K
    · cases turn
      · have hJi : i < 40 := by have := HK.out.1; omega
        have hJ : i = jt false K i := rfl
        obtain ⟨a, ha⟩ : ∃ a : Nat, a = i / 10 := ⟨_, rfl⟩
        obtain ⟨b, hb⟩ : ∃ b : Nat, b = i % 10 := ⟨_, rfl⟩
        have ha1 : (i : Int).tdiv 10 = (a : Int) := by rw [Int.tdiv_eq_ediv_of_nonneg (by omega)]; omega
        have ha2 : (i : Int) / 10 = (a : Int) := by omega
        have hb1 : (i : Int).tmod 10 = (b : Int) := by rw [Int.tmod_eq_emod_of_nonneg (by omega)]; omega
        have hb2 : (i : Int) % 10 = (b : Int) := by omega
        have ha9 : a < 10 := by omega
        have hb9 : b < 10 := by omega
        have ha4 : IntKind.i64.wrap (a : Int) = (a : Int) := IntWalk.i64_in _ (by omega)
        have ha3 : IntKind.i64.wrap (48 + (a : Int)) = 48 + (a : Int) := IntWalk.i64_in _ (by omega)
        have hb3 : IntKind.i64.wrap (48 + (b : Int)) = 48 + (b : Int) := IntWalk.i64_in _ (by omega)
        obtain ⟨x, hx⟩ : ∃ x : UInt8, x = UInt8.ofNat (48 + a) := ⟨_, rfl⟩
        obtain ⟨y, hy⟩ : ∃ y : UInt8, y = UInt8.ofNat (48 + b) := ⟨_, rfl⟩
        have hx1 : IntKind.u8.wrap (48 + (a : Int)) = (x.toNat : Int) := by rw [hx]; simp [IntKind.wrap, IntKind.bits, IntKind.signed, UInt8.toNat_ofNat]
        have hy1 : IntKind.u8.wrap (48 + (b : Int)) = (y.toNat : Int) := by rw [hy]; simp [IntKind.wrap, IntKind.bits, IntKind.signed, UInt8.toNat_ofNat]
        have hnm : nmOf (jt false K i) = [102, x, y] := by rw [← hJ, hx, hy, ha, hb]; rfl
        have hcv := conv3 wr x y
        have hal : Below wr.heap.size wr (wr.alloc (.cells #[.int .u8 102, .int .u8 x.toNat, .int .u8 y.toNat] 5)) := (Below.refl _ _).alloc (Nat.le_refl _) _
        have hno := flI_not (turn := false) HK.out.1 hlt
        rw [hnm] at hno
        have hi40 : i < 40 := by have := HK.out.1; omega
        by_cases h32 : i < 32
        · have t1 : decide ((32 : Int) ≤ (i : Int)) = false := by simp; omega
          have t2 : decide ((i : Int) < 32) = true := by simp; omega
          have t3 : ¬ 32 ≤ i := by omega
          have HCR : Hid (Calls Try.prog 13 #[dp (w.heap.size + 1), nmv [102, x, y]] (wr.alloc (.cells #[.int .u8 102, .int .u8 x.toNat, .int .u8 y.toNat] 5)) fun e w' => e = .returned (.int .i64 0) ∧ HG w' w.heap.size (w.heap.size + 1) 1000 (flI false K (i + 1)) 0 ∧ Below w.heap.size w w') :=
            hid ((create_G (hg.below hal) [102, x, y] (by simp) (by simp) hno (by rw [flI_len]; omega)).mono fun e w' ⟨he, hg', hf⟩ => ⟨he, hg'.cast (by rw [flI_succ h32, hnm]) rfl, (hbl.trans (hal.mono hbl.size)).trans hf.bel⟩)
          clear hJ hJi ha hb hx hy hnm hal hno hg hbl
          go_wp2_with (first
            | (go_at_call 12; refine (num_any _ _).mono ?_; rintro e w' ⟨rfl, rfl⟩)
            | (go_at_call 13; refine HCR.out.mono ?_; rintro e w5 ⟨rfl, hg5, hb5⟩))
          go_roundw
          case rel => exact ⟨i + 1, by go_num, by omega, hg5, hb5⟩
          case measure => simp [intOf]; omega
        · have t1 : decide ((32 : Int) ≤ (i : Int)) = true := by simp; omega
          have t2 : decide ((i : Int) < 32) = false := by simp; omega
          have t3 : 32 ≤ i := by omega
          have HCR : Hid (Calls Try.prog 13 #[dp (w.heap.size + 1), nmv [102, x, y]] (wr.alloc (.cells #[.int .u8 102, .int .u8 x.toNat, .int .u8 y.toNat] 5)) fun e w' => e = .returned (.int .i64 9) ∧ HG w' w.heap.size (w.heap.size + 1) 1000 (flI false K (i + 1)) 0 ∧ Below w.heap.size w w') :=
            hid ((create_many (hg.below hal) [102, x, y] (by simp) (by simp) hno (by rw [flI_len]; omega)).mono fun e w' ⟨he, hw⟩ => ⟨he, by rw [← hw]; exact (hg.below hal).cast (flI_stay (by omega)).symm rfl, by rw [← hw]; exact hbl.trans (hal.mono hbl.size)⟩)
          clear hJ hJi ha hb hx hy hnm hal hno hg hbl
          go_wp2_with (first
            | (go_at_call 12; refine (num_any _ _).mono ?_; rintro e w' ⟨rfl, rfl⟩)
            | (go_at_call 13; refine HCR.out.mono ?_; rintro e w5 ⟨rfl, hg5, hb5⟩))
          go_roundw
          case rel => exact ⟨i + 1, by go_num, by omega, hg5, hb5⟩
          case measure => simp [intOf]; omega
      · obtain ⟨J, hJ, hJi⟩ : ∃ J : Nat, J = jt true K i ∧ J < 40 := ⟨_, rfl, by have := jt_lt (turn := true) hlt; have := HK.out.1; omega⟩
        have hj1 : IntKind.i64.wrap ((K1 : Int) - (i : Int)) = (J : Int) := by rw [IntWalk.i64_in _ (by have := HK.out; omega)]; have := HK.out; simp [jt] at hJ; omega
        obtain ⟨a, ha⟩ : ∃ a : Nat, a = J / 10 := ⟨_, rfl⟩
        obtain ⟨b, hb⟩ : ∃ b : Nat, b = J % 10 := ⟨_, rfl⟩
        have ha1 : (J : Int).tdiv 10 = (a : Int) := by rw [Int.tdiv_eq_ediv_of_nonneg (by omega)]; omega
        have ha2 : (J : Int) / 10 = (a : Int) := by omega
        have hb1 : (J : Int).tmod 10 = (b : Int) := by rw [Int.tmod_eq_emod_of_nonneg (by omega)]; omega
        have hb2 : (J : Int) % 10 = (b : Int) := by omega
        have ha9 : a < 10 := by omega
        have hb9 : b < 10 := by omega
        have ha4 : IntKind.i64.wrap (a : Int) = (a : Int) := IntWalk.i64_in _ (by omega)
        have ha3 : IntKind.i64.wrap (48 + (a : Int)) = 48 + (a : Int) := IntWalk.i64_in _ (by omega)
        have hb3 : IntKind.i64.wrap (48 + (b : Int)) = 48 + (b : Int) := IntWalk.i64_in _ (by omega)
        obtain ⟨x, hx⟩ : ∃ x : UInt8, x = UInt8.ofNat (48 + a) := ⟨_, rfl⟩
        obtain ⟨y, hy⟩ : ∃ y : UInt8, y = UInt8.ofNat (48 + b) := ⟨_, rfl⟩
        have hx1 : IntKind.u8.wrap (48 + (a : Int)) = (x.toNat : Int) := by rw [hx]; simp [IntKind.wrap, IntKind.bits, IntKind.signed, UInt8.toNat_ofNat]
        have hy1 : IntKind.u8.wrap (48 + (b : Int)) = (y.toNat : Int) := by rw [hy]; simp [IntKind.wrap, IntKind.bits, IntKind.signed, UInt8.toNat_ofNat]
        have hnm : nmOf (jt true K i) = [102, x, y] := by rw [← hJ, hx, hy, ha, hb]; rfl
        have hcv := conv3 wr x y
        have hal : Below wr.heap.size wr (wr.alloc (.cells #[.int .u8 102, .int .u8 x.toNat, .int .u8 y.toNat] 5)) := (Below.refl _ _).alloc (Nat.le_refl _) _
        have hno := flI_not (turn := true) HK.out.1 hlt
        rw [hnm] at hno
        have hi40 : i < 40 := by have := HK.out.1; omega
        by_cases h32 : i < 32
        · have t1 : decide ((32 : Int) ≤ (i : Int)) = false := by simp; omega
          have t2 : decide ((i : Int) < 32) = true := by simp; omega
          have t3 : ¬ 32 ≤ i := by omega
          have HCR : Hid (Calls Try.prog 13 #[dp (w.heap.size + 1), nmv [102, x, y]] (wr.alloc (.cells #[.int .u8 102, .int .u8 x.toNat, .int .u8 y.toNat] 5)) fun e w' => e = .returned (.int .i64 0) ∧ HG w' w.heap.size (w.heap.size + 1) 1000 (flI true K (i + 1)) 0 ∧ Below w.heap.size w w') :=
            hid ((create_G (hg.below hal) [102, x, y] (by simp) (by simp) hno (by rw [flI_len]; omega)).mono fun e w' ⟨he, hg', hf⟩ => ⟨he, hg'.cast (by rw [flI_succ h32, hnm]) rfl, (hbl.trans (hal.mono hbl.size)).trans hf.bel⟩)
          clear hJ hJi ha hb hx hy hnm hal hno hg hbl
          go_wp2_with (first
            | (go_at_call 12; refine (num_any _ _).mono ?_; rintro e w' ⟨rfl, rfl⟩)
            | (go_at_call 13; refine HCR.out.mono ?_; rintro e w5 ⟨rfl, hg5, hb5⟩))
          go_roundw
          case rel => exact ⟨i + 1, by go_num, by omega, hg5, hb5⟩
          case measure => simp [intOf]; omega
        · have t1 : decide ((32 : Int) ≤ (i : Int)) = true := by simp; omega
          have t2 : decide ((i : Int) < 32) = false := by simp; omega
          have t3 : 32 ≤ i := by omega
          have HCR : Hid (Calls Try.prog 13 #[dp (w.heap.size + 1), nmv [102, x, y]] (wr.alloc (.cells #[.int .u8 102, .int .u8 x.toNat, .int .u8 y.toNat] 5)) fun e w' => e = .returned (.int .i64 9) ∧ HG w' w.heap.size (w.heap.size + 1) 1000 (flI true K (i + 1)) 0 ∧ Below w.heap.size w w') :=
            hid ((create_many (hg.below hal) [102, x, y] (by simp) (by simp) hno (by rw [flI_len]; omega)).mono fun e w' ⟨he, hw⟩ => ⟨he, by rw [← hw]; exact (hg.below hal).cast (flI_stay (by omega)).symm rfl, by rw [← hw]; exact hbl.trans (hal.mono hbl.size)⟩)
          clear hJ hJi ha hb hx hy hnm hal hno hg hbl
          go_wp2_with (first
            | (go_at_call 12; refine (num_any _ _).mono ?_; rintro e w' ⟨rfl, rfl⟩)
            | (go_at_call 13; refine HCR.out.mono ?_; rintro e w5 ⟨rfl, hg5, hb5⟩))
          go_roundw
          case rel => exact ⟨i + 1, by go_num, by omega, hg5, hb5⟩
          case measure => simp [intOf]; omega
    · obtain rfl : i = K := by omega
      have HI := hid hi
      have hM0 : min i 32 ≤ 32 := by omega
      obtain ⟨M, hM⟩ : ∃ M, M = min i 32 := ⟨_, rfl⟩
      obtain ⟨nms, hnms⟩ : ∃ l, l = sorted ((flI turn i i).map (·.1)) := ⟨_, rfl⟩
      have hnl : nms.length = M := by rw [hnms, sorted_len, List.length_map, flI_len, hM]
      have hM1 : 1 ≤ M ∧ M ≤ 32 := by have := HK.out; omega
      have hrise : ∀ t, t + 1 < M → Op.bytesLess (nms.getD t []) (nms.getD (t + 1) []) = true := by
        intro t ht
        rw [bytesLess_eq, decide_eq_true_eq, hnms]
        exact sorted_lt hg.nodup t (by rw [← hnms, hnl]; exact ht)
      have hmem : ∃ i0 : Nat, (flI turn i i)[i0]? = some (nms.getD 0 [], 0) := by
        have h0 : nms.getD 0 [] ∈ nms := by
          rw [List.getD_eq_getElem?_getD, List.getElem?_eq_getElem (by omega)]; exact List.getElem_mem _
        rw [hnms, sorted_mem, ← hnms] at h0
        obtain ⟨⟨nm, l⟩, hx, e⟩ := List.mem_map.1 h0
        have hl0 : l = 0 := by
          unfold flI at hx
          obtain ⟨t, _, e2⟩ := List.mem_map.1 hx
          injection e2 with _ e3
          exact e3.symm
        obtain ⟨i0, hi0⟩ := List.mem_iff_getElem?.1 hx
        exact ⟨i0, by rw [hi0, hl0, ← e]⟩
      have hn3 : (nms.getD 0 []).length = 3 := by
        obtain ⟨i0, hi0⟩ := hmem
        exact flI_nm (List.mem_map.2 ⟨_, List.mem_of_getElem? hi0, rfl⟩)
      have HLI := hid (list_G hg (by rw [flI_len]; omega))
      rw [← hnms] at HLI
      have HN := hid (And.intro hnl (And.intro hrise (And.intro hmem (And.intro hn3 hM))))
      have HG1 := hid (And.intro hg hbl)
      have hMi : (M : Int) = min (i : Int) 32 := by omega
      have hmin := fun w' => run_min2 (P := Try.prog) w' #[3, 3] 3 (i : Int) 32 (M : Int) hMi
      clear hg hbl hnms hnl hrise hmem hn3 hM hM0 hi hMi
      go_wp2_with fail
      refine HLI.out.mono ?_
      rintro e w6 ⟨v, rfl, ho, hb6⟩
      have hov := ho
      have hl : (nms.map encStr).length = M := by rw [List.length_map, HN.out.1]
      obtain ⟨gb, gc, hv, hix⟩ := ownV_at ho (by rw [hl]; exact hM1.1)
      rw [hl] at hv hix
      have hlen := fun w' => ho.slG.len (P := Try.prog) (ty := 3) Try.underlying46 w'
      rw [List.length_map, hl] at hlen
      subst hv
      have hcell : ∀ w' t, Fr w.heap.size w6 w' → t < M → w'.cell? ⟨gb, t, none⟩ = some (.string ⟨(nms.getD t []).toArray⟩) := fun w' t hf ht =>
        OwnV.cellAt (ownV_fr' ho (by decide) hf) t _ (by rw [List.getElem?_map, List.getD_eq_getElem?_getD, List.getElem?_eq_getElem (by rw [HN.out.1]; exact ht)]; rfl)
      have hsz : w.heap.size ≤ wr.heap.size := HG1.out.2.size
      have H6 := hid (And.intro (HG1.out.1.below hb6) (And.intro (HG1.out.2.trans (hb6.mono hsz)) (And.intro hcell hix)))
      clear ho hov hl hix hcell hb6 hsz
      have hsz6 : w.heap.size ≤ w6.heap.size := H6.out.2.1.size
      obtain ⟨wO, hwO⟩ : ∃ w, w = wr := ⟨_, rfl⟩
      subst hwO
      go_wp2_with fail
      go_loopw [12] (fun s12 wr => ∃ t : Nat, s12 = .int .i64 t ∧ t + 1 ≤ M ∧ Below w6.heap.size w6 wr) (fun s12 _ => M - (intOf s12).toNat)
      case atStart => exact ⟨0, rfl, by omega, Below.refl _ _⟩
      case round =>
        obtain ⟨t, rfl, ht, hbl⟩ := hrel
        have htw : IntKind.i64.wrap ((t : Int) + 1) = (t : Int) + 1 := IntWalk.i64_in _ (by omega)
        by_cases hlt : t + 1 < M
        · have hfr := Fr.of_below hbl hsz6
          have t1 : decide ((t : Int) + 1 < (M : Int)) = true := by simp; omega
          have c1 := fun w' (h : Fr w.heap.size wr w') => H6.out.2.2.1 w' t (hfr.trans h) (by omega)
          have c2 := fun w' (h : Fr w.heap.size wr w') => H6.out.2.2.1 w' (t + 1) (hfr.trans h) hlt
          have a1 := fun w' (k : IntKind) => H6.out.2.2.2 w' k t (by omega)
          have a2 : ∀ w' (k : IntKind), (Instr.indexAt 46 (.slice (some ⟨gb, 0, none⟩) M gc) (.int k ((t : Int) + 1))).run Try.prog w' = .ok (.pointer (some ⟨gb, t + 1, none⟩)) w' := fun w' k => H6.out.2.2.2 w' k (t + 1) hlt
          have hles := HN.out.2.1 t hlt
          have hbw : w.heap.size ≤ wr.heap.size := by have := hbl.size; omega
          obtain ⟨s1, hs1⟩ : ∃ s, s = nms.getD t [] := ⟨_, rfl⟩
          obtain ⟨s2, hs2⟩ : ∃ s, s = nms.getD (t + 1) [] := ⟨_, rfl⟩
          rw [← hs1] at c1 hles
          rw [← hs2] at c2 hles
          have d1 := c1 wr (Fr.refl _ _)
          have d2 := c2 wr (Fr.refl _ _)
          have HB := hid hbl
          clear hs1 hs2 c1 c2 hfr hbl
          go_wp2_with fail
          go_quiet (fail)
          have hbq := Below.drewN_refl wr nq
          obtain ⟨wB, hwB⟩ : ∃ w, w = wr.drewN nq := ⟨_, rfl⟩
          rw [← hwB] at hbq ⊢
          have HBq := hid hbq
          clear hbq hwB
          go_wp2_with fail
          go_roundw
          case rel => exact ⟨t + 1, by go_num, by omega, HB.out.trans (HBq.out.mono HB.out.size)⟩
          case measure => simp [intOf]; omega
        · obtain rfl : M = t + 1 := by omega
          have t1 : decide ((t : Int) + 1 < ((t + 1 : Nat) : Int)) = false := by simp
          have hM0 : (((t + 1 : Nat) : Int) == 0) = false := by rw [beq_eq_false_iff_ne]; omega
          have hM9 : ¬ t + 1 = 0 := by omega
          obtain ⟨w7, hw7⟩ : ∃ w, w = wr := ⟨_, rfl⟩
          subst hw7
          have hfr := Fr.of_below hbl hsz6
          have hsz7 : w.heap.size ≤ w7.heap.size := by have := hbl.size; omega
          have hdr : Below w7.heap.size w7 w7.drew := (Below.refl _ _).drew
          have hfd : Fr w.heap.size w7 w7.drew := Fr.of_below hdr hsz7
          obtain ⟨s1, hs1⟩ : ∃ s, s = nms.getD 0 [] := ⟨_, rfl⟩
          have c1 : ∀ w', Fr w.heap.size w7 w' → w'.cell? ⟨gb, 0, none⟩ = some (.string ⟨s1.toArray⟩) := fun w' h => by rw [hs1]; exact H6.out.2.2.1 w' 0 (hfr.trans h) (by omega)
          have a1 : ∀ w' (k : IntKind), (Instr.indexAt 46 (.slice (some ⟨gb, 0, none⟩) (t + 1) gc) (.int k 0)).run Try.prog w' = .ok (.pointer (some ⟨gb, 0, none⟩)) w' := fun w' k => H6.out.2.2.2 w' k 0 (by omega)
          obtain ⟨i0, hi0⟩ := HN.out.2.2.1
          have hn3 := HN.out.2.2.2.1
          rw [← hs1] at hi0 hn3
          have hml : s1.length ≤ maxLen := by rw [hn3]; decide
          have HSE : Hid (Calls Try.prog 15 #[.int .u8 120] w7.drew fun e w' => ∃ v, e = .returned v ∧ (∃ oa n c, v = .slice oa n c) ∧ (∀ w'', Fr w.heap.size w' w'' → SlB w'' w''.heap.size v (secOf 120)) ∧ HG w' w.heap.size (w.heap.size + 1) 1000 (flI turn i i) 0 ∧ Fr w.heap.size w7 w') :=
            hid ((sector_any 120 w7.drew).mono fun e w' ⟨v, he, ho, hb⟩ => ⟨v, he, slB_shape ho.slB, stab_own ho, ((H6.out.1.below hbl).below hdr).below hb, hfd.trans (Fr.of_below hb hsz7)⟩)
          have HWR : Hid (∀ (w8 : World) (v : Value), (∀ w'', Fr w.heap.size w8 w'' → SlB w'' w''.heap.size v (secOf 120)) → HG w8 w.heap.size (w.heap.size + 1) 1000 (flI turn i i) 0 → Fr w.heap.size w7 w8 →
              Calls Try.prog 14 #[dp (w.heap.size + 1), .string ⟨s1.toArray⟩, .int .i64 0, v] w8 fun e w' => (∃ c, e = .returned (.int .i64 c)) ∧ Fr w.heap.size w7 w' ∧ ∃ l', HG w' w.heap.size (w.heap.size + 1) 1000 ((flI turn i i).set i0 (s1, l')) 1) :=
            hid fun w8 v hst hg hf => (write_any1 hg hi0 hml (secOf 120) (secOf_len _) v hst (by rw [flI_sum]; omega) (by decide) (by decide)).mono fun e w' ⟨he, hf2, l', hg2⟩ => ⟨he, hf.trans hf2, l', hg2⟩
          have HB7 := hid (H6.out.2.1.trans (hbl.mono hsz6))
          have HI0 := hid (And.intro hi0 (And.intro hn3 hml))
          clear hbl hfr hs1 hi0 hn3 hml hdr
          go_wp2_with fail
          refine wp_region_held_drew (S := fun w' => Fr w.heap.size w7 w') (by kernel_rfl) (by exact hfd) (fun hHeld => ?_)
          refine wpAnyH_take (i := 0) (v := ?_) rfl (by kernel_rfl) (by kernel_rfl) (by kernel_rfl) (fun _ _ _ h => h) (Or.inl ⟨by rfl, ?_⟩) (by assumption) ?_
          rotate_left
          · (intro w hSw; (try dsimp only at hSw); go_simp; try (with_reducible rfl))
          try simp only [Act.put, List.getElem_toArray, List.getElem_cons_succ, List.getElem_cons_zero, List.setIfInBounds_toArray, List.set_cons_zero, List.set_cons_succ]
          refine wpAnyH_take (i := 1) (v := ?_) rfl (by kernel_rfl) (by kernel_rfl) (by kernel_rfl) (fun _ _ _ h => h) (Or.inl ⟨by rfl, ?_⟩) (by assumption) ?_
          rotate_left
          · (intro w hSw; (try dsimp only at hSw); go_simp; try (with_reducible rfl))
          try simp only [Act.put, List.getElem_toArray, List.getElem_cons_succ, List.getElem_cons_zero, List.setIfInBounds_toArray, List.set_cons_zero, List.set_cons_succ]
          refine wpAnyH_take (i := 2) (v := ?_) rfl (by kernel_rfl) (by kernel_rfl) (by kernel_rfl) (fun _ _ _ h => h) (Or.inl ⟨by rfl, ?_⟩) (by assumption) ?_
          rotate_left
          · (intro w hSw; (try dsimp only at hSw); go_simp; try (with_reducible rfl))
          try simp only [Act.put, List.getElem_toArray, List.getElem_cons_succ, List.getElem_cons_zero, List.setIfInBounds_toArray, List.set_cons_zero, List.set_cons_succ]
          refine wpAnyH_take (i := 3) (v := ?_) rfl (by kernel_rfl) (by kernel_rfl) (by kernel_rfl) (fun _ _ _ h => h) (Or.inl ⟨by rfl, ?_⟩) (by assumption) ?_
          rotate_left
          · (intro w hSw; (try dsimp only at hSw); go_simp; try (with_reducible rfl))
          try simp only [Act.put, List.getElem_toArray, List.getElem_cons_succ, List.getElem_cons_zero, List.setIfInBounds_toArray, List.set_cons_zero, List.set_cons_succ]
          refine wpAnyH_ready (rs := [4]) (by kernel_rfl) (by simp) (AllReadyH.cons rfl (fun K hK => ?_) AllReadyH.nil)
          go_simp
          go_wp2_with ((go_at_call 15; refine HSE.out.mono ?_; rintro e w8 ⟨_, rfl, ⟨sa, sn, sk, rfl⟩, hst8, hg8, hf8⟩))
          refine hK.out _ _ (by first | assumption | exact Fr.refl _ _) (fun hHeld5 => ?_)
          clear hK K hHeld
          have hHeld := hHeld5
          clear hHeld5
          try simp only [Act.put, List.getElem_toArray, List.getElem_cons_succ, List.getElem_cons_zero, List.setIfInBounds_toArray, List.set_cons_zero, List.set_cons_succ]
          refine wpAnyH_ready (rs := [5]) (by kernel_rfl) (by simp) (AllReadyH.cons rfl (fun K hK => ?_) AllReadyH.nil)
          go_simp
          go_wp2_with ((go_at_call 14; refine (HWR.out _ _ hst8 hg8 hf8).mono ?_; rintro e w9 ⟨⟨c9, rfl⟩, hf9, hg9⟩))
          refine hK.out _ _ (by first | assumption | exact Fr.refl _ _) (fun hHeld5 => ?_)
          clear hK K hHeld
          have hHeld := hHeld5
          clear hHeld5
          try simp only [Act.put, List.getElem_toArray, List.getElem_cons_succ, List.getElem_cons_zero, List.setIfInBounds_toArray, List.set_cons_zero, List.set_cons_succ]
          refine wpAnyH_done (by kernel_rfl) ?_ _
          obtain ⟨l', hg9'⟩ := hg9
          have H9 := hid (And.intro hg9' (And.intro hf9 (HB7.out.trans hf9.bel)))
          have hc9 := c1 w9 hf9
          have HAG : Hid (Calls Try.prog 13 #[dp (w.heap.size + 1), .string ⟨s1.toArray⟩] w9 fun e w' => e = .returned (.int .i64 0) ∧ HG w' w.heap.size (w.heap.size + 1) 1000 (((flI turn i i).set i0 (s1, l')).set i0 (s1, 0)) 1 ∧ Fr w.heap.size w9 w') :=
            hid (again_G hg9' (set_at HI0.out.1 _) (by rw [HI0.out.2.1]; omega) (by rw [HI0.out.2.1]; omega) (by rw [List.length_set, flI_len]; omega))
          have HC1 := hid c1
          clear hg9' hf9 hg8 hf8 hst8 HSE HWR hfd c1
          go_wp2_with fail
          refine HAG.out.mono ?_
          rintro e w10 ⟨rfl, hg10, hf10⟩
          have hc10 := HC1.out w10 (H9.out.2.1.trans hf10)
          have HSZ : Hid (Calls Try.prog 22 #[dp (w.heap.size + 1), .string ⟨s1.toArray⟩] w10 fun e w' => e = .returned (.tuple #[.int .i64 0, .int .i64 0]) ∧ w10 = w') :=
            hid (size_G hg10 (set_at (set_at HI0.out.1 _) _) HI0.out.2.2)
          have H10 := hid (And.intro hg10 (H9.out.2.2.trans hf10.bel))
          clear hg10 hf10
          go_wp2_with fail
          refine HSZ.out.mono ?_
          rintro e w' ⟨rfl, rfl⟩
          have HA0 : Hid (Calls Try.prog 13 #[dp (w.heap.size + 1), .string ⟨#[]⟩] w10 fun e w' => e = .returned (.int .i64 1) ∧ w10 = w') := hid (create_arg H10.out.1 [] (.inl rfl) (by decide))
          have HA1 : Hid (Calls Try.prog 13 #[dp (w.heap.size + 1), .string ⟨#[97, 98, 99, 100, 101, 102, 103, 104, 105, 106, 107, 108, 109, 110, 111, 112, 113]⟩] w10 fun e w' => e = .returned (.int .i64 1) ∧ w10 = w') := hid (create_arg H10.out.1 [97, 98, 99, 100, 101, 102, 103, 104, 105, 106, 107, 108, 109, 110, 111, 112, 113] (.inr (by decide)) (by decide))
          go_wp2_with (first
            | (go_at_call 12; refine (num_any _ _).mono ?_; rintro e w' ⟨rfl, rfl⟩)
            | (go_at_call 10; refine (awake_any _).mono ?_; rintro e w11 ⟨rfl, hb11⟩)
            | (go_at_call 13; refine HA0.out.mono ?_; rintro e w' ⟨rfl, rfl⟩; clear HA0)
            | (go_at_call 13; refine HA1.out.mono ?_; rintro e w' ⟨rfl, rfl⟩))
          go_ret
          exact ⟨rfl, H10.out.2.trans (hb11.mono H10.out.2.size)⟩
end Go.Proofs.Ytcmfmjmjamfndaa
