import Derived.Test.YtcmfmjmjamfndaaS
import Derived.Test.YtcmfmjmjamfndaaJ4
namespace Go.Dk
theorem put_snoc (l : List Sec) (s : Sec) : put l l.length s = l ++ [s] := by
  unfold put grow
  rw [show l.length + 1 - l.length = 1 by omega, List.replicate_one, List.set_append_right _ _ (Nat.le_refl _)]
  simp
theorem put_take (l : List Sec) (k j : Nat) (s : Sec) (hk : k ≤ j) (hj : j < l.length) : (put l j s).take k = l.take k := by
  unfold put
  rw [grow_self _ _ (by omega), List.take_set_of_le hk]
theorem forget_S1k (log : List (Nat × List UInt8)) (k : Nat) : forget (log.map fun x => (⟨[102], x.1, x.2⟩ : RM)) [102] k = (log.filter fun x => !decide (k ≤ x.1)).map fun x => ⟨[102], x.1, x.2⟩ := by
  unfold forget
  rw [List.filter_map]
  congr 1
end Go.Dk
namespace Go.Proofs.Ytcmfmjmjamfndaa
open Go.RowKit Go.Mx Go.Dk
set_option linter.unusedSimpArgs false
set_option linter.unusedVariables false
section
variable {w : World} {base p room left : Nat} {now kept : List Sec} {log : List (Nat × Sec)} {off : Bool}
theorem cut_S1 (h : H1 w base p (S1 room now kept log left false)) (h1 : SecsOk now) (h2 : SecsOk kept) (h3 : LogOk log) (k : Nat) (hk : k ≤ now.length) : Calls Try.prog 23 #[dp p, fN, .int .i64 k] w fun e w' => e = .returned (.int .i64 0) ∧
    H1 w' base p (S1 room (now.take k) (kept.take k) (log.filter fun x => !decide (k ≤ x.1)) left false) ∧ Fr base w w' := by
  obtain ⟨fs, m, lv, x, h⟩ := h
  obtain ⟨f, hi, hf⟩ := file_S1 h
  have hn : f.fm.name = [102] := by rw [hf]
  have hw : f.fm.now = now := by rw [hf]
  have := cut_any h (small_S1 h1 h2 h3) hi rfl (by rw [hn]; decide) k (by rw [hw]; exact hk)
  rw [hn] at this
  refine this.mono fun e w' ⟨he, ⟨fs', lv', hd⟩, hfr⟩ => ⟨he, ⟨fs', m, lv', x, ?_⟩, hfr⟩
  have e1 : Dk.forget (S1 room now kept log left false).log [102] k = _ := forget_S1k log k
  rw [e1] at hd
  exact hd
set_option maxRecDepth 100000 in
theorem cutE_S1 (h : H1 w base p (S1 room now kept log left false)) (h1 : SecsOk now) (a : Int) (ha : a < 0 ∨ (now.length : Int) < a) : Calls Try.prog 23 #[dp p, fN, .int .i64 a] w fun e w' => e = .returned (.int .i64 6) ∧ w = w' := by
  obtain ⟨fs, m, lv, x, h⟩ := h
  obtain ⟨f, hi, hf⟩ := file_S1 h
  have hn : f.fm.name = [102] := by rw [hf]
  have hw : f.fm.now = now := by rw [hf]
  have HH := has_yes h f.fm.name (by rw [hn]; decide) rfl (h.lookAt hi)
  rw [hn] at HH
  have HH := hid HH
  obtain ⟨e0, e1, ez⟩ := h.fcells hi
  have hown : OwnG w base 71 16 f.nv (f.fm.now.map srow) := h.ow 0 f true hi trivial
  obtain ⟨oa, nn, c, hv⟩ := h.sh 0 f true hi
  have hnv : f.nv = .slice oa nn c := hv
  have hlen := fun w' => secs_len hown w' (ty := 3)
  rw [hw, hnv] at hlen
  rw [hnv] at e0
  obtain ⟨L, hL⟩ : ∃ L, L = now.length := ⟨_, rfl⟩
  rw [← hL] at hlen ha
  clear h hi hf hn hw hown hv hnv e1 ez hL h1
  rcases Int.lt_or_le a 0 with hneg | hpos
  · have t1 : decide (a < 0) = true := by simpa using hneg
    go_enter Try.func23, Try.ntmps23
    go_wp2_with fail
    refine HH.out.mono ?_
    rintro e w1 ⟨rfl, rfl⟩
    go_wp2
    go_ret
    exact ⟨rfl, rfl⟩
  · have t1 : decide (a < 0) = false := by simpa using hpos
    have t2 : decide ((L : Int) < a) = true := by simp; omega
    have t3 : ¬ (a < 0) := by omega
    have t4 : (L : Int) < a := by omega
    go_enter Try.func23, Try.ntmps23
    go_wp2_with fail
    refine HH.out.mono ?_
    rintro e w1 ⟨rfl, rfl⟩
    go_wp2
    go_ret
    exact ⟨rfl, rfl⟩
end
theorem secs_one (l : List Sec) (i : Nat) (h : i < l.length) : secs l i 1 = l.getD i [] := by
  have := secs_succ l i 0 (by omega)
  simpa [secs] using this
theorem xs_map (xs : List UInt8) (h : xs.length ≤ 100) : SecsOk (xs.map secOf) := ⟨by simp; omega, by intro s hs; obtain ⟨c, _, rfl⟩ := List.mem_map.1 hs; exact secOf_len c⟩
theorem ok_take {l : List Sec} (h : SecsOk l) (k : Nat) : SecsOk (l.take k) := ⟨by have := h.1; simp; omega, fun s hs => h.2 s (List.mem_of_mem_take hs)⟩

set_option maxRecDepth 100000 in
set_option maxHeartbeats 4000000 in
theorem cuts_any (xs : List UInt8) (av : Value) (n0 : Int) (zs : List Bool) (pv : Value) (again : Bool) (w : World) (ha : SlB w w.heap.size av xs) (hn0 : 0 ≤ n0 ∧ n0 ≤ 255) (hp : SlG w w.heap.size 1 pv (zs.map fun b => [.bool b])) :
    Calls Try.prog 6 #[av, .int .u8 n0, pv, .bool again] w fun e w' => e = .returned (.bool true) ∧ Below w.heap.size w w' := by
  obtain ⟨n, rfl⟩ := Int.eq_ofNat_of_zero_le hn0.1
  have hla := fun w' => ha.len (P := Try.prog) (ty := 3) Try.underlying22 w'
  have hlp := fun w' => hp.len (P := Try.prog) (ty := 3) Try.underlying23 w'
  rw [List.length_map] at hlp
  obtain ⟨aa, an, ac, rfl⟩ := slB_shape ha
  obtain ⟨pa, pn, pc, rfl⟩ : ∃ oa n c, pv = .slice oa n c := by obtain ⟨oa, c, rfl, _⟩ := hp; exact ⟨_, _, _, rfl⟩
  have HA := hid (And.intro ha hp)
  clear ha hp
  by_cases hg : xs.length = 0 ∨ 60 < xs.length ∨ 300 < zs.length
  · go_enter Try.func6, Try.ntmps6
    by_cases h0 : xs.length = 0
    · have t0 : ((xs.length : Int) == 0) = true := by simp [h0]
      clear hg
      have h0' : ((xs.length : Int)) = 0 := by omega
      go_wp2_with (go_at_call 10; refine (awake_any _).mono ?_; rintro e w10 ⟨rfl, hb10⟩)
      go_ret
      exact ⟨rfl, hb10⟩
    · have t0 : ((xs.length : Int) == 0) = false := by rw [beq_eq_false_iff_ne]; omega
      by_cases h1 : 60 < xs.length
      · have t1 : decide ((60 : Int) < (xs.length : Int)) = true := by simp; omega
        clear hg
        go_wp2_with (go_at_call 10; refine (awake_any _).mono ?_; rintro e w10 ⟨rfl, hb10⟩)
        go_ret
        exact ⟨rfl, hb10⟩
      · have t1 : decide ((60 : Int) < (xs.length : Int)) = false := by simp; omega
        have t2 : decide ((300 : Int) < (zs.length : Int)) = true := by simp; omega
        clear hg
        go_wp2_with (go_at_call 10; refine (awake_any _).mono ?_; rintro e w10 ⟨rfl, hb10⟩)
        go_ret
        exact ⟨rfl, hb10⟩
  have h0 : ¬ xs.length = 0 := by omega
  have h1 : ¬ 60 < xs.length := by omega
  have h2 : ¬ 300 < zs.length := by omega
  have t0 : ((xs.length : Int) == 0) = false := by rw [beq_eq_false_iff_ne]; omega
  have t1 : decide ((60 : Int) < (xs.length : Int)) = false := by simp; omega
  have t2 : decide ((300 : Int) < (zs.length : Int)) = false := by simp; omega
  clear hg
  go_enter Try.func6, Try.ntmps6
  go_wp2_with fail
  refine (new_any 1000 w (by decide)).mono ?_
  rintro e w1 ⟨rfl, hd, hb1⟩
  have HD := hid (And.intro hd hb1)
  clear hd hb1
  go_wp2_with (go_at_call 12; refine (num_any _ _).mono ?_; rintro e w' ⟨rfl, rfl⟩)
  refine (create_S0 HD.out.1).mono ?_
  rintro e w2 ⟨rfl, hd2, hf2⟩
  have H2 := hid (And.intro hd2 (HD.out.2.trans hf2.bel))
  clear hd2 hf2 t0 t1 t2
  go_wp2_with fail
  go_loopw [11] (fun s11 wr => ∃ (i : Nat) (log : List (Nat × Sec)), s11 = .int .i64 i ∧ i ≤ xs.length ∧ H1 wr w.heap.size (w.heap.size + 1) (S1 1000 ((xs.take i).map secOf) [] log 0 false) ∧ LogOk log ∧ log.length ≤ i ∧ Below w.heap.size w wr) (fun s11 _ => xs.length - (intOf s11).toNat)
  case atStart => exact ⟨0, [], rfl, by omega, H2.out.1, log_nil, by simp, H2.out.2⟩
  case round =>
    obtain ⟨i, log, rfl, hi, hd, hlog, hll, hbl⟩ := hrel
    by_cases hlt : i < xs.length
    · obtain ⟨b, o, hbb, hia, hcc⟩ := (HA.out.1.below hbl (Nat.le_refl _)).addr (P := Try.prog) Try.underlying22 (fun w => show (sizeOf 5).run Try.prog w = .ok 1 w by kernel_rfl) i hlt
      have hNi : ((xs.take i).map secOf).length = i := by simp; omega
      have hsx : ((xs.take (i + 1)).map secOf) = (xs.take i).map secOf ++ [secOf (xs.getD i 0)] := by
        rw [List.take_add_one, List.getElem?_eq_getElem hlt, List.getD_eq_getElem?_getD, List.getElem?_eq_getElem hlt, List.map_append]; rfl
      have hoki := xs_map (xs.take i) (by simp; omega)
      obtain ⟨c, hc⟩ : ∃ c, c = xs.getD i 0 := ⟨_, rfl⟩
      rw [← hc] at hcc hsx
      have HS := hid (sector_any c wr)
      have HX := hid (And.intro hd (And.intro hlog (And.intro hll (And.intro hbl (And.intro hNi (And.intro hsx hoki))))))
      clear hd hlog hll hbl hNi hsx hoki hc
      go_wp2_with fail
      refine HS.out.mono ?_
      rintro e w3 ⟨v3, rfl, ho3, hb3⟩
      obtain ⟨a3, n3, c3, rfl⟩ := slB_shape ho3.slB
      have hbb2 : w.heap.size ≤ wr.heap.size := HX.out.2.2.2.1.size
      have HW3 := hid (write_S1 (HX.out.1.below hb3) HX.out.2.2.2.2.2.2 ok_nil HX.out.2.1 i (secOf c) (secOf_len _) _ (stab_own ho3) (by omega) (by omega) (by rw [HX.out.2.2.2.2.1]; omega) (by decide) (by decide))
      simp only [show ¬ (0 : Nat) = 1 by decide, if_false] at HW3
      have HB3 := hid (HX.out.2.2.2.1.trans (hb3.mono hbb2))
      clear ho3 hb3 hbb2
      go_wp2_with fail
      refine HW3.out.mono ?_
      rintro e w4 ⟨hf4, rfl, hd4⟩
      have H4 := hid (And.intro hd4 (HB3.out.trans hf4.bel))
      clear hd4 hf4
      go_wp2_with fail
      go_roundw
      case rel =>
        have hdd := H4.out.1
        have hpp : put ((xs.take i).map secOf) i (secOf c) = (xs.take (i + 1)).map secOf := by
          rw [HX.out.2.2.2.2.2.1]
          have := put_snoc ((xs.take i).map secOf) (secOf c)
          rwa [HX.out.2.2.2.2.1] at this
        rw [hpp] at hdd
        have hl9 := HX.out.2.1
        have hl8 := HX.out.2.2.1
        refine ⟨i + 1, _, by go_num, by omega, hdd, ⟨?_, ?_⟩, by simp; omega, H4.out.2⟩
        · simp; omega
        · intro x hx
          rcases List.mem_append.1 hx with hx | hx
          · exact hl9.2 x hx
          · simp at hx; subst hx; exact ⟨by show i < 65536; omega, secOf_len c⟩
      case measure => simp [intOf]; omega
    · obtain rfl : i = xs.length := by omega
      rw [List.take_length] at hd
      have hokN := xs_map xs (by omega)
      have hNl : (xs.map secOf).length = xs.length := by simp
      have HFL := hid (flush_S1 hd hokN ok_nil hlog)
      have HBL := hid hbl
      clear hd hlog hll hbl
      go_wp2_with fail
      refine HFL.out.mono ?_
      rintro e w5 ⟨rfl, hd5, hf5⟩
      have H5 := hid (And.intro hd5 (HBL.out.trans hf5.bel))
      have HN := hid (And.intro hokN hNl)
      clear hd5 hf5 hokN hNl
      obtain ⟨k, hkL, hkq⟩ : ∃ k : Nat, k < xs.length ∧ ((n : Nat) : Int).tmod (xs.length : Int) = (k : Int) := ⟨n % xs.length, Nat.mod_lt _ (by omega), by rw [Int.tmod_eq_emod_of_nonneg (by omega)]; rfl⟩
      -- behind the write: what is there
      have HM : Hid (SecsOk ((xs.map secOf).take k) ∧ ((xs.map secOf).take k).length = k) := hid ⟨ok_take HN.out.1 k, by simp; omega⟩
      cases again
      · have HCU := hid (cut_S1 H5.out.1 HN.out.1 HN.out.1 log_nil k (by rw [HN.out.2]; omega))
        go_wp2_with fail
        refine HCU.out.mono ?_
        rintro e w6 ⟨rfl, hd6, hf6⟩
        have HC : Hid (H1 w6 w.heap.size (w.heap.size + 1) (S1 1000 ((xs.map secOf).take k) ((xs.map secOf).take k) [] 0 false) ∧ Below w.heap.size w w6) := hid ⟨hd6, H5.out.2.trans hf6.bel⟩
        clear hd6 hf6
        have HPk := hid (picks_out (HA.out.2.below HC.out.2 (Nat.le_refl _)) (Nat.le_refl _) HC.out.2.size)
        have HCR := hid (crash_S1 HC.out.1 HM.out.1 HM.out.1 log_nil _ zs HPk.out (by omega))
        have hlay : ∀ M : List Sec, lay M (pk1 zs []) = M := fun M => rfl
        rw [hlay] at HCR
        clear hlay
        go_wp2_with fail
        refine HCR.out.mono ?_
        rintro e w7 ⟨rfl, hd7, hf7⟩
        have H7 := hid (And.intro hd7 (HC.out.2.trans hf7.bel))
        clear hd7 hf7
        have HSZ := hid (size_S1 H7.out.1)
        rw [HM.out.2] at HSZ
        go_wp2_with fail
        refine HSZ.out.mono ?_
        rintro e w' ⟨rfl, rfl⟩
        go_wp2_with fail
        go_loopw [16] (fun s16 wr => ∃ i : Nat, s16 = .int .i64 i ∧ i ≤ k ∧ H1 wr w.heap.size (w.heap.size + 1) (S1 1000 ((xs.map secOf).take k) ((xs.map secOf).take k) [] 0 false) ∧ Below w.heap.size w wr) (fun s16 _ => k - (intOf s16).toNat)
        case atStart => exact ⟨0, rfl, by omega, H7.out.1, H7.out.2⟩
        case round =>
          obtain ⟨i, rfl, hik, hd, hbl⟩ := hrel
          by_cases hlt : i < k
          · have HRD := hid (read_S1 hd HM.out.1 HM.out.1 log_nil i 1 (by rw [HM.out.2]; omega))
            have HX := hid (And.intro hd hbl)
            clear hd hbl
            go_wp2_with fail
            refine HRD.out.mono ?_
            rintro e w9 ⟨v9, rfl, ho9, hb9⟩
            have hs1 : secs ((xs.map secOf).take k) i 1 = secOf (xs.getD i 0) := by
              rw [secs_one _ i (by rw [HM.out.2]; exact hlt)]
              have hix : i < xs.length := by omega
              simp only [List.getD_eq_getElem?_getD]
              rw [List.getElem?_take_of_lt hlt, List.getElem?_map, List.getElem?_eq_getElem hix]; rfl
            rw [hs1] at ho9
            have hb09 := HX.out.2.trans (hb9.mono HX.out.2.size)
            obtain ⟨b, o, hbb, hia, hcc⟩ := (HA.out.1.below hb09 (Nat.le_refl _)).addr (P := Try.prog) Try.underlying22 (fun w => show (sizeOf 5).run Try.prog w = .ok 1 w by kernel_rfl) i (by omega)
            obtain ⟨c, hc⟩ : ∃ c, c = xs.getD i 0 := ⟨_, rfl⟩
            rw [← hc] at hcc ho9
            have hc9 := conv_own ho9.slB (Nat.le_refl _)
            obtain ⟨a9, n9, c9, rfl⟩ := slB_shape ho9.slB
            have hdr : Below w9.heap.size w9 w9.drew := (Below.refl _ _).drew
            have HS := hid (sectorC c w9 w9.drew hdr)
            have hccA : ∀ w', Below w9.heap.size w9 w' → w'.cell? ⟨b, o, none⟩ = some (Mx.u8 c) := fun w' h => (h.cell (p := ⟨b, o, none⟩) (by have := hb09.size; show b < _; omega)).trans hcc
            clear hcc
            have H9 := hid (And.intro (HX.out.1.below hb9) hb09)
            clear ho9 hb9 hb09 hc hs1
            go_wp2_with fail
            refine wp_region_held_drew (S := fun w' => Below w9.heap.size w9 w') (by kernel_rfl) (by exact hdr) (fun hHeld => ?_)
            refine wpAnyH_take (i := 0) (v := ?_) rfl (by kernel_rfl) (by kernel_rfl) (by kernel_rfl) (fun _ _ _ h => h) (Or.inl ⟨by rfl, ?_⟩) (by assumption) ?_
            rotate_left
            · (intro w hSw; (try dsimp only at hSw); go_simp; try (with_reducible rfl))
            try simp only [Act.put, List.getElem_toArray, List.getElem_cons_succ, List.getElem_cons_zero, List.setIfInBounds_toArray, List.set_cons_zero, List.set_cons_succ]
            refine wpAnyH_ready (rs := [1]) (by kernel_rfl) (by simp) (AllReadyH.cons rfl (fun K hK => ?_) AllReadyH.nil)
            go_simp
            go_wp2_with ((go_at_call 12; refine (num_any _ _).mono ?_; rintro e w' ⟨rfl, rfl⟩))
            refine hK.out _ _ (by first | assumption | exact Below.refl _ _) (fun hHeld5 => ?_)
            clear hK K hHeld
            have hHeld := hHeld5
            clear hHeld5
            try simp only [Act.put, List.getElem_toArray, List.getElem_cons_succ, List.getElem_cons_zero, List.setIfInBounds_toArray, List.set_cons_zero, List.set_cons_succ]
            refine wpAnyH_take (i := 2) (v := ?_) rfl (by kernel_rfl) (by kernel_rfl) (by kernel_rfl) (fun _ _ _ h => h) (Or.inl ⟨by rfl, ?_⟩) (by assumption) ?_
            rotate_left
            · (intro w hSw; (try dsimp only at hSw); go_simp; try (with_reducible rfl))
            try simp only [Act.put, List.getElem_toArray, List.getElem_cons_succ, List.getElem_cons_zero, List.setIfInBounds_toArray, List.set_cons_zero, List.set_cons_succ]
            refine wpAnyH_take (i := 3) (v := ?_) rfl (by kernel_rfl) (by kernel_rfl) (by kernel_rfl) (fun _ _ _ h => h) (Or.inl ⟨by rfl, ?_⟩) (by assumption) ?_
            rotate_left
            · (intro w hSw; (try dsimp only at hSw); go_simp; try (with_reducible rfl))
            try simp only [Act.put, List.getElem_toArray, List.getElem_cons_succ, List.getElem_cons_zero, List.setIfInBounds_toArray, List.set_cons_zero, List.set_cons_succ]
            refine wpAnyH_take (i := 4) (v := ?_) rfl (by kernel_rfl) (by kernel_rfl) (by kernel_rfl) (fun _ _ _ h => h) (Or.inl ⟨by rfl, ?_⟩) (by assumption) ?_
            rotate_left
            · (intro w hSw; (try dsimp only at hSw); go_simp; try (with_reducible rfl))
            try simp only [Act.put, List.getElem_toArray, List.getElem_cons_succ, List.getElem_cons_zero, List.setIfInBounds_toArray, List.set_cons_zero, List.set_cons_succ]
            refine wpAnyH_take (i := 5) (v := ?_) rfl (by kernel_rfl) (by kernel_rfl) (by kernel_rfl) (fun _ _ _ h => h) (Or.inl ⟨by rfl, ?_⟩) (by assumption) ?_
            rotate_left
            · (intro w hSw; (try dsimp only at hSw); go_simp; try (with_reducible rfl))
            try simp only [Act.put, List.getElem_toArray, List.getElem_cons_succ, List.getElem_cons_zero, List.setIfInBounds_toArray, List.set_cons_zero, List.set_cons_succ]
            refine wpAnyH_take (i := 6) (v := ?_) rfl (by kernel_rfl) (by kernel_rfl) (by kernel_rfl) (fun _ _ _ h => h) (Or.inl ⟨by rfl, ?_⟩) (by assumption) ?_
            rotate_left
            · (intro w hSw; (try dsimp only at hSw); go_simp; try (with_reducible rfl))
            try simp only [Act.put, List.getElem_toArray, List.getElem_cons_succ, List.getElem_cons_zero, List.setIfInBounds_toArray, List.set_cons_zero, List.set_cons_succ]
            refine wpAnyH_take (i := 7) (v := ?_) rfl (by kernel_rfl) (by kernel_rfl) (by kernel_rfl) (fun _ _ _ h => h) (Or.inl ⟨by rfl, ?_⟩) (by assumption) ?_
            rotate_left
            · (intro w hSw; (try dsimp only at hSw); go_simp; try (with_reducible rfl))
            try simp only [Act.put, List.getElem_toArray, List.getElem_cons_succ, List.getElem_cons_zero, List.setIfInBounds_toArray, List.set_cons_zero, List.set_cons_succ]
            refine wpAnyH_take (i := 8) (v := ?_) rfl (by kernel_rfl) (by kernel_rfl) (by kernel_rfl) (fun _ _ _ h => h) (Or.inl ⟨by rfl, ?_⟩) (by assumption) ?_
            rotate_left
            · (intro w hSw; (try dsimp only at hSw); go_simp; try (with_reducible rfl))
            try simp only [Act.put, List.getElem_toArray, List.getElem_cons_succ, List.getElem_cons_zero, List.setIfInBounds_toArray, List.set_cons_zero, List.set_cons_succ]
            refine wpAnyH_take (i := 9) (v := ?_) rfl (by kernel_rfl) (by kernel_rfl) (by kernel_rfl) (fun _ _ _ h => h) (Or.inl ⟨by rfl, ?_⟩) (by assumption) ?_
            rotate_left
            · (intro w hSw; (try dsimp only at hSw); go_simp; try (with_reducible rfl))
            try simp only [Act.put, List.getElem_toArray, List.getElem_cons_succ, List.getElem_cons_zero, List.setIfInBounds_toArray, List.set_cons_zero, List.set_cons_succ]
            refine wpAnyH_ready (rs := [10]) (by kernel_rfl) (by simp) (AllReadyH.cons rfl (fun K hK => ?_) AllReadyH.nil)
            go_simp
            go_wp2_with ((go_at_call 15; refine HS.out.mono ?_; rintro e w10 ⟨_, rfl, hcv, ⟨sa, sn, sk, rfl⟩, hb10⟩))
            refine hK.out _ _ (by first | assumption | exact Below.refl _ _) (fun hHeld5 => ?_)
            clear hK K hHeld
            have hHeld := hHeld5
            clear hHeld5
            try simp only [Act.put, List.getElem_toArray, List.getElem_cons_succ, List.getElem_cons_zero, List.setIfInBounds_toArray, List.set_cons_zero, List.set_cons_succ]
            refine wpAnyH_ready (rs := [11]) (by kernel_rfl) (by simp) (AllReadyH.cons rfl (fun K hK => ?_) AllReadyH.nil)
            go_simp
            refine hK.out _ _ (by first | assumption | exact Below.refl _ _) (fun hHeld5 => ?_)
            clear hK K hHeld
            have hHeld := hHeld5
            clear hHeld5
            try simp only [Act.put, List.getElem_toArray, List.getElem_cons_succ, List.getElem_cons_zero, List.setIfInBounds_toArray, List.set_cons_zero, List.set_cons_succ]
            refine wpAnyH_take (i := 12) (v := ?_) rfl (by kernel_rfl) (by kernel_rfl) (by kernel_rfl) (fun _ _ _ h => h) (Or.inl ⟨by rfl, ?_⟩) (by assumption) ?_
            rotate_left
            · (intro w hSw; (try dsimp only at hSw); go_simp; try (with_reducible rfl))
            try simp only [Act.put, List.getElem_toArray, List.getElem_cons_succ, List.getElem_cons_zero, List.setIfInBounds_toArray, List.set_cons_zero, List.set_cons_succ]
            refine wpAnyH_take (i := 13) (v := ?_) rfl (by kernel_rfl) (by kernel_rfl) (by kernel_rfl) (fun _ _ _ h => h) (Or.inl ⟨by rfl, ?_⟩) (by assumption) ?_
            rotate_left
            · (intro w hSw; (try dsimp only at hSw); go_simp; try (with_reducible rfl))
            try simp only [Act.put, List.getElem_toArray, List.getElem_cons_succ, List.getElem_cons_zero, List.setIfInBounds_toArray, List.set_cons_zero, List.set_cons_succ]
            refine wpAnyH_done (by kernel_rfl) ?_ _
            all_goals
              have HZ := hid (And.intro (H9.out.1.below hb10) (H9.out.2.trans (hb10.mono H9.out.2.size)))
              clear hcv hc9 hccA hia hb10 hdr
              go_wp2_with fail
              go_roundw
              case rel => exact ⟨i + 1, by go_num, by omega, HZ.out.1, HZ.out.2⟩
              case measure => simp [intOf]; omega
          · obtain rfl : i = k := by omega
            have HE := hid (fun (a : Int) (ha : a < 0 ∨ (i : Int) < a) => cutE_S1 hd HM.out.1 a (by rw [HM.out.2]; exact ha))
            have HBL := hid hbl
            clear hd hbl
            go_wp2_with (first
              | (go_at_call 12; refine (num_any _ _).mono ?_; rintro e w' ⟨rfl, rfl⟩)
              | (go_at_call 23; refine (HE.out _ (by omega)).mono ?_; rintro e w' ⟨rfl, rfl⟩)
              | (go_at_call 10; refine (awake_any _).mono ?_; rintro e w10 ⟨rfl, hb10⟩))
            go_ret
            exact ⟨rfl, HBL.out.trans (hb10.mono HBL.out.size)⟩
      · have hw1 : IntKind.i64.wrap ((xs.length : Int) - 1) = (xs.length : Int) - 1 := IntWalk.i64_in _ (by omega)
        go_wp2_with fail
        refine (sector_any 63 w5).mono ?_
        rintro e w3 ⟨v3, rfl, ho3, hb3⟩
        obtain ⟨a3, n3, c3, rfl⟩ := slB_shape ho3.slB
        have hbb2 : w.heap.size ≤ w5.heap.size := H5.out.2.size
        have HW3 := hid (write_S1 (H5.out.1.below hb3) HN.out.1 HN.out.1 log_nil (xs.length - 1) (secOf 63) (secOf_len _) _ (stab_own ho3) (by omega) (by omega) (by rw [HN.out.2]; omega) (by decide) (by decide))
        simp only [show ¬ (0 : Nat) = 1 by decide, if_false] at HW3
        rw [show ((xs.length - 1 : Nat) : Int) = (xs.length : Int) - 1 by omega] at HW3
        have HB3 := hid (H5.out.2.trans (hb3.mono hbb2))
        clear ho3 hb3 hbb2
        go_wp2_with fail
        refine HW3.out.mono ?_
        rintro e w4 ⟨hf4, rfl, hd4⟩
        have H4 := hid (And.intro hd4 (HB3.out.trans hf4.bel))
        have HCU := hid (cut_S1 hd4 (put_ok HN.out.1 _ (by omega) _ (secOf_len _)) HN.out.1 (log_one _ (by omega) _) k (by rw [put_len, HN.out.2]; omega))
        clear hd4 hf4
        rw [put_take _ k (xs.length - 1) _ (by omega) (by rw [HN.out.2]; omega), show (([] ++ [(xs.length - 1, secOf 63)] : List (Nat × Sec)).filter (fun x => !decide (k ≤ x.1))) = [] by simp; omega] at HCU
        go_wp2_with fail
        refine HCU.out.mono ?_
        rintro e w6 ⟨rfl, hd6, hf6⟩
        have HC : Hid (H1 w6 w.heap.size (w.heap.size + 1) (S1 1000 ((xs.map secOf).take k) ((xs.map secOf).take k) [] 0 false) ∧ Below w.heap.size w w6) := hid ⟨hd6, H4.out.2.trans hf6.bel⟩
        clear hd6 hf6
        have HPk := hid (picks_out (HA.out.2.below HC.out.2 (Nat.le_refl _)) (Nat.le_refl _) HC.out.2.size)
        have HCR := hid (crash_S1 HC.out.1 HM.out.1 HM.out.1 log_nil _ zs HPk.out (by omega))
        have hlay : ∀ M : List Sec, lay M (pk1 zs []) = M := fun M => rfl
        rw [hlay] at HCR
        clear hlay
        go_wp2_with fail
        refine HCR.out.mono ?_
        rintro e w7 ⟨rfl, hd7, hf7⟩
        have H7 := hid (And.intro hd7 (HC.out.2.trans hf7.bel))
        clear hd7 hf7
        have HSZ := hid (size_S1 H7.out.1)
        rw [HM.out.2] at HSZ
        go_wp2_with fail
        refine HSZ.out.mono ?_
        rintro e w' ⟨rfl, rfl⟩
        go_wp2_with fail
        go_loopw [16] (fun s16 wr => ∃ i : Nat, s16 = .int .i64 i ∧ i ≤ k ∧ H1 wr w.heap.size (w.heap.size + 1) (S1 1000 ((xs.map secOf).take k) ((xs.map secOf).take k) [] 0 false) ∧ Below w.heap.size w wr) (fun s16 _ => k - (intOf s16).toNat)
        case atStart => exact ⟨0, rfl, by omega, H7.out.1, H7.out.2⟩
        case round =>
          obtain ⟨i, rfl, hik, hd, hbl⟩ := hrel
          by_cases hlt : i < k
          · have HRD := hid (read_S1 hd HM.out.1 HM.out.1 log_nil i 1 (by rw [HM.out.2]; omega))
            have HX := hid (And.intro hd hbl)
            clear hd hbl
            go_wp2_with fail
            refine HRD.out.mono ?_
            rintro e w9 ⟨v9, rfl, ho9, hb9⟩
            have hs1 : secs ((xs.map secOf).take k) i 1 = secOf (xs.getD i 0) := by
              rw [secs_one _ i (by rw [HM.out.2]; exact hlt)]
              have hix : i < xs.length := by omega
              simp only [List.getD_eq_getElem?_getD]
              rw [List.getElem?_take_of_lt hlt, List.getElem?_map, List.getElem?_eq_getElem hix]; rfl
            rw [hs1] at ho9
            have hb09 := HX.out.2.trans (hb9.mono HX.out.2.size)
            obtain ⟨b, o, hbb, hia, hcc⟩ := (HA.out.1.below hb09 (Nat.le_refl _)).addr (P := Try.prog) Try.underlying22 (fun w => show (sizeOf 5).run Try.prog w = .ok 1 w by kernel_rfl) i (by omega)
            obtain ⟨c, hc⟩ : ∃ c, c = xs.getD i 0 := ⟨_, rfl⟩
            rw [← hc] at hcc ho9
            have hc9 := conv_own ho9.slB (Nat.le_refl _)
            obtain ⟨a9, n9, c9, rfl⟩ := slB_shape ho9.slB
            have hdr : Below w9.heap.size w9 w9.drew := (Below.refl _ _).drew
            have HS := hid (sectorC c w9 w9.drew hdr)
            have hccA : ∀ w', Below w9.heap.size w9 w' → w'.cell? ⟨b, o, none⟩ = some (Mx.u8 c) := fun w' h => (h.cell (p := ⟨b, o, none⟩) (by have := hb09.size; show b < _; omega)).trans hcc
            clear hcc
            have H9 := hid (And.intro (HX.out.1.below hb9) hb09)
            clear ho9 hb9 hb09 hc hs1
            go_wp2_with fail
            refine wp_region_held_drew (S := fun w' => Below w9.heap.size w9 w') (by kernel_rfl) (by exact hdr) (fun hHeld => ?_)
            refine wpAnyH_take (i := 0) (v := ?_) rfl (by kernel_rfl) (by kernel_rfl) (by kernel_rfl) (fun _ _ _ h => h) (Or.inl ⟨by rfl, ?_⟩) (by assumption) ?_
            rotate_left
            · (intro w hSw; (try dsimp only at hSw); go_simp; try (with_reducible rfl))
            try simp only [Act.put, List.getElem_toArray, List.getElem_cons_succ, List.getElem_cons_zero, List.setIfInBounds_toArray, List.set_cons_zero, List.set_cons_succ]
            refine wpAnyH_ready (rs := [1]) (by kernel_rfl) (by simp) (AllReadyH.cons rfl (fun K hK => ?_) AllReadyH.nil)
            go_simp
            go_wp2_with ((go_at_call 12; refine (num_any _ _).mono ?_; rintro e w' ⟨rfl, rfl⟩))
            refine hK.out _ _ (by first | assumption | exact Below.refl _ _) (fun hHeld5 => ?_)
            clear hK K hHeld
            have hHeld := hHeld5
            clear hHeld5
            try simp only [Act.put, List.getElem_toArray, List.getElem_cons_succ, List.getElem_cons_zero, List.setIfInBounds_toArray, List.set_cons_zero, List.set_cons_succ]
            refine wpAnyH_take (i := 2) (v := ?_) rfl (by kernel_rfl) (by kernel_rfl) (by kernel_rfl) (fun _ _ _ h => h) (Or.inl ⟨by rfl, ?_⟩) (by assumption) ?_
            rotate_left
            · (intro w hSw; (try dsimp only at hSw); go_simp; try (with_reducible rfl))
            try simp only [Act.put, List.getElem_toArray, List.getElem_cons_succ, List.getElem_cons_zero, List.setIfInBounds_toArray, List.set_cons_zero, List.set_cons_succ]
            refine wpAnyH_take (i := 3) (v := ?_) rfl (by kernel_rfl) (by kernel_rfl) (by kernel_rfl) (fun _ _ _ h => h) (Or.inl ⟨by rfl, ?_⟩) (by assumption) ?_
            rotate_left
            · (intro w hSw; (try dsimp only at hSw); go_simp; try (with_reducible rfl))
            try simp only [Act.put, List.getElem_toArray, List.getElem_cons_succ, List.getElem_cons_zero, List.setIfInBounds_toArray, List.set_cons_zero, List.set_cons_succ]
            refine wpAnyH_take (i := 4) (v := ?_) rfl (by kernel_rfl) (by kernel_rfl) (by kernel_rfl) (fun _ _ _ h => h) (Or.inl ⟨by rfl, ?_⟩) (by assumption) ?_
            rotate_left
            · (intro w hSw; (try dsimp only at hSw); go_simp; try (with_reducible rfl))
            try simp only [Act.put, List.getElem_toArray, List.getElem_cons_succ, List.getElem_cons_zero, List.setIfInBounds_toArray, List.set_cons_zero, List.set_cons_succ]
            refine wpAnyH_take (i := 5) (v := ?_) rfl (by kernel_rfl) (by kernel_rfl) (by kernel_rfl) (fun _ _ _ h => h) (Or.inl ⟨by rfl, ?_⟩) (by assumption) ?_
            rotate_left
            · (intro w hSw; (try dsimp only at hSw); go_simp; try (with_reducible rfl))
            try simp only [Act.put, List.getElem_toArray, List.getElem_cons_succ, List.getElem_cons_zero, List.setIfInBounds_toArray, List.set_cons_zero, List.set_cons_succ]
            refine wpAnyH_take (i := 6) (v := ?_) rfl (by kernel_rfl) (by kernel_rfl) (by kernel_rfl) (fun _ _ _ h => h) (Or.inl ⟨by rfl, ?_⟩) (by assumption) ?_
            rotate_left
            · (intro w hSw; (try dsimp only at hSw); go_simp; try (with_reducible rfl))
            try simp only [Act.put, List.getElem_toArray, List.getElem_cons_succ, List.getElem_cons_zero, List.setIfInBounds_toArray, List.set_cons_zero, List.set_cons_succ]
            refine wpAnyH_take (i := 7) (v := ?_) rfl (by kernel_rfl) (by kernel_rfl) (by kernel_rfl) (fun _ _ _ h => h) (Or.inl ⟨by rfl, ?_⟩) (by assumption) ?_
            rotate_left
            · (intro w hSw; (try dsimp only at hSw); go_simp; try (with_reducible rfl))
            try simp only [Act.put, List.getElem_toArray, List.getElem_cons_succ, List.getElem_cons_zero, List.setIfInBounds_toArray, List.set_cons_zero, List.set_cons_succ]
            refine wpAnyH_take (i := 8) (v := ?_) rfl (by kernel_rfl) (by kernel_rfl) (by kernel_rfl) (fun _ _ _ h => h) (Or.inl ⟨by rfl, ?_⟩) (by assumption) ?_
            rotate_left
            · (intro w hSw; (try dsimp only at hSw); go_simp; try (with_reducible rfl))
            try simp only [Act.put, List.getElem_toArray, List.getElem_cons_succ, List.getElem_cons_zero, List.setIfInBounds_toArray, List.set_cons_zero, List.set_cons_succ]
            refine wpAnyH_take (i := 9) (v := ?_) rfl (by kernel_rfl) (by kernel_rfl) (by kernel_rfl) (fun _ _ _ h => h) (Or.inl ⟨by rfl, ?_⟩) (by assumption) ?_
            rotate_left
            · (intro w hSw; (try dsimp only at hSw); go_simp; try (with_reducible rfl))
            try simp only [Act.put, List.getElem_toArray, List.getElem_cons_succ, List.getElem_cons_zero, List.setIfInBounds_toArray, List.set_cons_zero, List.set_cons_succ]
            refine wpAnyH_ready (rs := [10]) (by kernel_rfl) (by simp) (AllReadyH.cons rfl (fun K hK => ?_) AllReadyH.nil)
            go_simp
            go_wp2_with ((go_at_call 15; refine HS.out.mono ?_; rintro e w10 ⟨_, rfl, hcv, ⟨sa, sn, sk, rfl⟩, hb10⟩))
            refine hK.out _ _ (by first | assumption | exact Below.refl _ _) (fun hHeld5 => ?_)
            clear hK K hHeld
            have hHeld := hHeld5
            clear hHeld5
            try simp only [Act.put, List.getElem_toArray, List.getElem_cons_succ, List.getElem_cons_zero, List.setIfInBounds_toArray, List.set_cons_zero, List.set_cons_succ]
            refine wpAnyH_ready (rs := [11]) (by kernel_rfl) (by simp) (AllReadyH.cons rfl (fun K hK => ?_) AllReadyH.nil)
            go_simp
            refine hK.out _ _ (by first | assumption | exact Below.refl _ _) (fun hHeld5 => ?_)
            clear hK K hHeld
            have hHeld := hHeld5
            clear hHeld5
            try simp only [Act.put, List.getElem_toArray, List.getElem_cons_succ, List.getElem_cons_zero, List.setIfInBounds_toArray, List.set_cons_zero, List.set_cons_succ]
            refine wpAnyH_take (i := 12) (v := ?_) rfl (by kernel_rfl) (by kernel_rfl) (by kernel_rfl) (fun _ _ _ h => h) (Or.inl ⟨by rfl, ?_⟩) (by assumption) ?_
            rotate_left
            · (intro w hSw; (try dsimp only at hSw); go_simp; try (with_reducible rfl))
            try simp only [Act.put, List.getElem_toArray, List.getElem_cons_succ, List.getElem_cons_zero, List.setIfInBounds_toArray, List.set_cons_zero, List.set_cons_succ]
            refine wpAnyH_take (i := 13) (v := ?_) rfl (by kernel_rfl) (by kernel_rfl) (by kernel_rfl) (fun _ _ _ h => h) (Or.inl ⟨by rfl, ?_⟩) (by assumption) ?_
            rotate_left
            · (intro w hSw; (try dsimp only at hSw); go_simp; try (with_reducible rfl))
            try simp only [Act.put, List.getElem_toArray, List.getElem_cons_succ, List.getElem_cons_zero, List.setIfInBounds_toArray, List.set_cons_zero, List.set_cons_succ]
            refine wpAnyH_done (by kernel_rfl) ?_ _
            all_goals
              have HZ := hid (And.intro (H9.out.1.below hb10) (H9.out.2.trans (hb10.mono H9.out.2.size)))
              clear hcv hc9 hccA hia hb10 hdr
              go_wp2_with fail
              go_roundw
              case rel => exact ⟨i + 1, by go_num, by omega, HZ.out.1, HZ.out.2⟩
              case measure => simp [intOf]; omega
          · obtain rfl : i = k := by omega
            have HE := hid (fun (a : Int) (ha : a < 0 ∨ (i : Int) < a) => cutE_S1 hd HM.out.1 a (by rw [HM.out.2]; exact ha))
            have HBL := hid hbl
            clear hd hbl
            go_wp2_with (first
              | (go_at_call 12; refine (num_any _ _).mono ?_; rintro e w' ⟨rfl, rfl⟩)
              | (go_at_call 23; refine (HE.out _ (by omega)).mono ?_; rintro e w' ⟨rfl, rfl⟩)
              | (go_at_call 10; refine (awake_any _).mono ?_; rintro e w10 ⟨rfl, hb10⟩))
            go_ret
            exact ⟨rfl, HBL.out.trans (hb10.mono HBL.out.size)⟩
end Go.Proofs.Ytcmfmjmjamfndaa
