import Derived.Test.YtmcllcepoiakeaaGreatTR
import Derived.Test.YtmcllcepoiakeaaGreatT4
import Derived.Test.YtmcllcepoiakeaaGreatCE
import Derived.Test.YtmcllcepoiakeaaGreatO
import Derived.Test.YtmcllcepoiakeaaGreatDC
import Derived.Test.YtmcllcepoiakeaaGreatDE
set_option linter.unusedSimpArgs false
set_option linter.unusedVariables false
namespace Go.Proofs.YtmcllcepoiakeaaGreat
open Go.RowKit Go.Mx Go.Proofs.YtmcllcepoiakeaaGreat.Dx Go.Dk
theorem empty_M (w : World) : Calls Tryz.prog 4 #[.int .i64 1048576] w fun e w' => ∃ p m aa am, e = .returned (.tuple #[dp p, dp aa]) ∧ AR w' w.heap.size p m aa am 1048576 0 [] ∧ Below w.heap.size w w' := empty_any 1048576 w (by omega) (by omega)
theorem conv1 (n : Nat) (hn : n < 256) (z : Int) (hz : z = n) (W : World) (b : Nat) (hb : b = W.heap.size) : (convert 26 9 (.slice (some ⟨b, 0, none⟩) 1 1)).run Tryz.prog (W.alloc (.cells #[.int .u8 z] 5)) = .ok (nmv [UInt8.ofNat n]) (W.alloc (.cells #[.int .u8 z] 5)) := by
  subst hb
  have h := sl_lit W [UInt8.ofNat n] 5 (show 1 ≤ maxLen by unfold maxLen; omega)
  have e : ((UInt8.ofNat n).toNat : Int) = z := by rw [hz]; simp; omega
  have := conv_sl (P := Tryz.prog) (src := 26) (dst := 9) (e := 5) Tryz.underlying26 Tryz.underlying5 Tryz.underlying9 h
  rw [show (List.map u8 [UInt8.ofNat n]).toArray = #[.int .u8 z] by rw [← e]; rfl] at this
  exact this
set_option maxRecDepth 100000 in
set_option maxHeartbeats 4000000 in
theorem top3 (haw : ∀ w, Calls Tryz.prog 9 #[] w fun e w' => e = .returned (.bool true) ∧ Below w.heap.size w w') (D X : Nat) (hD : D < 256) (hX : X < 256) (w : World) : Calls Tryz.prog 3 #[.int .u8 D, .int .u8 X] w fun e w' => e = .returned (.bool true) ∧ Below w.heap.size w w' := by
  have HAW := hid haw
  clear haw
  go_enter Tryz.func3, Tryz.ntmps3
  go_wp2_with fail
  refine (empty_M w).mono ?_
  rintro e w1 ⟨p, m, aa, am, rfl, ha, hb⟩
  have H1 := hid (And.intro ha hb)
  clear ha hb
  go_wp2_with fail
  obtain ⟨K, hK⟩ : ∃ K : Nat, (1 + (D : Int) % 8) = (K : Int) := ⟨1 + D % 8, by omega⟩
  have hK1 : 1 ≤ K ∧ K ≤ 8 := by omega
  rw [hK]
  clear hK
  go_loopw [8] (fun s8 wr => ∃ (i : Nat) (gs : List IG), i ≤ K ∧ s8 = .int .i64 i ∧ Hid (AR wr w.heap.size p m aa am 1048576 (4 * i) gs ∧ Ch i gs ∧ Below w.heap.size w wr)) (fun s8 _ => K - (intOf s8).toNat)
  case atStart => exact ⟨0, [], by omega, rfl, hid ⟨H1.out.1, rfl, H1.out.2⟩⟩
  case round =>
    obtain ⟨i, gs, hi, rfl, hG⟩ := hrel
    by_cases hlt : i < K
    · have t1 : ((i : Int) < K) := by omega
      have hi8 : i < 8 := by omega
      have hDO : Hid (∀ W, AR W w.heap.size p m aa am 1048576 (4 * i) gs → Calls Tryz.prog 5 #[dp aa, .agg #[.int .i64 1, nmv (nmA i), nmv (bkA i), .int .i64 0, .int .i64 0, .int .i64 4, nilS]] W fun e w' => e = .returned (rep 0) ∧ ∃ gs', AR w' w.heap.size p m aa am 1048576 (4 * i + 4) gs' ∧ Ch (i + 1) gs' ∧ Below w.heap.size W w') := hid fun W hW =>
        (do_step hW (by omega) hi8 hG.out.2.1).mono fun e w' ⟨he, gs', h1, k, h2⟩ => ⟨he, gs', h1, h2, k.bel⟩
      obtain ⟨s1, hs1⟩ : ∃ s, s = nmA i := ⟨_, rfl⟩
      obtain ⟨s2, hs2⟩ : ∃ s, s = bkA i := ⟨_, rfl⟩
      have hcv := conv1 (97 + i) (by omega) (97 + (i : Int)) (by omega)
      rw [show [UInt8.ofNat (97 + i)] = nmA i from rfl] at hcv
      have hcv2 := fun (h : 0 < i) => conv1 (96 + i) (by omega) (97 + (i : Int) - 1) (by omega)
      have hbk : 0 < i → [UInt8.ofNat (96 + i)] = bkA i := fun h => by unfold bkA; rw [if_neg (by omega)]
      rw [← hs1, ← hs2] at hDO
      rw [← hs1] at hcv
      have HG := hid hG.out
      rcases Nat.eq_zero_or_pos i with e0 | hpos
      · subst e0
        have hs20 : s2 = [] := hs2
        simp only [show (97 : Int) + ((0 : Nat) : Int) = 97 by rfl] at hcv
        clear hcv2 hbk hs1 hs2
        subst hs20
        go_wp2_with fail
        refine (hDO.out _ (HG.out.1.below (bel2 wr _ _))).mono ?_
        rintro e w2 ⟨rfl, gs', h1, h2, h3⟩
        have H2 := hid (And.intro h1 (And.intro h2 ((HG.out.2.2.trans ((bel2 wr _ _).mono HG.out.2.2.size)).trans h3)))
        have hfd : ∀ W, (Instr.field 33 (rep 0) 0).run Tryz.prog W = .ok (.int .i64 0) W := fun W => by simp [rep, Instr.field, go_sem, asAgg]
        clear h1 h2 h3 hcv
        go_wp2_with fail
        go_roundw
        case rel => exact ⟨1, gs', by omega, rfl, H2⟩
        case measure => simp [intOf]; omega
      · have tg : (0 : Int) < i := by omega
        have hcv3 := hcv2 hpos
        rw [hbk hpos, ← hs2] at hcv3
        clear hcv2 hbk hs1 hs2
        go_wp2_with fail
        refine (hDO.out _ (HG.out.1.below (bel3 wr _ _ _))).mono ?_
        rintro e w2 ⟨rfl, gs', h1, h2, h3⟩
        have H2 := hid (And.intro h1 (And.intro h2 ((HG.out.2.2.trans ((bel3 wr _ _ _).mono HG.out.2.2.size)).trans h3)))
        have hfd : ∀ W, (Instr.field 33 (rep 0) 0).run Tryz.prog W = .ok (.int .i64 0) W := fun W => by simp [rep, Instr.field, go_sem, asAgg]
        clear h1 h2 h3 hcv hcv3
        go_wp2_with fail
        go_roundw
        case rel => exact ⟨i + 1, gs', by omega, by go_num, hid ⟨by have := H2.out.1; rwa [show 4 * i + 4 = 4 * (i + 1) by omega] at this, H2.out.2⟩⟩
        case measure => simp [intOf]; omega
    · obtain rfl : i = K := by omega
      have HA := hid hG.out.1
      have HC := hid hG.out.2.1
      have HB := hid hG.out.2.2
      obtain ⟨J, hJ⟩ : ∃ J : Nat, ((X : Int) % (i : Int)) = (J : Int) := ⟨X % i, by omega⟩
      have hJi : J < i := by have : ((J : Int)) < i := by rw [← hJ]; exact Int.emod_lt_of_pos _ (by omega)
                             omega
      have hik : (i : Int) ≠ 0 := by omega
      have hcv := conv1 (97 + J) (by omega) (97 + (J : Int)) (by omega)
      rw [show [UInt8.ofNat (97 + J)] = nmA J from rfl] at hcv
      have hDX : Hid (∀ W L, AR W w.heap.size p m aa am 1048576 L gs → L ≤ 70000 → Calls Tryz.prog 5 #[dp aa, .agg #[.int .i64 20, .string ⟨#[97]⟩, nmv (nmA J), .int .i64 0, .int .i64 0, .int .i64 0, nilS]] W fun e w' => e = .returned (rep 11) ∧ AR w' w.heap.size p m aa am 1048576 (L + 1) gs ∧ KA w.heap.size m am aa W w') := hid fun W L hW hL => do_cyc hW hL (by omega) HC.out hJi
      have hDY : Hid (∀ W L, AR W w.heap.size p m aa am 1048576 L gs → L ≤ 70000 → Calls Tryz.prog 5 #[dp aa, .agg #[.int .i64 20, .string ⟨#[97]⟩, .string ⟨#[110, 111, 110, 101]⟩, .int .i64 0, .int .i64 0, .int .i64 0, nilS]] W fun e w' => e = .returned (rep 4) ∧ AR w' w.heap.size p m aa am 1048576 (L + 1) gs ∧ KA w.heap.size m am aa W w') := hid fun W L hW hL => do_r4 hW hL (by omega) (by omega) HC.out
      have hDZ : Hid (∀ W L, AR W w.heap.size p m aa am 1048576 L gs → L ≤ 70000 → Calls Tryz.prog 5 #[dp aa, .agg #[.int .i64 1, .string ⟨#[122]⟩, .string ⟨#[110, 111, 110, 101]⟩, .int .i64 0, .int .i64 0, .int .i64 4, nilS]] W fun e w' => e = .returned (rep 4) ∧ AR w' w.heap.size p m aa am 1048576 (L + 4) gs ∧ KA w.heap.size m am aa W w') := hid fun W L hW hL => do_z4 hW hL (by omega) HC.out
      obtain ⟨s1, hs1⟩ : ∃ s, s = nmA J := ⟨_, rfl⟩
      rw [← hs1] at hcv hDX
      clear hs1
      have hU : ((gfl gs).map (·.2)).sum = 4 * i := by rw [gfl_sum, HC.out.len]
      go_wp2_with fail
      refine (used_G HA.out.hg (by omega)).mono ?_
      rintro e w2 ⟨rfl, _, hb2⟩
      rw [hU]
      obtain ⟨U, hUe⟩ : ∃ U : Int, U = ((4 * i : Nat) : Int) := ⟨_, rfl⟩
      rw [← hUe]
      have HUe := hid hUe
      have H2 := hid (HA.out.below hb2)
      have HB2 := hid (HB.out.trans (hb2.mono HB.out.size))
      clear hb2 hUe hU hG
      go_wp2_with fail
      refine (hDX.out _ _ (H2.out.below (bel2 w2 _ _)) (by omega)).mono ?_
      rintro e w3 ⟨rfl, h1, k3⟩
      have HB3 := hid ((HB2.out.trans ((bel2 w2 _ _).mono HB2.out.size)).trans k3.bel)
      clear k3
      have H3 := hid h1
      clear h1 hcv
      simp only [rep]
      go_wp2_with fail
      have e4 := alloc_new w3 (.cells #[.int .i64 11, nilS, nilS, nilS, .int .i64 0, .int .i64 0] 33)
      have b4 := bel1 w3 (.cells #[.int .i64 11, nilS, nilS, nilS, .int .i64 0, .int .i64 0] 33)
      generalize w3.alloc (.cells #[.int .i64 11, nilS, nilS, nilS, .int .i64 0, .int .i64 0] 33) = w4 at *
      have H4 := hid (And.intro (H3.out.below b4) e4)
      have HB4 := hid (HB3.out.trans (b4.mono HB3.out.size))
      clear b4 e4
      refine (hDY.out _ _ H4.out.1 (by omega)).mono ?_
      rintro e w5 ⟨rfl, h1, k5⟩
      have hmm := fun (W : World) L (h : AR W w.heap.size p m aa am 1048576 L gs) (k : Nat) (c : Array Value) (hc : W.heap[k]? = some (.cells c 33 (0, 0))) => (show k ≠ m ∧ k ≠ am ∧ k ≠ aa from ⟨not_map h.hg.facts.2.1 hc, not_map h.mp.isMap hc, fun e => by obtain ⟨dn, _, ha⟩ := h.ar; rw [← e, hc] at ha; cases ha⟩)
      have HM := hid hmm
      have e5 := k5.cells H4.out.2 (HM.out _ _ H4.out.1 _ _ H4.out.2) (by decide)
      have H5 := hid (And.intro h1 e5)
      have HB5 := hid (HB4.out.trans k5.bel)
      clear h1 k5 hmm e5
      simp only [rep]
      go_wp2_with fail
      have b6 := bel1 w5 (.cells #[.int .i64 4, nilS, nilS, nilS, .int .i64 0, .int .i64 0] 33)
      have e6 := alloc_new w5 (.cells #[.int .i64 4, nilS, nilS, nilS, .int .i64 0, .int .i64 0] 33)
      generalize w5.alloc (.cells #[.int .i64 4, nilS, nilS, nilS, .int .i64 0, .int .i64 0] 33) = w6 at *
      have H6 := hid (And.intro (H5.out.1.below b6) (And.intro (qk_below H5.out.2 b6) e6))
      have HB6 := hid (HB5.out.trans (b6.mono HB5.out.size))
      clear b6 e6
      refine (hDZ.out _ _ H6.out.1 (by omega)).mono ?_
      rintro e w7 ⟨rfl, h1, k7⟩
      have e71 := k7.cells H6.out.2.1 (HM.out _ _ H6.out.1 _ _ H6.out.2.1) (by decide)
      have e72 := k7.cells H6.out.2.2 (HM.out _ _ H6.out.1 _ _ H6.out.2.2) (by decide)
      have H7 := hid (And.intro h1 (And.intro e71 e72))
      have HB7 := hid (HB6.out.trans k7.bel)
      clear h1 k7 e71 e72
      simp only [rep]
      go_upto_region 18 with (fail)
      have b8 := bel1 w7 (.cells #[.int .i64 4, nilS, nilS, nilS, .int .i64 0, .int .i64 0] 33)
      have e8 := alloc_new w7 (.cells #[.int .i64 4, nilS, nilS, nilS, .int .i64 0, .int .i64 0] 33)
      generalize w7.alloc (.cells #[.int .i64 4, nilS, nilS, nilS, .int .i64 0, .int .i64 0] 33) = w8 at *
      have H8 := hid (H7.out.1.below b8)
      have z1 : ∀ W, Below w8.heap.size w8 W → W.cell? ⟨w3.heap.size, 0, none⟩ = some (.int .i64 11) := fun W hW => (cell_of (qk_below (qk_below H7.out.2.1 b8) hW) 0).trans rfl
      have z2 : ∀ W, Below w8.heap.size w8 W → W.cell? ⟨w5.heap.size, 0, none⟩ = some (.int .i64 4) := fun W hW => (cell_of (qk_below (qk_below H7.out.2.2 b8) hW) 0).trans rfl
      have z3 : ∀ W, Below w8.heap.size w8 W → W.cell? ⟨w7.heap.size, 0, none⟩ = some (.int .i64 4) := fun W hW => (cell_of (qk_below e8 hW) 0).trans rfl
      have b0 := Below.refl w8.heap.size w8
      have HB8 := hid (HB7.out.trans (b8.mono HB7.out.size))
      clear b8 e8
      go_wp2_with (go_at_call 7; refine (num7 _ _).mono ?_; rintro e w' ⟨rfl, rfl⟩)
      refine (used_G H8.out.hg (by rw [gfl_sum, HC.out.len]; omega)).mono ?_
      rintro e w9 ⟨rfl, _, hb9⟩
      rw [show ((((gfl gs).map (·.2)).sum : Nat) : Int) = U by rw [gfl_sum, HC.out.len]; exact HUe.out.symm]
      have H9 := hid (H8.out.below hb9)
      have b9 := hb9
      have HB9 := hid (HB8.out.trans (hb9.mono HB8.out.size))
      go_wp2_with fail
      refine (list_G H9.out.hg (by rw [gfl, List.length_map, HC.out.len]; omega)).mono ?_
      rintro e w10 ⟨v, rfl, ho, hb10⟩
      obtain ⟨va, vc, rfl⟩ : ∃ a c, v = .slice a i c := by
        have ho2 := ho.2
        rw [show (List.map encStr (sorted (List.map (fun x => x.fst) (gfl gs)))).length = i by
          rw [List.length_map]; unfold sorted; rw [List.length_mergeSort, List.length_map, gfl, List.length_map, HC.out.len]] at ho2
        rcases ho2 with ⟨h, h0⟩ | ⟨g, cap, cur, h, _⟩
        · omega
        · exact ⟨_, _, h⟩
      have hln : ∀ w', (Builtin.len_ #[30] 3 #[.slice va i vc]).run Tryz.prog w' = .ok (.int .i64 i) w' := fun w' => by cases va <;> simp [Builtin.len_, run_underlying Tryz.underlying30, go_sem]
      have H10 := hid (And.intro (H9.out.below hb10) (belT b9 hb10))
      have HB10 := hid (HB9.out.trans (hb10.mono HB9.out.size))
      clear ho hb9 b9 hb10 b0
      have hcl := conv1 (96 + i) (by omega) (97 + (i : Int) - 1) (by omega)
      rw [show [UInt8.ofNat (96 + i)] = nmA (i - 1) by unfold nmA; rw [show 97 + (i - 1) = 96 + i by omega]] at hcl
      have hDL : Hid (∀ W, AR W w.heap.size p m aa am 1048576 _ gs → Calls Tryz.prog 5 #[dp aa, .agg #[.int .i64 1, .string ⟨#[122]⟩, nmv (nmA (i - 1)), .int .i64 0, .int .i64 0, .int .i64 4, nilS]] W fun e w' => e = .returned (rep (if i = 8 then 10 else 0)) ∧ KA w.heap.size m am aa W w') := hid fun W hW => do_last (L := 4 * i + 1 + 1 + 4) hW (by omega) (by omega) (by omega) HC.out
      obtain ⟨s3, hs3⟩ : ∃ s, s = nmA (i - 1) := ⟨_, rfl⟩
      rw [← hs3] at hcl hDL
      clear hs3
      go_wp2_with fail
      refine (hDL.out _ (H10.out.1.below (bel1 w10 _))).mono ?_
      rintro e w11 ⟨rfl, k11⟩
      have HB11 := hid ((HB10.out.trans ((bel1 w10 _).mono HB10.out.size)).trans k11.bel)
      clear k11
      clear hcl hln z1 z2 z3
      by_cases e8 : i = 8
      · rw [if_pos e8]
        have t8 : ((i : Int) = 8) := by omega
        simp only [rep]
        go_wp2_with (first
          | (go_at_call 7; refine (num7 _ _).mono ?_; rintro e w' ⟨rfl, rfl⟩)
          | (go_at_call 9; refine (HAW.out _).mono ?_; rintro e w' ⟨rfl, hbA⟩))
        go_ret
        exact ⟨rfl, by first | exact HB11.out.trans (hbA.mono HB11.out.size) | exact (HB11.out.trans ((bel1 w11 _).mono HB11.out.size)).trans (hbA.mono (Nat.le_trans HB11.out.size (bel1 w11 _).size))⟩
      · rw [if_neg e8]
        have t8 : ((i : Int) == 8) = false := by simp; omega
        have t9 : ((8 : Int) == (i : Int)) = false := by simp; omega
        simp only [rep]
        go_wp2_with (first
          | (go_at_call 7; refine (num7 _ _).mono ?_; rintro e w' ⟨rfl, rfl⟩)
          | (go_at_call 9; refine (HAW.out _).mono ?_; rintro e w' ⟨rfl, hbA⟩))
        go_ret
        exact ⟨rfl, by first | exact HB11.out.trans (hbA.mono HB11.out.size) | exact (HB11.out.trans ((bel1 w11 _).mono HB11.out.size)).trans (hbA.mono (Nat.le_trans HB11.out.size (bel1 w11 _).size))⟩
set_option maxRecDepth 100000 in
set_option maxHeartbeats 2000000 in
theorem above_0 {w : World} {base p m aa am room L : Nat} {gs : List IG} (h : AR w base p m aa am room L gs) (nm : List UInt8) (hn : ∀ g ∈ gs, g.bk ≠ nm) : Calls Tryz.prog 47 #[dp aa, nmv nm] w fun e w' => e = .returned (.int .i64 0) ∧ Below w.heap.size w w' := by
  obtain ⟨dn, hdn, har⟩ := h.ar
  have H := hid h
  have HN := hid hn
  have hz := blk_lt har
  have hmp := h.mp
  have y := fun j => cell_of har j
  clear h har hn
  go_enter Tryz.func47, Tryz.ntmps47
  go_wp2_with (first
    | (at_range; refine Mp.range_pm _ rfl _ rfl Tryz.underlying9 Tryz.underlying46 rfl hmp ?_; intro w0 hrg0 hg0 hs0)
    | go_in)
  go_frame
  go_loopw [5] (fun s5 wr => ∃ (left : List UInt8 → Bool) (cnt : Nat), s5 = .int .i64 0 ∧ Mp.RG Tryz.prog 9 wr am w.heap.size (gpl gs) left cnt ∧ Hid (Below w.heap.size w wr)) (fun _ wr => wr.rangeLeft am w.heap.size)
  case atStart => exact ⟨_, _, rfl, hrg0, hid ((Below.refl w.heap.size w).grown hg0 (Nat.le_refl _) (by simp))⟩
  case round =>
    obtain ⟨left, cnt, rfl, hrg, hb⟩ := hrel
    clear hrg0 hg0 hs0 y
    go_wp2_with (first
      | (at_next; refine Mp.next_pm _ rfl _ rfl Tryz.underlying9 w.heap.size _ _ rfl hrg ?_ ?_)
      | go_in)
    · intro hl0
      go_wp2
      go_ret
      exact ⟨rfl, hb.out⟩
    · intro s b w2 cnt1 hlk hls hrg1 hlt hg1 hs1 hen
      obtain ⟨g, hg, rfl, rfl⟩ := gpl_look hlk
      have hrl := hrg.left_eq
      have hbw2 : Below w.heap.size w w2 := hb.out.grown hg1 hb.out.size (fun k hk => by cases hk; exact Nat.le_refl _)
      have hme := hid ((H.out.below hbw2).metas hg)
      have eb : (g.bk == nm) = false := by simpa using HN.out g hg
      have HR := hid (And.intro hrg1 (And.intro hlt hbw2))
      clear hrg1 hlt hlk hls hg1 hrg hbw2 hmp
      go_wp2_with fail
      refine hme.out.mono ?_
      rintro e3 w3 ⟨ca, cn, cc, rfl, hb3⟩
      have hfd := field_bk g.bk ca cn cc w3
      have H3 := hid (And.intro (HR.out.1.blocks (hb3.block _ HR.out.1.pm.lt) (hb3.block _ HR.out.1.lt)) (belT HR.out.2.2 hb3))
      clear hb3
      go_wp2_with fail
      go_roundw
      case rel => exact ⟨_, cnt1, rfl, H3.out.1, hid H3.out.2⟩
      case measure => rw [H3.out.1.left_eq, hrl]; exact HR.out.2.1
theorem free_0 {w : World} {base p m aa am room L : Nat} {gs : List IG} (h : AR w base p m aa am room L gs) (nm : List UInt8) (hn : ∀ g ∈ gs, g.bk ≠ nm) : Calls Tryz.prog 44 #[dp aa, nmv nm] w fun e w' => e = .returned (.int .i64 0) ∧ Below w.heap.size w w' := by
  have HA := hid (above_0 h nm hn)
  clear h hn
  go_enter Tryz.func44, Tryz.ntmps44
  go_wp2_with fail
  refine HA.out.mono ?_
  rintro e w1 ⟨rfl, hb⟩
  go_wp2_with fail
  go_ret
  exact ⟨rfl, hb⟩
set_option maxRecDepth 100000 in
set_option maxHeartbeats 2000000 in
/-- tableOf of the image's own table -/
theorem tableOf_own {w : World} {q : Nat} {cs : Array Value} {fr : Nat × Nat} {ta : Option Addr} {tn tc : Nat} (hq : w.heap[q]? = some (.cells cs 142 fr)) (h2 : cs[2]? = some (.int .i64 0)) (h3 : cs[3]? = some (.int .i64 4)) (h5 : cs[5]? = some (.slice ta tn tc)) :
    Calls Tryz.prog 150 #[dp q, .string ⟨#[]⟩] w fun e w' => e = .returned (.tuple #[.agg #[.slice ta tn tc], .int .i64 4, .bool true]) ∧ Below w.heap.size w w' := by
  have b1 := bel1 w (.cells #[nilS] 90)
  have e1 := alloc_new w (.cells #[nilS] 90)
  have e1q := qk_alloc hq (.cells #[nilS] 90)
  have hne : q ≠ w.heap.size := by have := blk_lt hq; omega
  have y2 : ∀ W : World, W.heap[q]? = some (.cells cs 142 fr) → W.cell? ⟨q, 2, none⟩ = some (.int .i64 0) := fun W hW => (cell_of hW 2).trans h2
  have y3 : ∀ W : World, W.heap[q]? = some (.cells cs 142 fr) → W.cell? ⟨q, 3, none⟩ = some (.int .i64 4) := fun W hW => (cell_of hW 3).trans h3
  have y5 : ∀ W : World, W.heap[q]? = some (.cells cs 142 fr) → W.cell? ⟨q, 5, none⟩ = some (.slice ta tn tc) := fun W hW => (cell_of hW 5).trans h5
  clear hq h2 h3 h5
  go_enter Tryz.func150, Tryz.ntmps150
  go_wp2_with fail
  generalize w.alloc (.cells #[nilS] 90) = w1 at *
  have z1 := (cell_of e1 0).trans rfl
  have f1 := fz_of e1 0
  have HB := hid (And.intro b1 e1)
  clear b1 e1
  go_region_held3 (fun W => W.heap[q]? = some (.cells cs 142 fr)) (first | with_reducible assumption | with_reducible exact qk_drew e1q | (solve | (repeat (first | with_reducible assumption | with_reducible refine qk_drew ?_ | with_reducible refine qk_set ?_ ?_)))) (fail)
  have q6 := qk_drew (heap_setCell_at' w1 w.heap.size 0 (.slice ta tn tc) _ _ _ HB.out.2)
  have b6 : Below w.heap.size w (w1.setCell ⟨w.heap.size, 0, none⟩ (.slice ta tn tc)).drew := (HB.out.1.setCell (p := ⟨w.heap.size, 0, none⟩) (Nat.le_refl _) _).drew
  generalize (w1.setCell ⟨w.heap.size, 0, none⟩ (.slice ta tn tc)).drew = w2 at *
  have hk := fun j => cell_of q6 j
  go_wp2_with fail
  exact bodyPost_ret (v := .tuple #[.agg #[.slice ta tn tc], .int .i64 4, .bool true]) (by simp [results, Tryz.results150, go_sem, hk]) rfl ⟨rfl, b6⟩
set_option maxRecDepth 100000 in
set_option maxHeartbeats 2000000 in
theorem shape_any {w : World} {q : Nat} {cs : Array Value} {fr : Nat × Nat} {ta : Option Addr} {tn tc : Nat} (hq : w.heap[q]? = some (.cells cs 142 fr)) (h2 : cs[2]? = some (.int .i64 0)) (h3 : cs[3]? = some (.int .i64 4)) (h5 : cs[5]? = some (.slice ta tn tc)) :
    Calls Tryz.prog 70 #[dp q, .string ⟨#[]⟩] w fun e w' => e = .returned (.tuple #[.int .i64 4, .int .i64 0, .bool true]) ∧ Below w.heap.size w w' := by
  have HT := hid (tableOf_own hq h2 h3 h5)
  have HQ := hid hq
  have H2 := hid h2
  clear hq h2 h3 h5
  go_enter Tryz.func70, Tryz.ntmps70
  go_wp2_with fail
  refine HT.out.mono ?_
  rintro e w1 ⟨rfl, hb⟩
  have b2 := hb.alloc hb.size (.cells #[.slice ta tn tc] 90)
  have HB := hid b2
  have y : ∀ W, Below w.heap.size w W → W.cell? ⟨q, 2, none⟩ = some (.int .i64 0) := fun W hW => (cell_of (qk_below HQ.out hW) 2).trans H2.out
  have b3 := b2.drew
  have y2 := y _ b2
  have y3 := y _ b3
  clear hb
  go_wp2_with fail
  generalize w1.alloc (.cells #[.slice ta tn tc] 90) = w2 at *
  go_region_held3 (fun W => Below w.heap.size w W) (first | with_reducible assumption | with_reducible exact Below.drew (by with_reducible assumption)) (fail)
  go_wp2_with fail
  exact bodyPost_ret (v := .tuple #[.int .i64 4, .int .i64 0, .bool true]) (by simp [results, Tryz.results70, go_sem]; try decide) rfl ⟨rfl, b3⟩
theorem size60 : ∀ w, (sizeOf 60).run Tryz.prog w = .ok 1 w := fun w => by kernel_rfl
set_option maxRecDepth 100000 in
theorem within_any {w : World} {q : Nat} {cs : Array Value} {fr : Nat × Nat} {ta : Option Addr} {tn tc : Nat} (hq : w.heap[q]? = some (.cells cs 142 fr)) (h2 : cs[2]? = some (.int .i64 0)) (h3 : cs[3]? = some (.int .i64 4)) (h5 : cs[5]? = some (.slice ta tn tc))
    {lv : Value} (hl : SlG w w.heap.size 1 lv [[dp q]]) : Calls Tryz.prog 89 #[lv, .int .i64 2, .int .i64 1] w fun e w' => e = .returned (.int .i64 0) ∧ Below w.heap.size w w' := by
  have HS := hid (shape_any hq h2 h3 h5)
  have hln := fun w' => hl.len (P := Tryz.prog) (ty := 3) Tryz.underlying98 w'
  obtain ⟨b, o, hb, hia, hc⟩ := hl.addr (P := Tryz.prog) Tryz.underlying98 size60 0 (by simp)
  have hia := hia w .i64
  have hc := hc 0 (dp q) rfl
  obtain ⟨la, ln, lc, rfl⟩ := slG_sh hl
  simp only [Nat.add_zero] at hc
  have hia : (Instr.indexAt 98 (.slice la ln lc) (.int .i64 0)).run Tryz.prog w = .ok (.pointer (some ⟨b, o, none⟩)) w := hia
  clear hq h2 h3 h5 hl
  go_enter Tryz.func89, Tryz.ntmps89
  go_wp2_with fail
  refine HS.out.mono ?_
  rintro e w1 ⟨rfl, hb1⟩
  go_wp2_with fail
  go_ret
  exact ⟨rfl, hb1⟩
open Go.RowKit Go.Mx Go.Proofs.YtmcllcepoiakeaaGreat.Dx Go.Dk Go.Cnt Go.Proofs.YtmcllcepoiakeaaGreat.Cx
/-- the entry that awake lays -/
abbrev eA (sm : Int) : Ent := ⟨2, 4, 1, 0, sm⟩
abbrev eV (sm : Int) : Value := .agg #[.int .i64 2, .int .i64 4, .int .i64 1, .int .i64 0, .int .u32 sm]
abbrev eZ : Value := .agg #[.int .i64 0, .int .i64 0, .int .i64 0, .int .i64 0, .int .u32 0]
theorem none_0 (w : World) : Calls Tryz.prog 174 #[eZ] w fun e w' => e = .returned (.bool true) ∧ Below w.heap.size w w' := by
  go_enter Tryz.func174, Tryz.ntmps174
  go_wp2
  go_ret
  exact ⟨rfl, bel1 _ _⟩
theorem none_A (sm : Int) (w : World) : Calls Tryz.prog 174 #[eV sm] w fun e w' => e = .returned (.bool false) ∧ Below w.heap.size w w' := by
  go_enter Tryz.func174, Tryz.ntmps174
  go_wp2
  go_ret
  exact ⟨rfl, bel1 _ _⟩
theorem place_A (sm : Int) (w : World) : Calls Tryz.prog 254 #[eV sm] w fun e w' => e = .returned (.bool true) ∧ Below w.heap.size w w' := by
  go_enter Tryz.func254, Tryz.ntmps254
  go_wp2
  go_ret
  exact ⟨rfl, bel1 _ _⟩
theorem emay_A (sm : Int) (w : World) : Calls Tryz.prog 213 #[eV sm, .int .i64 0] w fun e w' => e = .returned (.bool true) ∧ Below w.heap.size w w' := by
  go_enter Tryz.func213, Tryz.ntmps213
  go_wp2_with fail
  refine (place_A sm _).mono ?_
  rintro e w1 ⟨rfl, hb⟩
  go_wp2
  go_ret
  exact ⟨rfl, bel1' hb⟩
theorem anyR_A (sm : Int) (w : World) : Calls Tryz.prog 176 #[.agg #[nilS], eV sm] w fun e w' => e = .returned (.bool true) ∧ Below w.heap.size w w' := by
  go_enter Tryz.func176, Tryz.ntmps176
  go_wp2
  refine wp_loop_once ?_
  go_wp2_with fail
  refine (emay_A sm _).mono ?_
  rintro e w1 ⟨rfl, hb⟩
  obtain ⟨hc, hf, hz⟩ := bcell hb
  have hB := hid (bel2' hb)
  clear hb
  go_wp2_with fail
  refine (tright_nil 4096 0 _ (by decide) (by decide) (by decide) (by decide)).mono ?_
  rintro e w2 ⟨rfl, hb⟩
  have hB2 := hid (belT hB.out hb)
  clear hb
  go_wp2
  go_ret
  exact ⟨rfl, hB2.out⟩
open Go.RowKit Go.Mx Go.Proofs.YtmcllcepoiakeaaGreat.Dx Go.Dk Go.Cnt Go.Proofs.YtmcllcepoiakeaaGreat.Cx
theorem qkb {W W' : World} {q : Nat} {c : Array Value} {t : TypeId} {f : Nat × Nat} (h : W.heap[q]? = some (.cells c t f)) (hb : Below W.heap.size W W') : W'.heap[q]? = some (.cells c t f) := (hb.block _ (blk_lt h)).trans h
theorem notz_0 (w : World) : Calls Tryz.prog 178 #[eZ] w fun e w' => e = .returned (.bool false) ∧ Below w.heap.size w w' := by
  go_enter Tryz.func178, Tryz.ntmps178
  go_wp2_with fail
  refine (none_0 _).mono ?_
  rintro e w1 ⟨rfl, hb⟩
  go_wp2
  go_ret
  exact ⟨rfl, bel1' hb⟩
theorem notz_A (sm : Int) (w : World) : Calls Tryz.prog 178 #[eV sm] w fun e w' => e = .returned (.bool true) ∧ Below w.heap.size w w' := by
  go_enter Tryz.func178, Tryz.ntmps178
  go_wp2_with fail
  refine (none_A sm _).mono ?_
  rintro e w1 ⟨rfl, hb⟩
  go_wp2
  go_ret
  exact ⟨rfl, bel1' hb⟩
def leafC (sm : Int) : Array Value := #[.int .i64 0, .int .i64 0, .int .i64 0, .int .i64 0, .int .u32 0, .int .i64 0, .int .i64 0, .int .i64 0, .int .i64 0, .int .u32 0, .int .i64 2, .int .i64 4, .int .i64 1, .int .i64 0, .int .u32 sm, .int .i64 0, .int .i64 0, .int .i64 0, .int .i64 0, .int .u32 0, .int .i64 0, .int .i64 0, .int .i64 0, .int .i64 0, .int .u32 0, .int .i64 0, .int .i64 0, .int .i64 0, .int .i64 0, .int .u32 0, .int .i64 0, .int .i64 0, .int .i64 0, .int .i64 0, .int .u32 0, .int .i64 0, .int .i64 0, .int .i64 0, .int .i64 0, .int .u32 0]
theorem idxE (g : Nat) (sm : Int) (w : World) (h : w.heap[g]? = some (.cells (leafC sm) 187 (0, 0))) : Calls Tryz.prog 233 #[.slice (some ⟨g, 0, none⟩) 8 8, .func (.func 178) #[] #[]] w fun e w' => e = .returned (.int .i64 2) ∧ Below w.heap.size w w' := by
  have H := hid h
  have hk := fun i => cell_of h i
  simp only [leafC] at hk
  clear h
  go_enter Tryz.func233, Tryz.ntmps233
  go_wp2_with fail
  refine wp_loop_rounds 3 ?_
  rw [rounds_succ]
  go_wp2_with fail
  refine (notz_0 _).mono ?_
  rintro e w1 ⟨rfl, hb⟩
  have HB := hid hb
  clear hk
  have hk := fun i => cell_of (qkb H.out hb) i
  simp only [leafC] at hk
  clear hb
  go_wp2_with fail
  rw [rounds_succ]
  go_wp2_with fail
  refine (notz_0 _).mono ?_
  rintro e w2 ⟨rfl, hb⟩
  have HB2 := hid (belT HB.out hb)
  clear hk hb
  have hk := fun i => cell_of (qkb H.out HB2.out) i
  simp only [leafC] at hk
  go_wp2_with fail
  rw [rounds_succ]
  go_wp2_with fail
  refine (notz_A sm _).mono ?_
  rintro e w3 ⟨rfl, hb⟩
  have HB3 := hid (belT HB2.out hb)
  clear hk hb
  go_wp2_with fail
  go_ret
  exact ⟨rfl, HB3.out⟩
end Go.Proofs.YtmcllcepoiakeaaGreat
namespace Go.Mx
open Go.RowKit
/-- blocks of which all is told -/
def BL (l : List (Nat × Array Value × TypeId)) (W : World) : Prop := ∀ x ∈ l, W.heap[x.1]? = some (.cells x.2.1 x.2.2 (0, 0))
theorem BL.nil (W : World) : BL [] W := fun _ h => by cases h
theorem BL.head {k : Nat} {c : Array Value} {t : TypeId} {l : List (Nat × Array Value × TypeId)} {W : World} (h : BL ((k, c, t) :: l) W) : W.heap[k]? = some (.cells c t (0, 0)) := h (k, c, t) (by simp)
theorem BL.tail {x : Nat × Array Value × TypeId} {l : List (Nat × Array Value × TypeId)} {W : World} (h : BL (x :: l) W) : BL l W := fun y hy => h y (by simp [hy])
theorem BL.cons {k : Nat} {c : Array Value} {t : TypeId} {l : List (Nat × Array Value × TypeId)} {W : World} (h1 : W.heap[k]? = some (.cells c t (0, 0))) (h : BL l W) : BL ((k, c, t) :: l) W := fun y hy => by
  rcases List.mem_cons.1 hy with rfl | hy
  · exact h1
  · exact h y hy
theorem BL.below {l : List (Nat × Array Value × TypeId)} {W W' : World} (h : BL l W) (hb : Below W.heap.size W W') : BL l W' := fun x hx => (hb.block _ (blk_lt (h x hx))).trans (h x hx)
theorem BL.new {l : List (Nat × Array Value × TypeId)} {W : World} (h : BL l W) (c : Array Value) (t : TypeId) : BL ((W.heap.size, c, t) :: l) (W.alloc (.cells c t)) := BL.cons (alloc_new W _) (h.below (bel1 W _))
theorem BL.drew {l : List (Nat × Array Value × TypeId)} {W : World} (h : BL l W) : BL l W.drew := h
theorem BL.set {k i : Nat} {c : Array Value} {t : TypeId} {l : List (Nat × Array Value × TypeId)} {W : World} (h : BL ((k, c, t) :: l) W) (v : Value) (hk : ∀ x ∈ l, x.1 ≠ k) : BL ((k, c.setIfInBounds i v, t) :: l) (W.setCell ⟨k, i, none⟩ v) := BL.cons (heap_setCell_at' W k i v _ _ _ h.head) fun x hx => ((Kept.set (N := fun q => q ≠ k) W k i v fun hn => hn rfl).block _ (blk_lt (h.tail x hx)) (hk x hx)).trans (h.tail x hx)
theorem BL.other {k i : Nat} {l : List (Nat × Array Value × TypeId)} {W : World} (h : BL l W) (v : Value) (hk : ∀ x ∈ l, x.1 ≠ k) : BL l (W.setCell ⟨k, i, none⟩ v) := fun x hx => ((Kept.set (N := fun q => q ≠ k) W k i v fun hn => hn rfl).block _ (blk_lt (h x hx)) (hk x hx)).trans (h x hx)
end Go.Mx
