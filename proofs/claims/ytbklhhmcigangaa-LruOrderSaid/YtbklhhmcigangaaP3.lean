import Derived.Test.YtbklhhmcigangaaV2
import Derived.BigQuiet
namespace Go.Proofs.Ytbklhhmcigangaa
open Go.RowKit Go.Mx Go.Lr Go.Maps
set_option linter.unusedVariables false
set_option linter.unusedSimpArgs false
theorem info33 : (Try.prog.info? 33).map (fun i => (i.zero, i.size, i.bytes)) = some (some (.agg #[.int .i64 0, .int .i64 0]), 2, 16) := by kernel_rfl
theorem size33 (w : World) : (sizeOf 33).run Try.prog w = .ok 2 w := by kernel_rfl
theorem size5 (w : World) : (sizeOf 5).run Try.prog w = .ok 1 w := by kernel_rfl
abbrev prow (q : Int × Int) : List Value := [.int .i64 q.1, .int .i64 q.2]
theorem ownG_shape2 {w : World} {base : Nat} {e : TypeId} {s : Nat} {v : Value} {rows : List (List Value)} (h : OwnG w base e s v rows) : ∃ oa n c, v = .slice oa n c := by
  rcases h.shape with ⟨rfl, _⟩ | ⟨g, c, rfl, _⟩ <;> exact ⟨_, _, _, rfl⟩
theorem sl_one (w : World) (x : UInt8) : SlB (w.alloc (.cells #[.int .u8 x.toNat] 5)) (w.heap.size + 1) (.slice (some ⟨w.heap.size, 0, none⟩) 1 1) [x] := sl_lit w [x] 5 (by simp [maxLen])
theorem rem_nat (x K : Nat) (hK : 0 < K) : ∃ k : Nat, k < K ∧ ((x : Nat) : Int).tmod (K : Int) = (k : Int) := ⟨x % K, Nat.mod_lt _ hK, by rw [Int.tmod_eq_emod_of_nonneg (by omega)]; rfl⟩
set_option maxRecDepth 100000 in
set_option maxHeartbeats 1000000 in
theorem order_any (n : Int) (bs : List UInt8) (v : Value) (w : World) (hn : 0 ≤ n ∧ n ≤ 255) (hb : SlB w w.heap.size v bs) : Calls Try.prog 3 #[.int .u8 n, v] w fun e w' => e = .returned (.bool true) ∧ Below w.heap.size w w' := by
  obtain ⟨n, rfl⟩ := Int.eq_ofNat_of_zero_le hn.1
  have hn1 : IntKind.i64.wrap (n : Int) = (n : Int) := IntWalk.i64_in _ (by omega)
  obtain ⟨m, hm, hmq⟩ : ∃ k : Nat, k < 10 ∧ ((n : Nat) : Int).tmod 10 = (k : Int) := ⟨n % 10, Nat.mod_lt _ (by omega), by rw [Int.tmod_eq_emod_of_nonneg (by omega)]; rfl⟩
  obtain ⟨K, hK⟩ : ∃ K : Nat, K = m + 2 := ⟨_, rfl⟩
  have hK1 : IntKind.i64.wrap (2 + (m : Int)) = (K : Int) := by rw [IntWalk.i64_in _ (by omega)]; omega
  have hK0 : ((K : Int) == 0) = false := by rw [beq_eq_false_iff_ne]; omega
  have hK2 : ¬ K = 0 := by omega
  have hKb : K ≤ 11 := by omega
  have hlen := fun w' => hb.len (P := Try.prog) Try.underlying22 (ty := 3) w'
  obtain ⟨oa, nn, cc, rfl⟩ := slB_shape hb
  have HS := hid hb
  clear hb hK hm hn
  go_enter Try.func3, Try.ntmps3
  go_wp2_with fail
  refine (new_H 100 w (by omega) (by omega)).mono ?_
  rintro e w1 ⟨rfl, hc1, hb1⟩
  have H1 := hid (And.intro hc1 hb1)
  clear hc1 hb1
  go_wp2_with fail
  refine (num_any 0 _).mono ?_
  rintro e w' ⟨rfl, rfl⟩
  by_cases hL : bs.length ≤ 60
  · have hL1 : ¬ (60 : Int) < (bs.length : Int) := by omega
    have hL2 : ¬ 60 < bs.length := by omega
    go_wp2_with fail
    go_loopw [8] (fun s8 wr => ∃ i : Nat, s8 = .int .i64 i ∧ i ≤ K ∧ HC wr w.heap.size (w.heap.size + 1) (ordA i) ∧ Below w.heap.size w wr) (fun s8 _ => K - (intOf s8).toNat)
    case atStart => exact ⟨0, rfl, by omega, H1.out.1, H1.out.2⟩
    case round =>
      obtain ⟨i, rfl, hi, hc, hb⟩ := hrel
      by_cases hlt : i < K
      · obtain ⟨x, hx⟩ : ∃ x : UInt8, x = UInt8.ofNat i := ⟨_, rfl⟩
        have hw8 : IntKind.u8.wrap (i : Int) = (x.toNat : Int) := by
          rw [hx]
          have : (UInt8.ofNat i).toNat = i := by simp; omega
          rw [this]; exact IntWalk.u8_in _ (by omega)
        have hsl := sl_one wr x
        have hbA : Below wr.heap.size wr (wr.alloc (.cells #[.int .u8 x.toNat] 5)) := (Below.refl _ _).alloc (Nat.le_refl _) _
        have hP := put_H (hc.below hbA) (i : Int) (by unfold isI; omega) _ [x] _ hsl (by rw [World.size_alloc]; exact Nat.le_refl _) (by simp) true (by simp [ordA]; omega) (by rw [hx, ordA_lay]; simp [ordA, bys]; omega) (by simp [ordA])
        rw [hx, ordA_lay, ← hx] at hP
        have HP := hid hP
        have HB := hid (And.intro hb (And.intro hbA hc.base_le))
        clear hP hc hb hx hsl hbA
        go_wp2_with fail
        refine HP.out.mono ?_
        rintro e w2 ⟨rfl, hc2, hb2⟩
        have H2 := hid (And.intro hc2 ((HB.out.1.trans (HB.out.2.1.mono HB.out.2.2)).trans hb2))
        clear hc2 hb2
        go_wp2_with fail
        go_roundw
        case rel => exact ⟨i + 1, by go_num, by omega, H2.out.1, H2.out.2⟩
        case measure => simp [intOf]; omega
      · obtain rfl : K = i := by omega
        have H2 := hid (And.intro hc hb)
        clear hc hb hi hlt
        go_wp2_with fail
        obtain ⟨wL, hwL⟩ : ∃ x, x = wr := ⟨_, rfl⟩
        go_loopw [9, 10] (fun s9 s10 wr => ∃ (t : Nat) (prs : List (Int × Int)) (c : CM), s10 = .int .i64 ((2 * t : Nat) : Int) ∧ OwnG wr w.heap.size 33 2 s9 (prs.map prow) ∧ prs.length ≤ t ∧ 2 * t ≤ bs.length + 1 ∧ (∀ q ∈ prs, (0 ≤ q.1 ∧ q.1 < K) ∧ 0 ≤ q.2 ∧ q.2 < K) ∧ HC wr w.heap.size (w.heap.size + 1) c ∧ Ord K t prs c ∧ Below w.heap.size w wr) (fun _ s10 _ => 80 - (intOf s10).toNat)
        case atStart => exact ⟨0, [], ordA K, rfl, OwnG.nil _ _ _ _, by simp, by simp, by simp, H2.out.1, ord_start K, H2.out.2⟩
        case round =>
          obtain ⟨t, prs, c, rfl, ho, hpl, ht, hprs, hc, hO, hb⟩ := hrel
          obtain ⟨J, hJ⟩ : ∃ J : Nat, J = 2 * t := ⟨_, rfl⟩
          obtain ⟨J1, hJ1⟩ : ∃ J1 : Nat, J1 = J + 1 := ⟨_, rfl⟩
          have hj1 : IntKind.i64.wrap ((J : Int) + 1) = (J1 : Int) := by rw [IntWalk.i64_in _ (by omega)]; omega
          obtain ⟨J2, hJ2⟩ : ∃ J2 : Nat, J2 = 2 * (t + 1) := ⟨_, rfl⟩
          have hj2 : IntKind.i64.wrap ((J : Int) + 2) = (J2 : Int) := by rw [IntWalk.i64_in _ (by omega)]; omega
          rw [← hJ]
          obtain ⟨oA, nA, cA, rfl⟩ := ownG_shape2 ho
          by_cases hlt : J1 < bs.length
          · obtain ⟨b1, o1, hb1, hi1, g1⟩ := (HS.out.below hb (Nat.le_refl _)).addr (P := Try.prog) Try.underlying22 size5 J (by omega)
            obtain ⟨b2, o2, hb2, hi2, g2⟩ := (HS.out.below hb (Nat.le_refl _)).addr (P := Try.prog) Try.underlying22 size5 J1 (by omega)
            obtain ⟨X, hX⟩ : ∃ X : Nat, X = (bs.getD J 0).toNat := ⟨_, rfl⟩
            obtain ⟨Y, hY⟩ : ∃ Y : Nat, Y = (bs.getD J1 0).toNat := ⟨_, rfl⟩
            have hX8 : X < 256 := by rw [hX]; exact UInt8.toNat_lt _
            have hY8 : Y < 256 := by rw [hY]; exact UInt8.toNat_lt _
            rw [show Mx.u8 (bs.getD J 0) = .int .u8 (X : Int) by rw [hX]] at g1
            rw [show Mx.u8 (bs.getD J1 0) = .int .u8 (Y : Int) by rw [hY]] at g2
            have hXw : IntKind.i64.wrap (X : Int) = (X : Int) := IntWalk.i64_in _ (by omega)
            have hYw : IntKind.i64.wrap (Y : Int) = (Y : Int) := IntWalk.i64_in _ (by omega)
            obtain ⟨A, hA, hAq⟩ := rem_nat X K (by omega)
            obtain ⟨B, hB, hBq⟩ := rem_nat Y K (by omega)
            have hc0 := hc
            have HO := hid (And.intro ho (And.intro hpl (And.intro ht (And.intro hprs (And.intro hc (And.intro hO hb))))))
            have HJ := hid (And.intro (And.intro hJ hJ2) (And.intro hJ1 (And.intro hA hB)))
            have hcb := hc0.base_le
            clear hc0 ho hpl ht hprs hc hO hb hJ hJ2 hJ1 hA hB hX hY hb1 hb2 hX8 hY8
            go_wp2_with fail
            go_quiet (fail)
            rename_i nq
            generalize hwq : wr.drewN nq = wq
            have hbq : Below wr.heap.size wr wq := hwq ▸ below_drewN (Below.refl _ _) nq
            have HBq := hid hbq
            clear hwq hbq
            obtain ⟨hA, hB⟩ := HJ.out.2.2
            have iA : isI (A : Int) := by unfold isI; omega
            have iB : isI (B : Int) := by unfold isI; omega
            have hcq := HO.out.2.2.2.2.1.below HBq.out
            have hoq := HO.out.1.below HBq.out (Nat.le_refl _)
            have hbq := HO.out.2.2.2.2.2.2.trans (HBq.out.mono hcb)
            have htl : t ≤ 40 := by have := HO.out.2.2.1; omega
            have ok := ord_ok HO.out.2.2.2.2.2.1 (by omega) (by omega)
            rcases HO.out.2.2.2.2.2.1.after (A : Int) (B : Int) (by omega) (by omega) with ⟨hm, hO'⟩ | ⟨c', hm, hO'⟩
            · have HA1 := hid (after_K hcq ok A B iA iB hm)
              have HX := hid (And.intro hoq (And.intro hbq hO'))
              clear hcq hoq hbq ok hm hO' hA hB iA iB
              go_wp2_with fail
              refine HA1.out.mono ?_
              rintro e w3 ⟨rfl, hc3, hb3, hk3⟩
              have H3 := hid (And.intro hc3 (And.intro (ownG_kt HX.out.1 hk3 (by decide) (by decide) (by decide)) (HX.out.2.1.trans hb3)))
              clear hc3 hb3 hk3 HA1
              go_wp2_with fail
              refine (num_any 11 _).mono ?_
              rintro e w' ⟨rfl, rfl⟩
              go_wp2_with fail
              have hJ2 := HJ.out.1.2
              have htl := HO.out.2.2.1
              have hJ9 := HJ.out.1.1
              refine ⟨⟨t + 1, prs, c, by rw [hJ2], H3.out.2.1, by have := HO.out.2.1; omega, by have := HJ.out.2.1; have := HJ.out.1; omega, HO.out.2.2.2.1, H3.out.1, HX.out.2.2, H3.out.2.2⟩, ?_⟩
              simp [intOf]; omega
            · have HA1 := hid (after_K hcq ok A B iA iB hm)
              have HX := hid (And.intro hoq (And.intro hbq hO'))
              clear hcq hoq hbq ok hm hO' hA hB iA iB
              go_wp2_with fail
              refine HA1.out.mono ?_
              rintro e w3 ⟨rfl, hc3, hb3, hk3⟩
              have H3 := hid (And.intro hc3 (And.intro (ownG_kt HX.out.1 hk3 (by decide) (by decide) (by decide)) (HX.out.2.1.trans hb3)))
              clear hc3 hb3 hk3 HA1
              go_wp2_with fail
              refine (num_any 0 _).mono ?_
              rintro e w' ⟨rfl, rfl⟩
              have hbA : Below w3.heap.size w3 (w3.alloc (.cells #[.int .i64 A, .int .i64 B] 33)) := (Below.refl _ _).alloc (Nat.le_refl _) _
              have HBA := hid hbA
              have hoA := H3.out.2.1.below hbA (Nat.le_refl _)
              have hcA := hid (H3.out.1.below hbA)
              have hrow := row_cells w3 (prow ((A : Int), (B : Int))) 33
              have hone : ∀ u ∈ prow ((A : Int), (B : Int)), u.oneCell' = true := by intro u hu; simp at hu; rcases hu with rfl | rfl <;> rfl
              have hl1 : ((prs.map prow).length + 1) * 16 ≤ 140737488355328 := by have := HO.out.2.1; have := HO.out.2.2.1; simp; omega
              have hl2 : (prs.map prow).length + 1 ≤ 140737488355328 := by have := HO.out.2.1; have := HO.out.2.2.1; simp; omega
              have hbA' : w.heap.size ≤ (w3.alloc (.cells #[.int .i64 A, .int .i64 B] 33)).heap.size := by have := hbA.size; have := H3.out.2.2.size; omega
              clear hbA
              go_wp2_with (at_builtin; refine append_g _ rfl _ _ 31 33 (.agg #[.int .i64 0, .int .i64 0]) 2 16 rfl Try.underlying31 info33 rfl (by decide) w.heap.size _ (prs.map prow) rfl hoA w3.heap.size 1 (prow ((A : Int), (B : Int))) rfl rfl hrow hone hl1 hl2 hbA' ?_)
              intro v' w4 ho4 hg4 hb4
              have hc4 := hcA.out.grown hoA hg4 (by decide) (by decide) (by decide) (by decide)
              have hO4 : OwnG w4 w.heap.size 33 2 v' ((prs ++ [((A : Int), (B : Int))]).map prow) := by rw [List.map_append]; exact ho4
              have H4 := hid (And.intro hc4 (And.intro hO4 ((H3.out.2.2.trans (HBA.out.mono H3.out.2.2.size)).trans hb4)))
              clear hg4 hb4 hc4 hO4 hoA hrow hone hl1 hl2 hbA' ho4
              go_wp2_with fail
              have hJ2 := HJ.out.1.2
              have htl := HO.out.2.2.1
              have hJ9 := HJ.out.1.1
              refine ⟨⟨t + 1, _, c', by rw [hJ2], H4.out.2.1, by have := HO.out.2.1; simp; omega, by have := HJ.out.2.1; have := HJ.out.1; omega, ?_, H4.out.1, HX.out.2.2, H4.out.2.2⟩, ?_⟩
              · intro q hq
                rcases List.mem_append.1 hq with hq | hq
                · exact HO.out.2.2.2.1 q hq
                · simp at hq; subst hq; have := HJ.out.2.2; simp only; omega
              · simp [intOf]; omega
          · have htl : t ≤ 40 := by omega
            have ok := ord_ok hO (by omega) (by omega)
            have ok5 := ok.flush
            obtain ⟨f1, f2, f3, f4, f5, f6⟩ := hO.flush
            have HF := hid (flush_K hc ok)
            obtain ⟨L, hL⟩ : ∃ L, L = (flushM c).2 := ⟨_, rfl⟩
            obtain ⟨c5, hc5⟩ : ∃ c5, c5 = (flushM c).1 := ⟨_, rfl⟩
            rw [← hL, ← hc5] at HF
            rw [← hL] at f1 f2 f3 f4
            rw [← hc5] at f5 f6 ok5
            have HX := hid (And.intro ho (And.intro hb (And.intro hprs (And.intro hpl htl))))
            have HO := hid (And.intro ok5 (And.intro f1 (And.intro f2 (And.intro f3 (And.intro f4 (And.intro f5 f6))))))
            clear ho hpl ht hprs hc hO hb hJ hJ2 hJ1 hL hc5 ok ok5 f1 f2 f3 f4 f5 f6 htl
            go_wp2_with fail
            refine HF.out.mono ?_
            rintro e w3 ⟨lv, rfl, hl3, hc3, hb3, hk3⟩
            have hlL := fun w' => hl3.slI.len (P := Try.prog) Try.underlying29 (ty := 3) w'
            rw [HO.out.2.1] at hlL
            obtain ⟨oL, nL, cL, rfl⟩ := ownG_shape (ownI_G hl3)
            have H3 := hid (And.intro hc3 (And.intro hl3.slI (And.intro (ownG_kt HX.out.1 hk3 (by decide) (by decide) (by decide)) (HX.out.2.1.trans hb3))))
            clear hc3 hl3 hb3 hk3 HF
            go_wp2_with (at_make; refine make_ints _ rfl _ _ 29 rfl Try.underlying29 info3 w3.heap.size _ _ _ _ K rfl rfl ?_ ?_ ?_ ?_ ?_)
            · rfl
            · rfl
            · omega
            · exact Nat.le_refl _
            intro v4 w4 ho4 hb4 hv4
            subst hv4
            rw [← posL_nil] at ho4
            have H4 := hid (And.intro ho4 hb4)
            clear ho4 hb4
            go_wp2_with fail
            obtain ⟨wL2, hwL2⟩ : ∃ x, x = wr := ⟨_, rfl⟩
            go_loopw [15] (fun s15 wr => ∃ (i : Nat), s15 = .int .i64 i ∧ i ≤ K ∧ OwnI wr w3.heap.size (.slice (some ⟨w3.heap.size, 0, none⟩) K K) (posL K (L.take i)) ∧ Below w3.heap.size w3 wr) (fun s15 _ => K - (intOf s15).toNat)
            case atStart => exact ⟨0, rfl, by omega, H4.out.1, H4.out.2⟩
            case round =>
              obtain ⟨i, rfl, hi, ho, hb⟩ := hrel
              obtain ⟨I, hI⟩ : ∃ I : Nat, I = i + 1 := ⟨_, rfl⟩
              have hI1 : IntKind.i64.wrap ((i : Int) + 1) = (I : Int) := by rw [IntWalk.i64_in _ (by omega)]; omega
              by_cases hlt : i < K
              · obtain ⟨bb, bo, hbb, hia, hcell⟩ := (H3.out.2.1.below hb (Nat.le_refl _)).addr (P := Try.prog) Try.underlying29 size3 i (by rw [HO.out.2.1]; exact hlt)
                have hmem : L.getD i 0 ∈ L := by rw [List.getD_eq_getElem?_getD, List.getElem?_eq_getElem (by rw [HO.out.2.1]; exact hlt)]; exact List.getElem_mem _
                obtain ⟨hy1, hy2⟩ := HO.out.2.2.2.1 _ hmem
                obtain ⟨Y, hY⟩ := Int.eq_ofNat_of_zero_le hy1
                have hYK : Y < K := by omega
                obtain ⟨q1, q2⟩ := posL_step (k := K) HO.out.2.2.1 (by rw [HO.out.2.1]; exact hlt) hY hYK
                rw [hY] at hcell
                have ha := ho.at Y (by rw [posL_len]; exact hYK)
                rw [posL_get hYK, q1] at ha
                have hfz := OwnV.fz ho Y
                have hs := ho.set Y ((i : Int) + 1) (by rw [posL_len]; exact hYK)
                rw [q2, ← hI, show (i : Int) + 1 = (I : Int) by omega] at hs
                have hbs := hb.setCell (p := ⟨w3.heap.size, Y, none⟩) (Nat.le_refl _) (.int .i64 (I : Int))
                have HB := hid (And.intro hs (And.intro hbs hI))
                have hYi : ¬ (Y : Int) < 0 := by omega
                have hYk : ¬ (K : Int) ≤ (Y : Int) := by omega
                have hYn : ¬ K ≤ Y := by omega
                clear hbs hs q1 q2 hy1 hy2 hY hmem hbb hb ho hI
                go_wp2_with fail
                refine ⟨⟨I, rfl, by have := HB.out.2.2; omega, by have h9 := HB.out.1; rw [HB.out.2.2]; rw [HB.out.2.2] at h9; exact h9, HB.out.2.1⟩, ?_⟩
                have := HB.out.2.2
                simp [intOf]; omega
              · obtain rfl : K = i := by omega
                rw [List.take_of_length_le (by rw [HO.out.2.1]; exact Nat.le_refl _)] at ho
                have hlA := fun w' => (H3.out.2.2.1.slG).len (P := Try.prog) Try.underlying31 (ty := 3) w'
                obtain ⟨N, hN⟩ : ∃ N, N = (prs.map prow).length := ⟨_, rfl⟩
                rw [← hN] at hlA
                have hNl : N = prs.length := by rw [hN]; simp
                have HN := hid (And.intro hN hNl)
                have hNb : N ≤ 40 := by have := HX.out.2.2.2.1; have := HX.out.2.2.2.2; omega
                obtain ⟨wF, hwF⟩ : ∃ x, x = wr := ⟨_, rfl⟩
                rw [← hwF] at ho hb
                have H5 := hid (And.intro ho hb)
                clear ho hb hi hlt hI hI1 hN hNl
                subst hwF
                go_wp2_with fail
                go_loopw [16] (fun s16 wr => ∃ (i : Nat), s16 = .int .i64 i ∧ i ≤ N ∧ Below wF.heap.size wF wr) (fun s16 _ => N - (intOf s16).toNat)
                case atStart => exact ⟨0, rfl, by omega, Below.refl _ _⟩
                case round =>
                  obtain ⟨i, rfl, hi, hb⟩ := hrel
                  by_cases hlt : i < N
                  · have hbF := H5.out.2.trans (hb.mono H5.out.2.size)
                    obtain ⟨q, hq⟩ : ∃ q, prs[i]? = some q := ⟨_, List.getElem?_eq_getElem (by have := HN.out.2; omega)⟩
                    have hqm := List.mem_of_getElem? hq
                    obtain ⟨⟨hx1, hx2⟩, hy1, hy2⟩ := HX.out.2.2.1 q hqm
                    have hps := HO.out.2.2.2.2.1 q hqm
                    obtain ⟨X, hX⟩ := Int.eq_ofNat_of_zero_le hx1
                    obtain ⟨Y, hY⟩ := Int.eq_ofNat_of_zero_le hy1
                    obtain ⟨b1, o1, hb1, hi1, g1⟩ := (H3.out.2.2.1.slG.below hbF (Nat.le_refl _)).addr (P := Try.prog) Try.underlying31 size33 i (by rw [← HN.out.1]; exact hlt)
                    have hgd : (prs.map prow).getD i [] = [.int .i64 (X : Int), .int .i64 (Y : Int)] := by rw [List.getD_eq_getElem?_getD, List.getElem?_map, hq, ← hX, ← hY]; rfl
                    rw [hgd] at g1
                    have c1 := g1 0 _ rfl
                    have c2 := g1 1 _ rfl
                    have hXK : X < K := by omega
                    have hYK : Y < K := by omega
                    have ho' := H5.out.1
                    have e1 := ho'.at X (by rw [posL_len]; exact hXK)
                    have e2 := ho'.at Y (by rw [posL_len]; exact hYK)
                    rw [posL_get hXK] at e1
                    rw [posL_get hYK] at e2
                    rw [hX, hY] at hps
                    have hlF : w3.heap.size < wF.heap.size := H5.out.1.lt _ rfl
                    have d1 := (hb.cell (p := ⟨w3.heap.size, X, none⟩) hlF).trans e1
                    have d2 := (hb.cell (p := ⟨w3.heap.size, Y, none⟩) hlF).trans e2
                    obtain ⟨U, hU⟩ : ∃ U, U = pos L (X : Int) := ⟨_, rfl⟩
                    obtain ⟨V, hV⟩ : ∃ V, V = pos L (Y : Int) := ⟨_, rfl⟩
                    rw [← hU] at d1 hps
                    rw [← hV] at d2 hps
                    have hle : ¬ (U : Int) ≤ (V : Int) := by omega
                    have hle2 : ¬ U ≤ V := by omega
                    have HB := hid hb
                    clear hb hbF hq hqm hx1 hx2 hy1 hy2 hps hX hY hb1 g1 hgd ho' e1 e2 hlF hU hV
                    simp only [Nat.add_zero] at c1
                    go_wp2_with fail
                    go_quiet (fail)
                    rename_i nq
                    generalize hwq : wr.drewN nq = wq
                    have hbq : Below wr.heap.size wr wq := hwq ▸ below_drewN (Below.refl _ _) nq
                    have HBq := hid hbq
                    clear hwq hbq
                    go_wp2_with fail
                    exact ⟨⟨i + 1, by go_num, by omega, HB.out.trans (HBq.out.mono HB.out.size)⟩, by simp [intOf]; omega⟩
                  · obtain rfl : N = i := by omega
                    have hbF := H5.out.2.trans (hb.mono H5.out.2.size)
                    have hcF := H3.out.1.below hbF
                    have HD := hid (dirty_H hcF (Nat.le_trans HO.out.1.len (by omega)))
                    have HB := hid (And.intro hcF (H3.out.2.2.2.trans (hbF.mono H3.out.2.2.2.size)))
                    clear hb hbF hcF hi hlt
                    go_wp2_with fail
                    refine HD.out.mono ?_
                    rintro e w6 ⟨v6, rfl, ho6, hb6⟩
                    have hl6 := fun w' => ho6.slI.len (P := Try.prog) Try.underlying29 (ty := 3) w'
                    rw [HO.out.2.2.2.2.2.1] at hl6
                    have HFL := hid (flush_H (HB.out.1.below hb6) HO.out.1)
                    have H6 := hid (HB.out.2.trans (hb6.mono HB.out.2.size))
                    clear ho6 hb6 HD
                    go_wp2_with fail
                    refine HFL.out.mono ?_
                    rintro e w7 ⟨v7, rfl, ho7, hc7, hb7⟩
                    have hl7 := fun w' => ho7.slI.len (P := Try.prog) Try.underlying29 (ty := 3) w'
                    rw [HO.out.2.2.2.2.2.2] at hl7
                    have H7 := hid (H6.out.trans hb7)
                    clear ho7 hc7 hb7 HFL
                    go_wp2_with fail
                    refine (awake_any _).mono ?_
                    rintro e w9 ⟨rfl, hb9⟩
                    have HB9 := hid hb9
                    clear hb9
                    go_wp2_with fail
                    go_ret
                    exact ⟨rfl, H7.out.trans (HB9.out.mono H7.out.size)⟩
  · have hL1 : (60 : Int) < (bs.length : Int) := by omega
    have hL2 : 60 < bs.length := by omega
    go_wp2_with fail
    refine (num_any 0 _).mono ?_
    rintro e w' ⟨rfl, rfl⟩
    go_wp2_with fail
    refine (awake_any _).mono ?_
    rintro e w9 ⟨rfl, hb9⟩
    have HB9 := hid hb9
    clear hb9
    go_wp2_with fail
    go_ret
    exact ⟨rfl, H1.out.2.trans (HB9.out.mono H1.out.2.size)⟩
end Go.Proofs.Ytbklhhmcigangaa
