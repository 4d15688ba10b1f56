import Derived.Test.YtoccgpddmhhlgaaL5
import Derived.Test.YtoccgpddmhhlgaaP7
namespace Go.Proofs.Ytoccgpddmhhlgaa
open Go.RowKit Go.Mx Go.Crc Go.Str Go.Bun
set_option linter.unusedSimpArgs false
set_option linter.unusedVariables false

theorem byte_at12 (its : List Itm) (k i : Nat) (hk : k < its.length) (hi : i < (its.getD k default).data.length) : (bunB its).getD (from_ its k + i) 0 = (its.getD k default).data.getD i 0 := by
  have h2 := congrArg (fun l => l.getD i 0) (data_at its k hk)
  rw [← h2, atB_eq, List.getD_eq_getElem?_getD, List.getD_eq_getElem?_getD, List.getElem?_take_of_lt hi, List.getElem?_drop]
theorem turn_bad (l : List Prt) (k i : Nat) (z : UInt8) (hk : k < l.length) (hi : i < (l.getD k default).data.length) (hz : z ≠ (l.getD k default).data.getD i 0) : (sum ((turnI (l.map itm) k i z).getD k default).data).toNat ≠ ((turnI (l.map itm) k i z).getD k default).s := by
  rw [turn_getD _ k i z (by simpa using hk) k, if_pos rfl, itm_getD l k hk]
  show (sum ((l.getD k default).data.set i z)).toNat ≠ (sum (l.getD k default).data).toNat
  intro e
  exact sum_set _ i z hi hz (BitVec.eq_of_toNat_eq e)
theorem turn_else (l : List Prt) (k i : Nat) (z : UInt8) (hk : k < l.length) (t : Nat) (ht : t < l.length) (h : t ≠ k) : (turnI (l.map itm) k i z).getD t default = itm (l.getD t default) := by
  rw [turn_getD _ k i z (by simpa using hk) t, if_neg h, itm_getD l t ht]
theorem turn_nm (l : List Prt) (k i : Nat) (z : UInt8) (hk : k < l.length) (t : Nat) (ht : t < l.length) : ((turnI (l.map itm) k i z).getD t default).name = (l.getD t default).name := by
  by_cases h : t = k
  · subst h; rw [turn_getD _ t i z (by simpa using hk) t, if_pos rfl, itm_getD l t ht]; rfl
  · rw [turn_else l k i z hk t ht h]; rfl

theorem bnum_q (n : Int) (w : World) : Calls Try.prog 18 #[.int .i64 n] w fun e w' => e = .returned (.int .i64 n) ∧ w' = w :=
  (bnumE_any n w).mono fun _ _ h => ⟨h.1, h.2.symm⟩

set_option maxRecDepth 100000 in
set_option maxHeartbeats 4000000 in
theorem bturned_any (l : List Prt) (lv : Value) (which at_ y0 : Int) (w : World) (h : SlPt w w.heap.size lv l) (hn : ∀ p ∈ l, p.name.length ≤ 9223372036854775807) (hwh : -9223372036854775808 ≤ which ∧ which ≤ 9223372036854775807) (hat : -9223372036854775808 ≤ at_ ∧ at_ ≤ 9223372036854775807) (hy0 : 0 ≤ y0 ∧ y0 ≤ 255) :
    Calls Try.prog 12 #[lv, .int .i64 which, .int .i64 at_, .int .u8 y0] w fun e w' => e = .returned (.bool true) ∧ Below w.heap.size w w' := by
  obtain ⟨y, rfl⟩ : ∃ y : UInt8, y0 = y.toNat := by
    obtain ⟨n, rfl⟩ := Int.eq_ofNat_of_zero_le hy0.1
    exact ⟨UInt8.ofNat n, by rw [UInt8.toNat_ofNat']; omega⟩
  have hyl := y.toNat_lt
  clear hy0
  have hlen := fun w' => h.len (ty := 3) w'
  have H := hid h
  have HG := hid (bgreat_any l lv w h hn)
  clear h hn
  go_enter Try.func12, Try.ntmps12
  go_wp2_with fail
  refine HG.out.mono ?_
  rintro e w1 ⟨b, rfl, hg, hb1⟩
  have HB1 := hid hb1
  clear hb1
  cases b
  rotate_left
  · clear hg
    go_wp2_with fail
    refine (bawake_any _).mono ?_
    rintro e w2 ⟨rfl, hb2⟩
    go_wp2
    go_ret
    exact ⟨rfl, HB1.out.trans (hb2.mono HB1.out.size)⟩
  have hw := hg rfl
  clear hg
  by_cases hl0 : l.length = 0
  · have t0 : ((l.length : Int) == 0) = true := by simp [hl0]
    clear hl0
    go_wp2_with fail
    refine (bawake_any _).mono ?_
    rintro e w2 ⟨rfl, hb2⟩
    go_wp2
    go_ret
    exact ⟨rfl, HB1.out.trans (hb2.mono HB1.out.size)⟩
  have t0 : ((l.length : Int) == 0) = false := by rw [beq_eq_false_iff_ne]; omega
  have hll : l.length ≤ 50000 := by unfold wt at hw; omega
  obtain ⟨k, hk, hidx⟩ := Mx.idx which l.length (by omega)
  have H1 := hid ((H.out.below HB1.out (Nat.le_refl _)).mono HB1.out.size)
  have HC := hid (bput_any l lv w1 H1.out hw)
  by_cases hgd : rise (names l) = true ∧ l.length ≤ 16
  rotate_left
  · obtain ⟨n, hR, hn0⟩ := put_bad l hgd
    rw [hR] at HC
    have t1 : (n == 0) = false := by simpa using hn0
    clear hR hgd hw
    go_wp2_with fail
    refine HC.out.mono ?_
    rintro e w2 ⟨v2, rfl, ho2, hb2⟩
    have hb02 := HB1.out.trans (hb2.mono HB1.out.size)
    have H2 := hid (H.out.below hb02 (Nat.le_refl _))
    obtain ⟨b, o, dv, hbb, hia, i0, i1, hd⟩ := H2.out.at k hk
    have hld := fun w' => hd.len (P := Try.prog) (ty := 3) Try.underlying25 w'
    have hlb := fun w' => ho2.slB.len (P := Try.prog) (ty := 3) Try.underlying25 w'
    have HB2 := hid hb02
    obtain ⟨xa, xn, xc, rfl⟩ := slB_shape hd
    obtain ⟨M, hM⟩ : ∃ M, M = (l.getD k default).data.length := ⟨_, rfl⟩
    rw [← hM] at hld
    have t2 : decide ((0 : Int) < 4 + (M : Int)) = true := by simp; omega
    clear HC ho2 hb2 hd hb02 hM
    by_cases hM0 : M = 0
    · have t3 : ((M : Int) == 0) = true := by simp [hM0]
      clear hM0
      go_wp2_with (first
        | (go_at_call 14; refine (bawake_any _).mono ?_; rintro e w9 ⟨rfl, hb9⟩)
        | (go_at_call 18; refine (bnumE_any _ _).mono ?_; rintro e w' ⟨rfl, rfl⟩))
      all_goals first
        | (exfalso; exact hn0 (by assumption))
        | (go_ret; exact ⟨rfl, HB2.out.trans (hb9.mono HB2.out.size)⟩)
    · have t3 : ((M : Int) == 0) = false := by simp [hM0]
      clear hM0
      go_wp2_with (first
        | (go_at_call 14; refine (bawake_any _).mono ?_; rintro e w9 ⟨rfl, hb9⟩)
        | (go_at_call 18; refine (bnumE_any _ _).mono ?_; rintro e w' ⟨rfl, rfl⟩))
      all_goals first
        | (exfalso; exact hn0 (by assumption))
        | (go_ret; exact ⟨rfl, HB2.out.trans (hb9.mono HB2.out.size)⟩)
  have hR : Bun.putR l = (bunB (l.map itm), 0) := by unfold Bun.putR; rw [if_pos hgd.1, if_neg (by omega)]
  rw [hR] at HC
  have HGd := hid (good_itm l hgd.1 hgd.2 hw)
  have hl16 := hgd.2
  have hsmall : ∀ k, k < l.length → (l.getD k default).data.length ≤ 50000 := fun k hk => by have := wt_at l k hk; omega
  clear hR hgd hw
  go_wp2_with fail
  refine HC.out.mono ?_
  rintro e w2 ⟨v2, rfl, ho2, hb2⟩
  have hb02 := HB1.out.trans (hb2.mono HB1.out.size)
  have H2 := hid (H.out.below hb02 (Nat.le_refl _))
  obtain ⟨b, o, dv, hbb, hia, i0, i1, hd⟩ := H2.out.at k hk
  have hld := fun w' => hd.len (P := Try.prog) (ty := 3) Try.underlying25 w'
  have hlb := fun w' => ho2.slB.len (P := Try.prog) (ty := 3) Try.underlying25 w'
  have hdl := hsmall k hk
  obtain ⟨da, hda⟩ : ∃ x, x = (l.getD k default).data := ⟨_, rfl⟩
  rw [← hda] at hd hld hdl
  obtain ⟨L, hL⟩ : ∃ x, x = (bunB (l.map itm)).length := ⟨_, rfl⟩
  rw [← hL] at hlb
  have HO2 := hid (And.intro ho2 hb02)
  have HDA := hid (And.intro hda hL)
  obtain ⟨xa, xn, xc, rfl⟩ := slB_shape hd
  have hLb : 4 + da.length ≤ L := by
    have h1 := from_mono (l.map itm) k (by simpa using hk)
    have h2 := pos_end (l.map itm) 0
    rw [pos_zero] at h2
    have h3 := end_len (l.map itm)
    have h4 : 4 ≤ from_ (l.map itm) k := by unfold from_; omega
    rw [itm_getD l k hk] at h1
    rw [hda, hL]
    show 4 + (l.getD k default).data.length ≤ _
    have h5 : (itm (l.getD k default)).data = (l.getD k default).data := rfl
    rw [h5] at h1
    omega
  have hLs : L ≤ 524288 := by rw [hL]; exact HGd.out.short
  clear HC ho2 hb2 hb02 hda hL hd
  by_cases hd0 : da.length = 0
  · have t1 : ((da.length : Int) == 0) = true := by simp [hd0]
    clear hd0
    go_wp2_with (first
      | (go_at_call 14; refine (bawake_any _).mono ?_; rintro e w9 ⟨rfl, hb9⟩)
      | (go_at_call 18; refine (bnumE_any _ _).mono ?_; rintro e w' ⟨rfl, rfl⟩))
    go_ret
    exact ⟨rfl, HO2.out.2.trans (hb9.mono HO2.out.2.size)⟩
  have t1 : ((da.length : Int) == 0) = false := by rw [beq_eq_false_iff_ne]; omega
  have t2 : decide ((L : Int) < 4 + (da.length : Int)) = false := by simp; omega
  go_wp2_with (go_at_call 18; refine (bnumE_any _ _).mono ?_; rintro e w' ⟨rfl, rfl⟩)
  have hk' : k < (l.map itm).length := by simpa using hk
  have hfm : ∀ j, j ≤ k → from_ (l.map itm) j ≤ 524288 := by
    intro j hj
    have h1 : from_ (l.map itm) j ≤ fromOf (l.map itm) := from_le (l.map itm) j
    have h2 := pos_end (l.map itm) 0
    rw [pos_zero] at h2
    have h3 := end_len (l.map itm)
    have h4 := HDA.out.2
    omega
  have HFM := hid hfm
  clear hfm
  go_loopw [12, 13] (fun f i wr => ∃ j : Nat, j ≤ k ∧ f = .int .i64 (from_ (l.map itm) j) ∧ i = .int .i64 j ∧ Below w2.heap.size w2 wr) (fun _ i _ => k - (intOf i).toNat)
  case atStart => exact ⟨0, by omega, rfl, rfl, Below.refl _ _⟩
  case round =>
    obtain ⟨j, hj, rfl, rfl, hbl⟩ := hrel
    by_cases hlt : j < k
    · obtain ⟨b2, o2, dv2, hbb2, hia2, j0, j1, hd2⟩ := (H2.out.below hbl (by have := HO2.out.2.size; omega)).at j (by omega)
      have hld2 := fun w' => hd2.len (P := Try.prog) (ty := 3) Try.underlying25 w'
      obtain ⟨ya, yn, yc, rfl⟩ := slB_shape hd2
      have HS := hid (from_succ (l.map itm) j (by simp; omega))
      have hle := HFM.out (j + 1) (by omega)
      rw [HS.out, itm_getD l j (by omega)] at hle
      have hle' : from_ (l.map itm) j + (l.getD j default).data.length ≤ 524288 := hle
      rw [itm_getD l j (by omega)] at HS
      have HS' : Hid (from_ (l.map itm) (j + 1) = from_ (l.map itm) j + (l.getD j default).data.length) := HS
      obtain ⟨F, hF⟩ : ∃ F, F = from_ (l.map itm) j := ⟨_, rfl⟩
      rw [← hF] at HS' hle' ⊢
      obtain ⟨M, hM⟩ : ∃ M, M = (l.getD j default).data.length := ⟨_, rfl⟩
      rw [← hM] at HS' hle' hld2
      have hwr : IntKind.i64.wrap ((F : Int) + (M : Int)) = (F : Int) + (M : Int) := IntWalk.i64_in _ (by omega)
      have HBL := hid hbl
      clear hF hM hle HS hbl hd2
      go_wp2_with fail
      go_roundw
      case rel => exact ⟨j + 1, by omega, by rw [HS'.out]; simp, by go_num, HBL.out⟩
      case measure => simp [intOf]; omega
    · obtain rfl : k = j := by omega
      clear hlt
      obtain ⟨i, hi, hidx2⟩ := Mx.idx at_ da.length (by omega)
      have hi2 : i < (l.getD k default).data.length := by rw [← HDA.out.1]; exact hi
      have hi3 : i < ((l.map itm).getD k default).data.length := by rw [itm_getD l k hk]; exact hi2
      have hTL : from_ (l.map itm) k + i < L := by
        have h1 := from_mono (l.map itm) k hk'
        have h2 := pos_end (l.map itm) 0
        rw [pos_zero] at h2
        have h3 := end_len (l.map itm)
        have h4 := HDA.out.2
        omega
      have HB12 := hid (byte_at12 (l.map itm) k i hk' hi3)
      obtain ⟨T, hT⟩ : ∃ T, T = from_ (l.map itm) k + i := ⟨_, rfl⟩
      have hwr : IntKind.i64.wrap ((from_ (l.map itm) k : Int) + (i : Int)) = (T : Int) := by rw [hT, IntWalk.i64_in _ (by omega)]; simp
      rw [← hT] at hTL HB12
      have HT := hid hT
      have HB2 := hid hbl
      have i1' : wr.cell? ⟨b, o + 1, none⟩ = some (.slice xa xn xc) := (hbl.cell (p := ⟨b, o + 1, none⟩) (by show b < _; have := HO2.out.2.size; omega)).trans i1
      have ho3 := HO2.out.1.below hbl fun q hq => HO2.out.1.lt q hq
      obtain ⟨F, hF⟩ : ∃ F, F = from_ (l.map itm) k := ⟨_, rfl⟩
      rw [← hF] at hwr ⊢
      have t3 : decide ((L : Int) ≤ (T : Int)) = false := by simp; omega
      obtain ⟨g, gc, hv2, hg1, hg2, hg3, hcell⟩ := ho3.at T (by rw [← HDA.out.2]; exact hTL)
      rw [← HDA.out.2] at hv2 hg2
      subst hv2
      obtain ⟨xx, hx⟩ : ∃ x, x = (bunB (l.map itm)).getD T 0 := ⟨_, rfl⟩
      rw [← hx] at hcell HB12
      have hfz := ho3.fz T
      obtain ⟨y', hy', hyn⟩ : ∃ y' : UInt8, (1 : Int) + (y.toNat : Int) % 255 = (y'.toNat : Int) ∧ y' ≠ 0 := by
        refine ⟨UInt8.ofNat (1 + y.toNat % 255), by rw [UInt8.toNat_ofNat']; omega, ?_⟩
        intro e
        have := congrArg UInt8.toNat e
        rw [UInt8.toNat_ofNat'] at this
        simp at this
        omega
      have hxo := xor_u8u8 xx y'
      obtain ⟨z, hz⟩ : ∃ z, z = xx ^^^ y' := ⟨_, rfl⟩
      rw [← hz] at hxo
      rw [← hy'] at hxo
      have hzx : z ≠ (l.getD k default).data.getD i 0 := by
        have h1 : xx = ((l.map itm).getD k default).data.getD i 0 := HB12.out
        rw [itm_getD l k hk] at h1
        have h2 : xx = (l.getD k default).data.getD i 0 := h1
        rw [← h2, hz]; exact xor_ne xx y' hyn
      have HBAD := hid (turn_bad l k i z hk hi2 hzx)
      have HTG := hid (turn_good (l.map itm) HGd.out k i z hk' hi3)
      have hset := (ho3.store T z).resolve_right (by rw [← HDA.out.2]; omega)
      rw [HT.out, ← turn_bun (l.map itm) k i z hk' hi3] at hset
      rw [← HT.out] at hset
      have hb5 := (HO2.out.2.trans (HB2.out.mono HO2.out.2.size)).setCell (p := ⟨g, T, none⟩) (Nat.le_trans HB1.out.size hg1) (Mx.u8 z)
      have HG5 := hid (bget_any _ HTG.out _ _ hset.slB)
      have HO5 := hid (And.intro hset.slB hb5)
      clear hzx hz hyn hy' hx hset hb5 hT hF hbl ho3 HB12
      go_wp2_with fail
      have hlk : (turnI (l.map itm) k i z).length = l.length := by rw [turn_len _ k i z hk']; simp
      refine HG5.out.mono ?_
      rintro e w6 ⟨hb6, hgr⟩
      have hgr' : e = .returned (.tuple #[.slice none 0 0, .int .i64 13]) := by
        rcases hgr with ⟨ho, _⟩ | ⟨_, h⟩
        · exact absurd (ho k (by rw [hlk]; exact hk)) HBAD.out
        · exact h
      subst hgr'
      have hb06 := HO5.out.2.trans (hb6.mono HO5.out.2.size)
      have hs6 := (HO5.out.1.below hb6 (Nat.le_refl _)).mono hb6.size
      obtain ⟨its, hits⟩ : ∃ its, its = turnI (l.map itm) k i z := ⟨_, rfl⟩
      have HNM := hid (turn_nm l k i z hk)
      have HEL := hid (turn_else l k i z hk)
      have HO6 := hid (And.intro hs6 hb06)
      rw [← hits] at HBAD HTG HO6 hlk HNM HEL
      have HLK := hid hlk
      clear HG5 HO5 hgr hb6 hits hb06 hs6 hlk hcell hfz hxo t3 hwr i1' hidx2 i0 i1 hia hld t1 t2 HFM hi hi2 hi3 hTL HT hg2 hg3
      go_wp2_with fail
      go_loopw [16] (fun j wq => ∃ q : Nat, q ≤ l.length ∧ j = .int .i64 q ∧ Below w6.heap.size w6 wq) (fun j _ => l.length - (intOf j).toNat)
      case atStart => exact ⟨0, by omega, rfl, Below.refl _ _⟩
      case round =>
        obtain ⟨q, hq, rfl, hbl⟩ := hrel
        have hs := (HO6.out.1.below hbl (Nat.le_refl _)).mono hbl.size
        have hz6 := HO6.out.2.size
        by_cases hlt : q < l.length
        · obtain ⟨b2, o2, dv, hbb2, hia2, j0, j1, hd⟩ := (H.out.below (HO6.out.2.trans (hbl.mono hz6)) (Nat.le_refl _)).at q hlt
          have HF := hid (bfind_any its HTG.out _ (l.getD q default).name wr hs)
          have HK := hid (fun (e : Ending) (w' : World) (hh : FRes its (l.getD q default).name e w') => fres_same HTG.out hh q (by rw [HLK.out]; exact hlt) (HNM.out q hlt))
          have hbz := hbl.size
          have HBL := hid hbl
          by_cases hqk : q = k
          · subst hqk
            obtain ⟨s, hs0⟩ : ∃ s, s = (l.getD q default).name := ⟨_, rfl⟩
            rw [← hs0] at j0 HF HK
            obtain ⟨dd, hdd⟩ : ∃ s, s = (l.getD q default).data := ⟨_, rfl⟩
            rw [← hdd] at hd
            clear hs hbl hs0 hdd
            go_wp2_with fail
            refine HF.out.mono ?_
            rintro e w7 ⟨hb7, hfr⟩
            have he : e = .returned (.tuple #[.slice none 0 0, .int .i64 13]) := by
              rcases HK.out e w7 hfr with ⟨h1, _⟩ | ⟨_, h⟩
              · exact absurd h1 HBAD.out
              · exact h
            subst he
            have hz7 := hb7.size
            have hc := slB_convs (SlB.nil w7 w7.heap.size)
            have hd7 := (hd.below hb7 (by omega)).mono (by omega : w.heap.size ≤ w7.heap.size)
            have hc' := slB_convs hd7
            obtain ⟨za, zn, zc, rfl⟩ := slB_shape hd7
            have M1 : ∀ w', Below w7.heap.size w7 w' → w'.cell? ⟨b2, o2 + 1, none⟩ = some (.slice za zn zc) := fun w' h => (h.cell (p := ⟨b2, o2 + 1, none⟩) (by show b2 < _; omega)).trans ((hb7.cell (p := ⟨b2, o2 + 1, none⟩) (by show b2 < _; omega)).trans j1)
            have m1 := M1 w7 (Below.refl _ _)
            replace hc := fun n => hc (w7.drewN n) (below_drewN (Below.refl _ _) n)
            replace hc' := fun n => hc' (w7.drewN n) (below_drewN (Below.refl _ _) n)
            clear M1
            have HB7 := hid (HBL.out.trans (hb7.mono hbz))
            clear hfr hb7 hd hd7 j0 j1
            go_wp2_with fail
            go_quiet ((go_at_call 18; exact Calls.quiet_of_same (bnum_q _ _)))
            clear m1 hc hc'
            go_wp2_with fail
            go_roundw
            case rel => exact ⟨q + 1, by omega, by go_num, below_drewN HB7.out _⟩
            case measure => simp [intOf]; omega
          · have tq : ((q : Int) == (k : Int)) = false := by rw [beq_eq_false_iff_ne]; omega
            have tqi : ¬ ((q : Int) = (k : Int)) := by omega
            have hel := HEL.out q hlt hqk
            rw [hel] at HK
            obtain ⟨p, hp⟩ : ∃ p, p = l.getD q default := ⟨_, rfl⟩
            rw [← hp] at j0 hd HF HK
            obtain ⟨s, dd⟩ := p
            simp only at j0 hd HF
            have HK' : Hid (∀ (e : Ending) (w' : World), FRes its s e w' → ((sum dd).toNat = (sum dd).toNat ∧ ∃ v, e = .returned (.tuple #[v, .int .i64 0]) ∧ SlB w' w'.heap.size v dd) ∨ ((sum dd).toNat ≠ (sum dd).toNat ∧ e = .returned (.tuple #[.slice none 0 0, .int .i64 13]))) := HK
            clear hs hbl hp hel HK
            go_wp2_with fail
            refine HF.out.mono ?_
            rintro e w7 ⟨hb7, hfr⟩
            obtain ⟨v4, rfl, hv4⟩ : ∃ v, e = .returned (.tuple #[v, .int .i64 0]) ∧ SlB w7 w7.heap.size v dd := by
              rcases HK'.out e w7 hfr with ⟨_, h⟩ | ⟨h, _⟩
              · exact h
              · exact absurd rfl h
            obtain ⟨ya, yn, yc, rfl⟩ := slB_shape hv4
            have hz7 := hb7.size
            have hc := slB_convs hv4
            have hd7 := (hd.below hb7 (by omega)).mono (by omega : w.heap.size ≤ w7.heap.size)
            have hc' := slB_convs hd7
            obtain ⟨za, zn, zc, rfl⟩ := slB_shape hd7
            have M1 : ∀ w', Below w7.heap.size w7 w' → w'.cell? ⟨b2, o2 + 1, none⟩ = some (.slice za zn zc) := fun w' h => (h.cell (p := ⟨b2, o2 + 1, none⟩) (by show b2 < _; omega)).trans ((hb7.cell (p := ⟨b2, o2 + 1, none⟩) (by show b2 < _; omega)).trans j1)
            have m1 := M1 w7 (Below.refl _ _)
            replace hc := fun n => hc (w7.drewN n) (below_drewN (Below.refl _ _) n)
            replace hc' := fun n => hc' (w7.drewN n) (below_drewN (Below.refl _ _) n)
            clear M1
            have HB7 := hid (HBL.out.trans (hb7.mono hbz))
            clear hfr hb7 hd hd7 hv4 j0 j1
            go_wp2_with fail
            go_quiet ((go_at_call 18; exact Calls.quiet_of_same (bnum_q _ _)))
            clear m1 hc hc'
            go_wp2_with fail
            go_roundw
            case rel => exact ⟨q + 1, by omega, by go_num, below_drewN HB7.out _⟩
            case measure => simp [intOf]; omega
        · obtain rfl : q = l.length := by omega
          have HBL := hid (HO6.out.2.trans (hbl.mono hz6))
          clear hs hbl
          go_wp2_with (first
            | (go_at_call 14; refine (bawake_any _).mono ?_; rintro e w9 ⟨rfl, hb9⟩)
            | (go_at_call 18; refine (bnumE_any _ _).mono ?_; rintro e w' ⟨rfl, rfl⟩))
          go_ret
          exact ⟨rfl, HBL.out.trans (hb9.mono HBL.out.size)⟩
end Go.Proofs.Ytoccgpddmhhlgaa
