import Derived.Test.YtoccgpddmhhlgaaBF
import Derived.Test.YtoccgpddmhhlgaaK
namespace Go.Proofs.Ytoccgpddmhhlgaa
open Go.RowKit Go.Mx Go.Crc Go.Str Go.Bun
set_option linter.unusedSimpArgs false
set_option linter.unusedVariables false

theorem rSum' (bs : List UInt8) (bv : Value) (w0 w : World) (h0 : Below w0.heap.size w0 w) (hb : SlB w w.heap.size bv bs) (hlen : bs.length ≤ 1000000000) :
    Calls Try.prog 40 #[bv] w fun e w' => e = .returned (.int .u32 (sum bs).toNat) ∧ w = w' := rsum_any bs bv w hb hlen

set_option maxRecDepth 100000 in
set_option maxHeartbeats 4000000 in
theorem rput_any' (l : List Prt) (lv : Value) (w : World) (h : SlPt w w.heap.size lv l) (hw : wt l ≤ 50000) :
    Calls Try.prog 16 #[lv] w fun e w' => ∃ v, e = .returned (.tuple #[v, .int .i64 (Bun.putR l).2]) ∧ SlB w' w'.heap.size v (Bun.putR l).1 ∧ Below w.heap.size w w' := by
  have hll : l.length ≤ 50000 := by unfold wt at hw; omega
  have hlen := fun w' => h.lenR (ty := 3) w'
  have HN := hid (rrise_any l lv w h)
  have H := hid h
  clear h
  cases hr : rise (names l)
  · have e : Bun.putR l = ([], 1) := by unfold Bun.putR; rw [hr]; rfl
    rw [e]
    rw [hr] at HN
    clear e hr
    go_enter Try.func16, Try.ntmps16
    go_wp2_with fail
    refine HN.out.mono ?_
    rintro e w2 ⟨rfl, hb2⟩
    go_wp2
    go_ret2
    exact ⟨_, rfl, SlB.nil _ _, hb2⟩
  rw [hr] at HN
  have HRR := hid hr
  clear hr
  by_cases h16 : 16 < l.length
  · have e : Bun.putR l = ([], 9) := by unfold Bun.putR; rw [HRR.out, if_pos rfl, if_pos h16]
    rw [e]
    clear e
    go_enter Try.func16, Try.ntmps16
    go_wp2_with fail
    refine HN.out.mono ?_
    rintro e w2 ⟨rfl, hb2⟩
    go_wp2
    go_ret2
    exact ⟨_, rfl, SlB.nil _ _, hb2⟩
  have e : Bun.putR l = (bunB (l.map itm), 0) := by unfold Bun.putR; rw [HRR.out, if_pos rfl, if_neg h16]
  rw [e]
  clear e
  go_enter Try.func16, Try.ntmps16
  go_wp2_with fail
  refine HN.out.mono ?_
  rintro e w2 ⟨rfl, hb2⟩
  have kc1 := Lib.run_convert_bytes_const (P := Try.prog) w2 25 5 #[.int .u8 77, .int .u8 66, .int .u8 68, .int .u8 76] 4 4 Try.underlying25 Try.underlying5
  have hm : AppB (w2.alloc (.cells #[.int .u8 77, .int .u8 66, .int .u8 68, .int .u8 76] 5 (4, 5))) w.heap.size 5 (.slice (some ⟨w2.heap.size, 0, none⟩) 4 4) Bun.mark := by
    refine .inr ⟨⟨_, rfl⟩, by simp [Bun.mark], ?_⟩
    have := sl_litm w2 Bun.mark 5 (4, 5) (by simp [Bun.mark, maxLen])
    exact this.mono (by simp)
  have hbm := hb2.alloc hb2.size (.cells #[.int .u8 77, .int .u8 66, .int .u8 68, .int .u8 76] 5 (4, 5))
  have HM := hid (And.intro hm hbm)
  clear HN hb2 hm hbm
  go_wp2_with fail
  obtain ⟨W, hW⟩ : ∃ W, W = w2.alloc (.cells #[.int .u8 77, .int .u8 66, .int .u8 68, .int .u8 76] 5 (4, 5)) := ⟨_, rfl⟩
  obtain ⟨mv, hmv⟩ : ∃ mv, mv = Value.slice (some ⟨w2.heap.size, 0, none⟩) 4 4 := ⟨_, rfl⟩
  rw [← hW, ← hmv] at HM
  rw [← hW, ← hmv]
  obtain ⟨ma, mn, mc, rfl⟩ := HM.out.1.shape
  clear hmv hW kc1
  go_loopw [4, 5, 6] (fun b ix i wr => ∃ k : Nat, k ≤ l.length ∧ i = .int .i64 k ∧ AppB wr w.heap.size 5 b (Bun.mark ++ dat ((l.map itm).take k)) ∧ SlB wr wr.heap.size ix (idxB 4 ((l.map itm).take k)) ∧ Below w.heap.size w wr) (fun _ _ i _ => l.length - (intOf i).toNat)
  case atStart => exact ⟨0, by omega, rfl, by simpa [dat] using HM.out.1, by simpa [idxB] using SlB.nil _ _, HM.out.2⟩
  case round =>
    obtain ⟨k, hk, rfl, hab, hix, hbl⟩ := hrel
    clear HM
    by_cases hlt : k < l.length
    · obtain ⟨b, o, dv, hb, hia, c0, c1, hs⟩ := (H.out.below hbl (Nat.le_refl _)).atR k hlt
      have hdl := wt_at l k hlt
      have hpl := pos_le l k
      have hil := ix_le l k
      have HPE := hid (pos_eq (l.map itm) k)
      have HPS := hid (pos_succ (l.map itm) k (by simpa using hlt))
      have HIS := hid (idx_succ (l.map itm) k (by simpa using hlt))
      have HIT := hid (itm_at l k hlt)
      obtain ⟨p, hp⟩ : ∃ p, p = l.getD k default := ⟨_, rfl⟩
      rw [← hp] at c0 hs hdl HIT
      clear hp
      obtain ⟨pos, hpos⟩ : ∃ x, x = Bun.mark ++ dat ((l.map itm).take k) := ⟨_, rfl⟩
      obtain ⟨idx, hidx⟩ : ∃ x, x = idxB 4 ((l.map itm).take k) := ⟨_, rfl⟩
      rw [← hpos] at hab hpl HPE HPS
      rw [← hidx] at hix hil HIS
      clear hpos hidx
      obtain ⟨nm, da⟩ := p
      simp only at c0 hs hdl
      obtain ⟨oa, nn, cp, rfl⟩ := slB_shape hs
      obtain ⟨ba, bn, bc, rfl⟩ := hab.shape
      have hld := fun w' => hs.len (P := Try.prog) (ty := 3) Try.underlying25 w'
      have hlb := fun w' => hab.slB.len (P := Try.prog) (ty := 3) Try.underlying25 w'
      have hbw : b < wr.heap.size := by have := hbl.size; omega
      have f1 : ∀ w', Below wr.heap.size wr w' → w'.cell? ⟨b, o + 1, none⟩ = some (.slice oa nn cp) := fun w' hb => (hb.cell (p := ⟨b, o + 1, none⟩) hbw).trans c1
      have HT := hid (rtext_any idx u5 nm wr hix (by omega) (by omega))
      have HW1 := hid (And.intro (Below.refl wr.heap.size wr) (And.intro hab (And.intro hs hbl)))
      have hal := hab.lt
      have HAL := hid hal
      clear hal hab hs hbl hix
      go_wp2_with fail
      refine HT.out.mono ?_
      rintro e w4 ⟨iv, rfl, ho4, hb4⟩
      have F1 : ∀ w', Below w4.heap.size w4 w' → w'.cell? ⟨b, o + 1, none⟩ = some (.slice oa nn cp) := fun w' hb => f1 w' (hb4.trans (hb.mono hb4.size))
      have HD := hid (HW1.out.2.2.1.mono HW1.out.2.2.2.size)
      have HD4 := hid (((HD.out.below hb4 (Nat.le_refl _)).mono hb4.size))
      have ho4s := ho4.slB
      obtain ⟨i4, hi4⟩ : ∃ x, x = idx ++ (le 2 nm.length ++ nm) := ⟨_, rfl⟩
      have hi4l : i4.length ≤ 800000 := by rw [hi4]; simp [le_length]; omega
      rw [← hi4] at ho4s
      have HI4 := hid hi4
      have HB4 := hid hb4
      have HO4 := hid ho4s
      have hsm : (sum da).toNat < 256 ^ 4 := (sum da).isLt
      have hsm' : (sum da).toNat < 4294967296 := hsm
      have hws : IntKind.i64.wrap ((sum da).toNat : Int) = ((sum da).toNat : Int) := IntWalk.i64_in _ (by omega)
      clear HT ho4 hb4 ho4s hi4 f1 c0 c1 HD
      go_wp2_with fail
      go_region_held3 (fun w' => Below w4.heap.size w4 w') (first | exact (Below.refl _ _).drew | assumption | exact Below.drew (by assumption))
        (first
          | (go_at_call 40; refine (rsum_any da _ _ ((HD4.out.below (by assumption) (Nat.le_refl _)).mono (Below.size (by assumption))) (by omega)).mono ?_; rintro e w9 ⟨rfl, rfl⟩)
          | (go_at_call 39; refine (rNum' _ v6 4 (sum da).toNat _ _ w4 _ (by assumption) rfl rfl ho6.slB (by simp [le_length]; omega) (by omega) (by omega) hsm).mono ?_; rintro e w7 ⟨v7, rfl, ho7, hb7⟩)
          | (go_at_call 39; refine (rNum' _ v5 4 da.length _ _ w4 _ (by assumption) rfl rfl ho5.slB (by simp [le_length]; omega) (by omega) (by omega) (by omega)).mono ?_; rintro e w6 ⟨v6, rfl, ho6, hb6⟩)
          | (go_at_call 39; refine (rNum' i4 _ 4 pos.length _ _ w4 _ (by assumption) rfl rfl ((HO4.out.below (by assumption) (Nat.le_refl _)).mono (Below.size (by assumption))) (by omega) (by omega) (by omega) (by omega)).mono ?_; rintro e w5 ⟨v5, rfl, ho5, hb5⟩))
      rw [row_fold pos.length nm da i4 idx HI4.out, HPE.out, ← HIT.out, ← HIS.out] at ho7
      have hb47 := HB4.out.trans (hb7.mono HB4.out.size)
      have hbr7 := HW1.out.1.trans (hb47.mono HW1.out.1.size)
      have ha7 := HW1.out.2.1.below hbr7
      have hd7 := (HD4.out.below hb7 (Nat.le_refl _)).mono hb7.size
      have hbl7 := HW1.out.2.2.2.trans (hbr7.mono HW1.out.2.2.2.size)
      have G1 := F1 w7 hb7
      have hge := fun k hk => (World.ownsRow.lt ho7 k hk).1
      have hlt4 := HB4.out.size
      have HO7 := hid (And.intro ho7 (And.intro hbl7 (And.intro hge hb7)))
      have hbz7 := hbl7.size
      clear ho5 hb5 ho6 hb6 ho7 hb7 hb47 hbr7 hge hbl7 F1 HD4 HB4 HO4 HI4 hws hsm hsm'
      go_wp2_with (at_builtin; refine append_app _ rfl _ _ 25 5 rfl Try.underlying25 Try.info5 w.heap.size _ pos rfl ha7 _ da _ rfl hd7 (by omega) hbz7 ?_)
      intro v8 w8 ha8 _ hk8 hb8
      have ha8' : AppB w8 w.heap.size 5 v8 (Bun.mark ++ dat ((l.map itm).take (k + 1))) := by rw [HPS.out, HIT.out]; exact ha8
      have hi8 := (OwnB.kept HO7.out.1 hk8 fun j hj hj2 => by have := HO7.out.2.2.1 j hj; have := HAL.out j hj2; omega).slB
      have hbl8 := HO7.out.2.1.trans hb8
      clear ha8 hk8 hb8 ha7 hd7 G1
      go_wp2
      go_roundw
      case rel => exact ⟨k + 1, by omega, by go_num, ha8', hi8, hbl8⟩
      case measure => simp [intOf]; omega
    · obtain rfl : k = l.length := by omega
      have hpl := pos_le l l.length
      have hil := ix_le l l.length
      have HPE := hid (pos_eq (l.map itm) l.length)
      obtain ⟨pos, hpos⟩ : ∃ x, x = Bun.mark ++ dat ((l.map itm).take l.length) := ⟨_, rfl⟩
      obtain ⟨idx, hidx⟩ : ∃ x, x = idxB 4 ((l.map itm).take l.length) := ⟨_, rfl⟩
      rw [← hpos] at hab hpl HPE
      rw [← hidx] at hix hil
      have HP := hid (And.intro hpos hidx)
      clear hpos hidx
      obtain ⟨ba, bn, bc, rfl⟩ := hab.shape
      have hlb := fun w' => hab.slB.len (P := Try.prog) (ty := 3) Try.underlying25 w'
      have HAB := hid (And.intro hab (And.intro hix hbl))
      clear hab hix hbl
      have hal := HAB.out.1.lt
      have HAL := hid hal
      clear hal
      go_wp2_with (first
        | (at_builtin; refine append_app _ rfl _ _ 25 5 rfl Try.underlying25 Try.info5 w.heap.size _ pos rfl (HAB.out.1.below hb6) _ (idx ++ le 4 pos.length ++ le 2 l.length) _ rfl ho6.slB (by simp [le_length]; omega) (HAB.out.2.2.trans (hb6.mono HAB.out.2.2.size)).size ?_; intro v8 w8 ha8 hown8 hk8 hb8)
        | (go_at_call 39; refine (rNum' _ v5 2 l.length _ _ wr _ (by assumption) rfl rfl ho5.slB (by simp [le_length]; omega) (by omega) (by omega) (by omega)).mono ?_; rintro e w6 ⟨v6, rfl, ho6, hb6⟩)
        | (go_at_call 39; refine (rNum' idx _ 4 pos.length _ _ wr _ (Below.refl _ _) rfl rfl HAB.out.2.1 (by omega) (by omega) (by omega) (by omega)).mono ?_; rintro e w5 ⟨v5, rfl, ho5, hb5⟩))
      clear ho5 hb5
      have ho8 := OwnB.kept ho6 hk8 fun j hj hj2 => by have := (World.ownsRow.lt ho6 j hj).1; have := HAL.out j hj2; omega
      have hbl8 := (HAB.out.2.2.trans (hb6.mono HAB.out.2.2.size)).trans hb8
      have htl : (idx ++ le 4 pos.length ++ le 2 l.length).length = idx.length + 6 := by simp [le_length]
      obtain ⟨tl, htl'⟩ : ∃ x, x = idx ++ le 4 pos.length ++ le 2 l.length := ⟨_, rfl⟩
      rw [← htl'] at ho8 htl ha8
      have HTL := hid (And.intro htl' htl)
      clear htl' htl hk8 hb8 ho6 hb6 hown8
      have hsm : (sum tl).toNat < 256 ^ 4 := (sum tl).isLt
      have hsm' : (sum tl).toNat < 4294967296 := hsm
      have hws : IntKind.i64.wrap ((sum tl).toNat : Int) = ((sum tl).toNat : Int) := IntWalk.i64_in _ (by omega)
      have hps : (pos ++ tl).length ≤ 700000 := by have := HTL.out.2; simp; omega
      have HC := hid (rsum_any tl v6 _ ho8.slB (by have := HTL.out.2; omega))
      have HA8 := hid (And.intro ha8 hbl8)
      clear ha8 ho8 hbl8
      obtain ⟨va, vn, vc, rfl⟩ := HA8.out.1.shape
      go_wp2_with fail
      refine HC.out.mono ?_
      rintro e w9 ⟨rfl, rfl⟩
      have HN9 := hid (rNum' (pos ++ tl) _ 4 (sum tl).toNat _ _ _ _ (Below.refl _ _) rfl rfl HA8.out.1.slB (by omega) (by omega) (by omega) hsm)
      clear HC
      go_wp2_with fail
      refine HN9.out.mono ?_
      rintro e w10 ⟨v10, rfl, ho10, hb10⟩
      have hlf := fun w' => ho10.slB.len (P := Try.prog) (ty := 3) Try.underlying25 w'
      have hbun : bunB (l.map itm) = pos ++ tl ++ le 4 (sum tl).toNat := by
        have e1 : (l.map itm).take l.length = l.map itm := List.take_of_length_le (by simp)
        have hp := HP.out
        rw [e1] at hp
        have e2 : tailB (l.map itm) = tl := by
          rw [HTL.out.1, HP.out.2]
          have e3 : pos.length = 4 + (dat (l.map itm)).length := by rw [hp.1]; simp [Bun.mark]; omega
          rw [e3, e1]; simp [tailB, List.append_assoc]
        unfold bunB
        rw [e2, hp.1]; simp [List.append_assoc]
      have hfl : (pos ++ tl ++ le 4 (sum tl).toNat).length ≤ 524288 := by
        have := HTL.out.2; simp [le_length]; omega
      have hos := ho10.slB
      rw [← hbun] at hos
      obtain ⟨tot, htot⟩ : ∃ x, x = (pos ++ tl ++ le 4 (sum tl).toNat).length := ⟨_, rfl⟩
      rw [← htot] at hlf hfl
      have HO := hid (And.intro hos (HA8.out.2.trans (hb10.mono HA8.out.2.size)))
      clear htot hos hbun ho10 hb10 HN9 HA8 hws hsm hsm'
      go_wp2
      go_ret2
      exact ⟨_, rfl, HO.out.1, HO.out.2⟩
end Go.Proofs.Ytoccgpddmhhlgaa
