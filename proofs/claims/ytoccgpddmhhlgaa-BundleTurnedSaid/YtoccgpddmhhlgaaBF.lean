import Derived.Test.YtoccgpddmhhlgaaBE
import Derived.Test.YtoccgpddmhhlgaaM8
import Derived.Test.YtoccgpddmhhlgaaJ
import Derived.Deep.RegionHeld3
namespace Go.Bun
open Go.Crc Go.Str
set_option linter.unusedSimpArgs false
set_option linter.unusedVariables false
theorem map_take (l : List Prt) (k : Nat) : (l.map itm).take k = (l.take k).map itm := by rw [List.map_take]
theorem itm_at (l : List Prt) (k : Nat) (hk : k < l.length) : (l.map itm).getD k default = itm (l.getD k default) := by
  simp [List.getD_eq_getElem?_getD, List.getElem?_map, List.getElem?_eq_getElem hk]
theorem wt_le (l : List Prt) (k : Nat) : wt (l.take k) ≤ wt l := by
  have h : wt l = wt (l.take k) + wt (l.drop k) := by
    conv => lhs; rw [← List.take_append_drop k l]
    unfold wt; simp only [List.length_append, List.flatMap_append]; omega
  omega
theorem wt_at (l : List Prt) (k : Nat) (hk : k < l.length) : (l.getD k default).data.length + (l.getD k default).name.length ≤ wt l := by
  have h1 := wt_take l k hk
  have h2 := wt_le l (k + 1)
  omega
theorem pos_le (l : List Prt) (k : Nat) : (mark ++ dat ((l.map itm).take k)).length ≤ 4 + wt l := by
  have h := wt_le l k
  rw [map_take, List.length_append, dat_map]
  unfold wt at h ⊢
  simp only [mark, List.length_cons, List.length_nil]
  omega
theorem ix_le (l : List Prt) (k : Nat) : (idxB 4 ((l.map itm).take k)).length ≤ 14 * l.length + wt l := by
  have h := wt_le l k
  rw [map_take, idx_len, List.flatMap_map]
  show 14 * ((l.take k).map itm).length + ((l.take k).flatMap (·.name)).length ≤ _
  rw [List.length_map]
  have h3 : (l.take k).length ≤ l.length := List.length_take_le' _ _
  unfold wt at h ⊢
  omega
theorem pos_eq (l : List Itm) (k : Nat) : (mark ++ dat (l.take k)).length = from_ l k := by simp [mark, from_]; omega
theorem pos_succ (l : List Itm) (k : Nat) (hk : k < l.length) : mark ++ dat (l.take (k + 1)) = (mark ++ dat (l.take k)) ++ (l.getD k default).data := by
  rw [dat_succ l k hk, List.append_assoc]
theorem row_fold (a : Nat) (nm da i4 idx : List UInt8) (h : i4 = idx ++ (le 2 nm.length ++ nm)) : ((i4 ++ le 4 a) ++ le 4 da.length) ++ le 4 (sum da).toNat = idx ++ rowB a (itm ⟨nm, da⟩) := by
  rw [h]; simp [rowB, itm, List.append_assoc]
end Go.Bun
namespace Go.Proofs.Ytoccgpddmhhlgaa
open Go.RowKit Go.Mx Go.Crc Go.Str Go.Bun
set_option linter.unusedSimpArgs false
set_option linter.unusedVariables false

theorem bNum' (bs : List UInt8) (bv : Value) (n x : Nat) (N X : Int) (w0 w : World) (h0 : Below w0.heap.size w0 w) (hN : N = (n : Int)) (hX : X = (x : Int)) (hb : SlB w w.heap.size bv bs) (hlen : bs.length ≤ 1000000000) (h1 : 1 ≤ n) (h4 : n ≤ 4) (hv : x < 256 ^ n) :
    Calls Try.prog 33 #[bv, .int .i64 N, .int .i64 X] w fun e w' => ∃ ov, e = .returned ov ∧ OwnB w' w0.heap.size 5 ov (bs ++ le n x) ∧ Below w0.heap.size w0 w' := by
  subst hX hN
  refine (bnum_any bs bv n x w hb hlen h1 h4 hv).mono ?_
  rintro e w' ⟨ov, rfl, ho, hb⟩
  exact ⟨ov, rfl, ho.any_base h0.size, h0.trans (hb.mono h0.size)⟩
def KeepO (w w' : World) : Prop := ∀ base v bs, OwnB w base 5 v bs → OwnB w' base 5 v bs
theorem KeepO.of {w w' : World} (hb : Below w.heap.size w w') : KeepO w w' := fun _ _ _ h => h.below hb h.lt
theorem bSum' (bs : List UInt8) (bv : Value) (w0 w : World) (h0 : Below w0.heap.size w0 w) (hb : SlB w w.heap.size bv bs) (hlen : bs.length ≤ 1000000000) :
    Calls Try.prog 36 #[bv] w fun e w' => e = .returned (.int .u32 (sum bs).toNat) ∧ Below w0.heap.size w0 w' ∧ KeepO w w' := by
  refine (sum_any bs bv w hb hlen).mono ?_
  rintro e w' ⟨rfl, hb⟩
  exact ⟨rfl, h0.trans (hb.mono h0.size), KeepO.of hb⟩

set_option maxRecDepth 100000 in
set_option maxHeartbeats 4000000 in
theorem bput_any (l : List Prt) (lv : Value) (w : World) (h : SlPt w w.heap.size lv l) (hw : wt l ≤ 50000) :
    Calls Try.prog 15 #[lv] w fun e w' => ∃ v, e = .returned (.tuple #[v, .int .i64 (Bun.putR l).2]) ∧ OwnB w' w.heap.size 5 v (Bun.putR l).1 ∧ Below w.heap.size w w' := by
  have hll : l.length ≤ 50000 := by unfold wt at hw; omega
  have hlen := fun w' => h.len (ty := 3) w'
  have H := hid h
  have HN := hid (named_any l lv w h (by omega))
  clear h
  cases hr : rise (names l)
  · have e : Bun.putR l = ([], 1) := by unfold Bun.putR; rw [hr]; rfl
    rw [e]
    clear e
    go_enter Try.func15, Try.ntmps15
    go_wp2_with fail
    refine HN.out.mono ?_
    rintro e w2 ⟨nv, rfl, hs, hb2⟩
    have HC := hid (bright_any (names l) nv w2 hs)
    rw [hr] at HC
    clear hr
    go_wp2_with fail
    refine HC.out.mono ?_
    rintro e w3 ⟨rfl, rfl⟩
    go_wp2
    go_ret2
    exact ⟨_, rfl, OwnB.nil _ _ _, hb2⟩
  have HRR := hid hr
  clear hr
  by_cases h16 : 16 < l.length
  · have e : Bun.putR l = ([], 9) := by unfold Bun.putR; rw [HRR.out, if_pos rfl, if_pos h16]
    rw [e]
    clear e
    go_enter Try.func15, Try.ntmps15
    go_wp2_with fail
    refine HN.out.mono ?_
    rintro e w2 ⟨nv, rfl, hs, hb2⟩
    have HC := hid (bright_any (names l) nv w2 hs)
    rw [HRR.out] at HC
    go_wp2_with fail
    refine HC.out.mono ?_
    rintro e w3 ⟨rfl, rfl⟩
    go_wp2
    go_ret2
    exact ⟨_, rfl, OwnB.nil _ _ _, hb2⟩
  have e : Bun.putR l = (bunB (l.map itm), 0) := by unfold Bun.putR; rw [HRR.out, if_pos rfl, if_neg h16]
  rw [e]
  clear e
  go_enter Try.func15, Try.ntmps15
  go_wp2_with fail
  refine HN.out.mono ?_
  rintro e w2 ⟨nv, rfl, hs, hb2⟩
  have HC := hid (bright_any (names l) nv w2 hs)
  rw [HRR.out] at HC
  go_wp2_with fail
  refine HC.out.mono ?_
  rintro e w3 ⟨rfl, rfl⟩
  have kc1 := Lib.run_convert_bytes_const (P := Try.prog) w2 25 5 #[.int .u8 77, .int .u8 66, .int .u8 68, .int .u8 76] 4 4 Try.underlying25 Try.underlying5
  have hm : AppB (w2.alloc (.cells #[.int .u8 77, .int .u8 66, .int .u8 68, .int .u8 76] 5 (4, 5))) w.heap.size 5 (.slice (some ⟨w2.heap.size, 0, none⟩) 4 4) Bun.mark := by
    refine .inr ⟨⟨_, rfl⟩, by simp [Bun.mark], ?_⟩
    have := sl_litm w2 Bun.mark 5 (4, 5) (by simp [Bun.mark, maxLen])
    exact this.mono (by simp)
  have hbm := hb2.alloc hb2.size (.cells #[.int .u8 77, .int .u8 66, .int .u8 68, .int .u8 76] 5 (4, 5))
  have HM := hid (And.intro hm hbm)
  clear HN HC hs hb2 hm hbm
  go_wp2_with fail
  obtain ⟨W, hW⟩ : ∃ W, W = w2.alloc (.cells #[.int .u8 77, .int .u8 66, .int .u8 68, .int .u8 76] 5 (4, 5)) := ⟨_, rfl⟩
  obtain ⟨mv, hmv⟩ : ∃ mv, mv = Value.slice (some ⟨w2.heap.size, 0, none⟩) 4 4 := ⟨_, rfl⟩
  rw [← hW, ← hmv] at HM
  rw [← hW, ← hmv]
  obtain ⟨ma, mn, mc, rfl⟩ := HM.out.1.shape
  clear hmv hW kc1
  go_loopw [4, 5, 23] (fun b ix i wr => ∃ k : Nat, k ≤ l.length ∧ i = .int .i64 k ∧ AppB wr w.heap.size 5 b (Bun.mark ++ dat ((l.map itm).take k)) ∧ SlB wr wr.heap.size ix (idxB 4 ((l.map itm).take k)) ∧ Below w.heap.size w wr) (fun _ _ i _ => l.length - (intOf i).toNat)
  case atStart => exact ⟨0, by omega, rfl, by simpa [dat] using HM.out.1, by simpa [idxB] using SlB.nil _ _, HM.out.2⟩
  case round =>
    obtain ⟨k, hk, rfl, hab, hix, hbl⟩ := hrel
    clear HM
    by_cases hlt : k < l.length
    · obtain ⟨b, o, dv, hb, hia, c0, c1, hs⟩ := (H.out.below hbl (Nat.le_refl _)).at k hlt
      have hdl := wt_at l k hlt
      have hpl := pos_le l k
      have hil := ix_le l k
      have HPE := hid (pos_eq (l.map itm) k)
      have HPS := hid (pos_succ (l.map itm) k (by simpa using hlt))
      have HIS := hid (idx_succ (l.map itm) k (by simpa using hlt))
      have HIT := hid (itm_at l k hlt)
      obtain ⟨p, hp⟩ : ∃ p, p = l.getD k default := ⟨_, rfl⟩
      rw [← hp] at c0 hs hdl HIT
      clear hp
      obtain ⟨pos, hpos⟩ : ∃ x, x = Bun.mark ++ dat ((l.map itm).take k) := ⟨_, rfl⟩
      obtain ⟨idx, hidx⟩ : ∃ x, x = idxB 4 ((l.map itm).take k) := ⟨_, rfl⟩
      rw [← hpos] at hab hpl HPE HPS
      rw [← hidx] at hix hil HIS
      clear hpos hidx
      obtain ⟨nm, da⟩ := p
      simp only at c0 hs hdl
      obtain ⟨oa, nn, cp, rfl⟩ := slB_shape hs
      obtain ⟨ba, bn, bc, rfl⟩ := hab.shape
      have hld := fun w' => hs.len (P := Try.prog) (ty := 3) Try.underlying25 w'
      have hlb := fun w' => hab.slB.len (P := Try.prog) (ty := 3) Try.underlying25 w'
      obtain ⟨w1, hw1⟩ : ∃ w1, w1 = wr.alloc (.cells #[.string ⟨nm.toArray⟩, .slice oa nn cp] 35) := ⟨_, rfl⟩
      have hbw1 : Below wr.heap.size wr w1 := by rw [hw1]; exact (Below.refl _ _).alloc (Nat.le_refl _) _
      have hq : w1.heap[wr.heap.size]? = some (.cells #[.string ⟨nm.toArray⟩, .slice oa nn cp] 35 (0, 0)) := by rw [hw1]; exact alloc_new wr _
      have hql : wr.heap.size < w1.heap.size := (Array.getElem?_eq_some_iff.1 hq).1
      have g0 : (wr.alloc (.cells #[.string ⟨nm.toArray⟩, .slice oa nn cp] 35)).cell? ⟨wr.heap.size, 0, none⟩ = some (.string ⟨nm.toArray⟩) := by rw [← hw1]; simp [World.cell?, hq]
      have g1 : (wr.alloc (.cells #[.string ⟨nm.toArray⟩, .slice oa nn cp] 35)).cell? ⟨wr.heap.size, 1, none⟩ = some (.slice oa nn cp) := by rw [← hw1]; simp [World.cell?, hq]
      have f1 : ∀ w', Below w1.heap.size w1 w' → w'.cell? ⟨wr.heap.size, 1, none⟩ = some (.slice oa nn cp) := fun w' hb => (hb.cell (p := ⟨wr.heap.size, 1, none⟩) hql).trans (by simp [World.cell?, hq])
      have HT := hid (text_any idx u5 nm w1 ((hix.below hbw1 (Nat.le_refl _)).mono hbw1.size) (by omega) (by omega))
      have HW1 := hid (And.intro hbw1 (And.intro hab (And.intro hs hbl)))
      have hal := hab.lt
      have HAL := hid hal
      clear hal hbw1 hab hs hbl hix hq
      go_wp2_with fail
      rw [← hw1]
      clear hw1 g0 g1
      refine HT.out.mono ?_
      rintro e w4 ⟨iv, rfl, ho4, hb4⟩
      have F1 : ∀ w', Below w4.heap.size w4 w' → w'.cell? ⟨wr.heap.size, 1, none⟩ = some (.slice oa nn cp) := fun w' hb => f1 w' (hb4.trans (hb.mono hb4.size))
      have HD := hid ((HW1.out.2.2.1.below HW1.out.1 HW1.out.2.2.2.size).mono (Nat.le_trans HW1.out.2.2.2.size HW1.out.1.size))
      have HD4 := hid (((HD.out.below hb4 (Nat.le_refl _)).mono hb4.size))
      have ho4s := ho4.slB
      obtain ⟨i4, hi4⟩ : ∃ x, x = idx ++ (le 2 nm.length ++ nm) := ⟨_, rfl⟩
      have hi4l : i4.length ≤ 800000 := by rw [hi4]; simp [le_length]; omega
      rw [← hi4] at ho4s
      have HI4 := hid hi4
      have HB4 := hid hb4
      have HO4 := hid ho4s
      have hsm : (sum da).toNat < 256 ^ 4 := (sum da).isLt
      have hsm' : (sum da).toNat < 4294967296 := hsm
      have hws : IntKind.i64.wrap ((sum da).toNat : Int) = ((sum da).toNat : Int) := IntWalk.i64_in _ (by omega)
      clear HT ho4 hb4 ho4s hi4 f1 c0 c1 hia HD
      go_wp2_with fail
      go_region_held3 (fun w' => Below w4.heap.size w4 w') (first | exact (Below.refl _ _).drew | assumption | exact Below.drew (by assumption))
        (first
          | (go_at_call 36; refine (bSum' da _ w4 _ (by assumption) ((HD4.out.below (by assumption) (Nat.le_refl _)).mono (Below.size (by assumption))) (by omega)).mono ?_; rintro e w9 ⟨rfl, hb9, hk9⟩; (try have ho5 := hk9 _ _ _ ho5); (try have ho6 := hk9 _ _ _ ho6); clear hk9)
          | (go_at_call 33; refine (bNum' _ v6 4 (sum da).toNat _ _ w4 _ (by assumption) rfl rfl ho6.slB (by simp [le_length]; omega) (by omega) (by omega) hsm).mono ?_; rintro e w7 ⟨v7, rfl, ho7, hb7⟩)
          | (go_at_call 33; refine (bNum' _ v5 4 da.length _ _ w4 _ (by assumption) rfl rfl ho5.slB (by simp [le_length]; omega) (by omega) (by omega) (by omega)).mono ?_; rintro e w6 ⟨v6, rfl, ho6, hb6⟩)
          | (go_at_call 33; refine (bNum' i4 _ 4 pos.length _ _ w4 _ (by assumption) rfl rfl ((HO4.out.below (by assumption) (Nat.le_refl _)).mono (Below.size (by assumption))) (by omega) (by omega) (by omega) (by omega)).mono ?_; rintro e w5 ⟨v5, rfl, ho5, hb5⟩))
      rw [row_fold pos.length nm da i4 idx HI4.out, HPE.out, ← HIT.out, ← HIS.out] at ho7
      have hb47 := HB4.out.trans (hb7.mono HB4.out.size)
      have hbr7 := HW1.out.1.trans (hb47.mono HW1.out.1.size)
      have ha7 := HW1.out.2.1.below hbr7
      have hd7 := (HD4.out.below hb7 (Nat.le_refl _)).mono hb7.size
      have hbl7 := HW1.out.2.2.2.trans (hbr7.mono HW1.out.2.2.2.size)
      have G1 := F1 w7 hb7
      have hge := fun k hk => (World.ownsRow.lt ho7 k hk).1
      have hlt4 := HB4.out.size
      have hlt1 := HW1.out.1.size
      have HO7 := hid (And.intro ho7 (And.intro hbl7 (And.intro hge hb7)))
      have hbz7 := hbl7.size
      clear ho5 hb5 ho6 hb6 ho7 hb9 hb7 hb47 hbr7 hge hbl7 F1 HD4 HB4 HO4 HI4 hws hsm hsm'
      go_wp2_with (at_builtin; refine append_app _ rfl _ _ 25 5 rfl Try.underlying25 Try.info5 w.heap.size _ pos rfl ha7 _ da _ rfl hd7 (by omega) hbz7 ?_)
      intro v8 w8 ha8 _ hk8 hb8
      have ha8' : AppB w8 w.heap.size 5 v8 (Bun.mark ++ dat ((l.map itm).take (k + 1))) := by rw [HPS.out, HIT.out]; exact ha8
      have hi8 := (OwnB.kept HO7.out.1 hk8 fun j hj hj2 => by have := HO7.out.2.2.1 j hj; have := HAL.out j hj2; omega).slB
      have hbl8 := HO7.out.2.1.trans hb8
      clear ha8 hk8 hb8 ha7 hd7 G1
      go_wp2
      go_roundw
      case rel => exact ⟨k + 1, by omega, by go_num, ha8', hi8, hbl8⟩
      case measure => simp [intOf]; omega
    · obtain rfl : k = l.length := by omega
      have hpl := pos_le l l.length
      have hil := ix_le l l.length
      have HPE := hid (pos_eq (l.map itm) l.length)
      obtain ⟨pos, hpos⟩ : ∃ x, x = Bun.mark ++ dat ((l.map itm).take l.length) := ⟨_, rfl⟩
      obtain ⟨idx, hidx⟩ : ∃ x, x = idxB 4 ((l.map itm).take l.length) := ⟨_, rfl⟩
      rw [← hpos] at hab hpl HPE
      rw [← hidx] at hix hil
      have HP := hid (And.intro hpos hidx)
      clear hpos hidx
      obtain ⟨ba, bn, bc, rfl⟩ := hab.shape
      have hlb := fun w' => hab.slB.len (P := Try.prog) (ty := 3) Try.underlying25 w'
      have HAB := hid (And.intro hab (And.intro hix hbl))
      clear hab hix hbl
      go_wp2_with (first
        | (go_at_call 33; refine (bNum' _ v5 2 l.length _ _ wr _ (by assumption) rfl rfl ho5.slB (by simp [le_length]; omega) (by omega) (by omega) (by omega)).mono ?_; rintro e w6 ⟨v6, rfl, ho6, hb6⟩)
        | (go_at_call 33; refine (bNum' idx _ 4 pos.length _ _ wr _ (Below.refl _ _) rfl rfl HAB.out.2.1 (by omega) (by omega) (by omega) (by omega)).mono ?_; rintro e w5 ⟨v5, rfl, ho5, hb5⟩))
      clear ho5 hb5
      have htl : (idx ++ le 4 pos.length ++ le 2 l.length).length = idx.length + 6 := by simp [le_length]
      obtain ⟨tl, htl'⟩ : ∃ x, x = idx ++ le 4 pos.length ++ le 2 l.length := ⟨_, rfl⟩
      rw [← htl'] at ho6 htl
      have HTL := hid (And.intro htl' htl)
      clear htl' htl
      have hsm : (sum tl).toNat < 256 ^ 4 := (sum tl).isLt
      have hsm' : (sum tl).toNat < 4294967296 := hsm
      have hws : IntKind.i64.wrap ((sum tl).toNat : Int) = ((sum tl).toNat : Int) := IntWalk.i64_in _ (by omega)
      have HC := hid (bSum' tl v6 wr _ hb6 ho6.slB (by have := HTL.out.2; omega))
      have HO6 := hid ho6
      clear ho6
      go_wp2_with fail
      refine HC.out.mono ?_
      rintro e w9 ⟨rfl, hb9, hk9⟩
      have ho9 := hk9 _ _ _ HO6.out
      have HN9 := hid (bNum' tl v6 4 (sum tl).toNat _ _ wr _ hb9 rfl rfl ho9.slB (by have := HTL.out.2; omega) (by omega) (by omega) hsm)
      clear HC HO6 hk9 ho9
      go_wp2_with fail
      refine HN9.out.mono ?_
      rintro e w10 ⟨v10, rfl, ho10, hb10⟩
      have ha10 := HAB.out.1.below hb10
      have hbl10 := HAB.out.2.2.trans (hb10.mono HAB.out.2.2.size)
      have hbz := hbl10.size
      have hs10 := ho10.slB
      have hbun : bunB (l.map itm) = pos ++ (tl ++ le 4 (sum tl).toNat) := by
        have e1 : (l.map itm).take l.length = l.map itm := List.take_of_length_le (by simp)
        have hp := HP.out
        rw [e1] at hp
        have e2 : tailB (l.map itm) = tl := by
          rw [HTL.out.1, HP.out.2]
          have e3 : pos.length = 4 + (dat (l.map itm)).length := by rw [hp.1]; simp [Bun.mark]; omega
          rw [e3, e1]; simp [tailB, List.append_assoc]
        unfold bunB
        rw [e2, hp.1]; simp [List.append_assoc]
      have hfl : (pos ++ (tl ++ le 4 (sum tl).toNat)).length ≤ 524288 := by
        have := HTL.out.2; simp [le_length]; omega
      have hne : tl ++ le 4 (sum tl).toNat ≠ [] := by intro h; have := congrArg List.length h; simp [le_length] at this
      have hxl : (tl ++ le 4 (sum tl).toNat).length ≤ 1000000 := by have := HTL.out.2; simp [le_length]; omega
      obtain ⟨fin, hfin⟩ : ∃ x, x = tl ++ le 4 (sum tl).toNat := ⟨_, rfl⟩
      rw [← hfin] at hs10 hbun hfl hne hxl
      have HF := hid (And.intro hbun (And.intro hne hbl10))
      clear hbun hne hfin ho10 hb9 hb10 HN9 hws hsm hsm' hbl10
      go_wp2_with (at_builtin; refine append_app _ rfl _ _ 25 5 rfl Try.underlying25 Try.info5 w.heap.size _ pos rfl ha10 _ fin _ rfl hs10 (by omega) hbz ?_)
      intro v11 w11 _ ho11 _ hb11
      have ho12 := ho11 HF.out.2.1
      have hlf := fun w' => ho12.slB.len (P := Try.prog) (ty := 3) Try.underlying25 w'
      obtain ⟨tot, htot⟩ : ∃ x, x = (pos ++ fin).length := ⟨_, rfl⟩
      rw [← htot] at hlf hfl
      clear htot
      rw [← HF.out.1] at ho12
      have HO := hid (And.intro ho12 (HF.out.2.2.trans hb11))
      clear ho11 ho12 hb11 ha10 hs10
      go_wp2
      go_ret2
      exact ⟨_, rfl, HO.out.1, HO.out.2⟩
end Go.Proofs.Ytoccgpddmhhlgaa
