import Derived.Test.YtoccgpddmhhlgaaJ
import Derived.Deep.RegionHeld
namespace Go.Proofs.Ytoccgpddmhhlgaa
open Go.RowKit Go.Mx Go.Crc Go.Str

theorem rNum' (bs : List UInt8) (bv : Value) (n x : Nat) (N X : Int) (w0 w : World) (h0 : Below w0.heap.size w0 w) (hN : N = (n : Int)) (hX : X = (x : Int)) (hb : SlB w w.heap.size bv bs) (hlen : bs.length ≤ 1000000000) (h1 : 1 ≤ n) (h4 : n ≤ 4) (hv : x < 256 ^ n) :
    Calls Try.prog 39 #[bv, .int .i64 N, .int .i64 X] w fun e w' => ∃ ov, e = .returned ov ∧ OwnB w' w0.heap.size 5 ov (bs ++ le n x) ∧ Below w0.heap.size w0 w' := by
  subst hX hN
  refine (rNum_any bs bv n x w hb hlen h1 h4 hv).mono ?_
  rintro e w' ⟨ov, rfl, ho, hb⟩
  exact ⟨ov, rfl, ho.any_base h0.size, h0.trans (hb.mono h0.size)⟩

set_option maxRecDepth 100000 in
set_option maxHeartbeats 4000000 in
theorem rsput0 (s : Strm) (sv : Value) (w : World) (h : SlR w w.heap.size sv s.recs) (hr : right s = true) :
    Calls Try.prog 43 #[strmV s sv] w fun e w' => ∃ v, e = .returned v ∧ OwnB w' w.heap.size 5 v (putB s) ∧ Below w.heap.size w w' := by
  have hlen := fun w' => h.len (ty := 3) w'
  have H := hid h
  have hb0 : Below w.heap.size w (w.alloc (.cells #[.bool s.full, .int .i64 s.size, sv] 39)) := (Below.refl _ _).alloc (Nat.le_refl _) _
  have hbx : (w.alloc (.cells #[.bool s.full, .int .i64 s.size, sv] 39)).heap[w.heap.size]? = some (.cells #[.bool s.full, .int .i64 s.size, sv] 39 (0, 0)) := alloc_new w _
  have HR := hid hr
  clear h hr
  unfold strmV
  obtain ⟨f, z, l⟩ := s
  simp only at hlen H hb0 hbx ⊢
  obtain ⟨zn, rfl⟩ : ∃ n : Nat, z = n := Int.eq_ofNat_of_zero_le (right_mem HR.out).1
  have kc1 : (convert 25 25 (.slice (some ⟨w.heap.size + 1, 0, none⟩) 4 4)).run Try.prog ((w.alloc (.cells #[.bool f, .int .i64 zn, sv] 39)).alloc (.cells #[.int .u8 77, .int .u8 84, .int .u8 82, .int .u8 75] 5)) = .ok (.slice (some ⟨w.heap.size + 1, 0, none⟩) 4 4) ((w.alloc (.cells #[.bool f, .int .i64 zn, sv] 39)).alloc (.cells #[.int .u8 77, .int .u8 84, .int .u8 82, .int .u8 75] 5 (4, 5))) := by
    have := Lib.run_convert_bytes_const (P := Try.prog) (w.alloc (.cells #[.bool f, .int .i64 zn, sv] 39)) 25 5 #[.int .u8 77, .int .u8 84, .int .u8 82, .int .u8 75] 4 4 Try.underlying25 Try.underlying5
    rwa [show (w.alloc (.cells #[.bool f, .int .i64 zn, sv] 39)).heap.size = w.heap.size + 1 by simp] at this
  obtain ⟨W, hW⟩ : ∃ W, W = (w.alloc (.cells #[.bool f, .int .i64 zn, sv] 39)).alloc (.cells #[.int .u8 77, .int .u8 84, .int .u8 82, .int .u8 75] 5 (4, 5)) := ⟨_, rfl⟩
  have hbW : Below w.heap.size w W := by rw [hW]; exact hb0.alloc (by simp) _
  have hxW : W.heap[w.heap.size]? = some (.cells #[.bool f, .int .i64 zn, sv] 39 (0, 0)) := by
    rw [hW]; exact (((Below.refl (w.alloc (.cells #[.bool f, .int .i64 zn, sv] 39)).heap.size _).alloc (Nat.le_refl _) _).block w.heap.size (by simp)).trans hbx
  have hzW : W.heap.size = w.heap.size + 2 := by rw [hW]; simp
  have hsW : SlB W W.heap.size (.slice (some ⟨w.heap.size + 1, 0, none⟩) 4 4) Str.mark := by
    have := sl_litm (w.alloc (.cells #[.bool f, .int .i64 zn, sv] 39)) Str.mark 5 (4, 5) (by simp [Str.mark, maxLen])
    rw [show (w.alloc (.cells #[.bool f, .int .i64 zn, sv] 39)).heap.size = w.heap.size + 1 by simp] at this
    rw [hzW, hW]; exact this
  have d0 : W.cell? ⟨w.heap.size, 0, none⟩ = some (.bool f) := by simp [World.cell?, hxW]
  have d1 : ∀ w', Below W.heap.size W w' → w'.cell? ⟨w.heap.size, 1, none⟩ = some (.int .i64 zn) := fun w' hb => (hb.cell (p := ⟨w.heap.size, 1, none⟩) (by show w.heap.size < _; omega)).trans (by simp [World.cell?, hxW])
  have d2 : ∀ w', Below W.heap.size W w' → w'.cell? ⟨w.heap.size, 2, none⟩ = some sv := fun w' hb => (hb.cell (p := ⟨w.heap.size, 2, none⟩) (by show w.heap.size < _; omega)).trans (by simp [World.cell?, hxW])
  have HW := hid (And.intro hbW (And.intro hxW (And.intro hzW hsW)))
  clear hb0 hbx hbW hxW hzW hsW
  have hl4 : l.length ≤ 4096 := (right_mem HR.out).2.2.1
  have hz4 : zn ≤ 4096 := by have := (right_mem HR.out).2.1; simp only at this; omega
  cases f
  · go_enter Try.func43, Try.ntmps43
    go_wp2_with fail
    rw [← hW]
    clear kc1 hW
    go_wp2_with fail
    go_region_held (fun w' => Below W.heap.size W w') (first | exact (Below.refl _ _).drew | assumption | exact Below.drew (by assumption))
      (first
        | (go_at_call 39; refine (rNum' _ v6 2 l.length _ _ W _ (by assumption) rfl rfl ho6.slB (by simp [Str.mark, le_length]) (by omega) (by omega) (by omega)).mono ?_; rintro e w7 ⟨v7, rfl, ho7, hb7⟩)
        | (go_at_call 39; refine (rNum' _ v5 2 zn _ _ W _ (by assumption) rfl rfl ho5.slB (by simp [Str.mark, le_length]) (by omega) (by omega) (by omega)).mono ?_; rintro e w6 ⟨v6, rfl, ho6, hb6⟩)
        | (go_at_call 39; refine (rNum' Str.mark _ 1 0 _ _ W _ (by assumption) rfl rfl ((HW.out.2.2.2.below (by assumption) (Nat.le_refl _)).mono (Below.size (by assumption))) (by simp [Str.mark]) (by omega) (by omega) (by omega)).mono ?_; rintro e w5 ⟨v5, rfl, ho5, hb5⟩))
    rw [show ((Str.mark ++ le 1 0) ++ le 2 zn) ++ le 2 l.length = headB ⟨false, zn, l⟩ by simp [headB]] at ho7
    have HO7 := hid ho7
    clear ho5 hb5 ho6 hb6 ho7 d0
    go_wp2_with fail
    go_loopw [3, 5] (fun b i wr => ∃ k : Nat, k ≤ l.length ∧ i = .int .i64 k ∧ OwnB wr W.heap.size 5 b (headB ⟨false, zn, l⟩ ++ (l.take k).flatMap recB) ∧ Below W.heap.size W wr) (fun _ i _ => l.length - (intOf i).toNat)
    case atStart => exact ⟨0, by omega, rfl, by simpa using HO7.out, hb7⟩
    case round =>
      obtain ⟨k, hk, rfl, hob, hbl⟩ := hrel
      clear HO7 hb7
      have e2 := d2 wr hbl
      by_cases hlt : k < l.length
      · have hbwr := HW.out.1.trans (hbl.mono HW.out.1.size)
        obtain ⟨b, o, dv, hbb, hia, c0, c1, hs⟩ := (H.out.below hbwr (Nat.le_refl _)).at k hlt
        have hmem : l.getD k default ∈ l := by rw [List.getD_eq_getElem?_getD, List.getElem?_eq_getElem hlt]; exact List.getElem_mem _
        have hrm := (right_mem HR.out).2.2.2.2 _ hmem
        have HFT := hid (flat_take l k hlt)
        have hpl := part_len HR.out k
        simp only at hpl
        obtain ⟨r, hr⟩ : ∃ r, r = l.getD k default := ⟨_, rfl⟩
        rw [← hr] at c0 hs hrm HFT
        clear hr hmem
        obtain ⟨at_, dat⟩ := r
        obtain ⟨an, rfl⟩ : ∃ n : Nat, at_ = n := Int.eq_ofNat_of_zero_le hrm.1
        simp only at c0 hs hrm
        have hn : (Rec.mk (an : Int) dat).n = dat.length / 16 := rfl
        have hrb : recB ⟨(an : Int), dat⟩ = le 2 an ++ (le 2 (dat.length / 16) ++ (dat ++ le 4 (sum dat).toNat)) := rfl
        rw [hn] at hrm
        obtain ⟨hr0, hr1, hr2, hr3, hr4⟩ := hrm
        have hld := fun w' => hs.len (P := Try.prog) (ty := 3) Try.underlying25 w'
        obtain ⟨oa, nn, cp, rfl⟩ : ∃ oa n c, dv = .slice oa n c := by obtain ⟨oa1, cp1, hv1, _⟩ := hs; exact ⟨_, _, _, hv1⟩
        obtain ⟨pre, hpre⟩ : ∃ pre, pre = headB ⟨false, zn, l⟩ ++ (l.take k).flatMap recB := ⟨_, rfl⟩
        rw [← hpre] at hob hpl
        have HPRE := hid hpre
        have HRB := hid hrb
        have HS := hid (And.intro hs (And.intro hbwr hbl))
        obtain ⟨w1, hw1⟩ : ∃ w1, w1 = wr.alloc (.cells #[.int .i64 an, .slice oa nn cp] 47) := ⟨_, rfl⟩
        have hbw1 : Below wr.heap.size wr w1 := by rw [hw1]; exact (Below.refl _ _).alloc (Nat.le_refl _) _
        have hq : w1.heap[wr.heap.size]? = some (.cells #[.int .i64 an, .slice oa nn cp] 47 (0, 0)) := by rw [hw1]; exact alloc_new wr _
        have hql : wr.heap.size < w1.heap.size := (Array.getElem?_eq_some_iff.1 hq).1
        have f0 : ∀ w', Below w1.heap.size w1 w' → w'.cell? ⟨wr.heap.size, 0, none⟩ = some (.int .i64 an) := fun w' hb => (hb.cell (p := ⟨wr.heap.size, 0, none⟩) hql).trans (by simp [World.cell?, hq])
        have f1 : ∀ w', Below w1.heap.size w1 w' → w'.cell? ⟨wr.heap.size, 1, none⟩ = some (.slice oa nn cp) := fun w' hb => (hb.cell (p := ⟨wr.heap.size, 1, none⟩) hql).trans (by simp [World.cell?, hq])
        have g0 : (wr.alloc (.cells #[.int .i64 an, .slice oa nn cp] 47)).cell? ⟨wr.heap.size, 0, none⟩ = some (.int .i64 an) := by rw [← hw1]; exact f0 w1 (Below.refl _ _)
        have ho1 : SlB w1 w1.heap.size u3 pre := (hob.slB.below hbw1 (Nat.le_refl _)).mono hbw1.size
        have hs1 : SlB w1 w1.heap.size (.slice oa nn cp) dat := (hs.below hbw1 (by have := hbwr.size; omega)).mono (by have := hbwr.size; have := hbw1.size; omega)
        have HO1 := hid (And.intro ho1 (And.intro hs1 hbw1))
        clear hpre hrb hn hs hob ho1 hs1 hbw1 hbwr hq
        go_wp2_with fail
        rw [← hw1]
        clear hw1 g0 c0 c1 hia e2
        have hq16 : IntKind.i64.wrap ((dat.length : Int) / 16) = (dat.length : Int) / 16 := IntWalk.i64_in _ (by omega)
        go_wp2_with fail
        go_region_held (fun w' => Below w1.heap.size w1 w') (first | exact (Below.refl _ _).drew | assumption | exact Below.drew (by assumption))
          (first
            | (go_at_call 39; refine (rNum' _ v5 2 (dat.length / 16) _ _ w1 _ (by assumption) rfl (by omega) ho5.slB (by simp [le_length]; omega) (by omega) (by omega) (by omega)).mono ?_; rintro e w6 ⟨v6, rfl, ho6, hb6⟩)
            | (go_at_call 39; refine (rNum' pre _ 2 an _ _ w1 _ (by assumption) rfl rfl ((HO1.out.1.below (by assumption) (Nat.le_refl _)).mono (Below.size (by assumption))) (by omega) (by omega) (by omega) (by omega)).mono ?_; rintro e w5 ⟨v5, rfl, ho5, hb5⟩))
        have hq17 := f1 w6 hb6
        have hs6 := (HO1.out.2.1.below hb6 (Nat.le_refl _)).mono hb6.size
        have hz6 := hb6.size
        clear ho5 hb5 hq16
        have hp6 : (pre ++ le 2 an ++ le 2 (dat.length / 16)).length ≤ 100000 := by simp [le_length]; omega
        obtain ⟨pr6, hpr6⟩ : ∃ pr6, pr6 = pre ++ le 2 an ++ le 2 (dat.length / 16) := ⟨_, rfl⟩
        rw [← hpr6] at ho6 hp6
        have HPR6 := hid hpr6
        clear hpr6
        go_wp2_with (at_builtin; refine append_sl _ rfl _ _ 25 5 rfl Try.underlying25 Try.info5 w1.heap.size _ pr6 rfl ho6 _ dat w6.heap.size rfl hs6 ?_ ?_ ?_)
        · omega
        · exact hz6
        intro v8 w8 ho8 hb8
        have hb8' := hb6.trans hb8
        have hq18 := f1 w8 hb8'
        have hs8 := (HO1.out.2.1.below hb8' (Nat.le_refl _)).mono hb8'.size
        have hdl : dat.length ≤ 70000 := by omega
        have HO8 := hid (And.intro ho8 hb8')
        clear ho6 hb6 hq17 hs6 hz6 ho8 hb8 hb8'
        go_wp2_with fail
        refine (rsum_any dat _ w8 hs8 (by omega)).mono ?_
        rintro e w9 ⟨rfl, rfl⟩
        have hsl := (sum dat).isLt
        clear hq18 hs8
        go_wp2_with fail
        refine (rNum' _ v8 4 (sum dat).toNat _ _ w1 w8 HO8.out.2 rfl rfl HO8.out.1.slB (by simp; omega) (by omega) (by omega) (by omega)).mono ?_
        rintro e w9 ⟨v9, rfl, ho9, hb9⟩
        have e9 : (pr6 ++ dat) ++ le 4 (sum dat).toNat = headB ⟨false, zn, l⟩ ++ (l.take (k + 1)).flatMap recB := by
          rw [HPR6.out, HFT.out, HRB.out, HPRE.out]; simp
        rw [e9] at ho9
        have hbz := HO1.out.2.2.size
        have HO9 := hid (And.intro (ho9.any_base (base' := W.heap.size) (by have := HS.out.2.2.size; omega)) (HS.out.2.2.trans ((HO1.out.2.2.trans (hb9.mono hbz)).mono HS.out.2.2.size)))
        clear HO8 ho9 hb9 e9 hsl f0 f1 hql hbz
        go_wp2_with fail
        go_roundw
        case rel => exact ⟨k + 1, by omega, by go_num, HO9.out.1, HO9.out.2⟩
        case measure => simp [intOf]; omega
      · obtain rfl : k = l.length := by omega
        rw [List.take_length] at hob
        have HBL := hid (show (putB ⟨false, zn, l⟩).length ≤ 98317 from putB_short HR.out)
        have HPB := hid (show putB ⟨false, zn, l⟩ = (headB ⟨false, zn, l⟩ ++ l.flatMap recB) ++ le 4 (sum (headB ⟨false, zn, l⟩ ++ l.flatMap recB)).toNat from rfl)
        obtain ⟨pre, hpre⟩ : ∃ pre, pre = headB ⟨false, zn, l⟩ ++ l.flatMap recB := ⟨_, rfl⟩
        rw [← hpre] at hob HPB
        have hpl : pre.length ≤ 98317 := by have := HBL.out; rw [HPB.out, List.length_append] at this; omega
        have hsl := (sum pre).isLt
        have hob' := hob.slB
        have HOB := hid (And.intro hob hbl)
        clear hpre hob
        go_wp2_with fail
        refine (rsum_any pre _ wr hob' (by omega)).mono ?_
        rintro e w9 ⟨rfl, rfl⟩
        go_wp2_with fail
        refine (rNum' _ _ 4 (sum pre).toNat _ _ W wr hbl rfl rfl hob' (by omega) (by omega) (by omega) (by omega)).mono ?_
        rintro e w9 ⟨v9, rfl, ho9, hb9⟩
        rw [← HPB.out] at ho9
        clear hob' e2
        go_wp2_with fail
        go_ret
        exact ⟨_, rfl, ho9.any_base HW.out.1.size, HW.out.1.trans (hb9.mono HW.out.1.size)⟩
  · go_enter Try.func43, Try.ntmps43
    go_wp2_with fail
    rw [← hW]
    clear kc1 hW
    go_wp2_with fail
    go_region_held (fun w' => Below W.heap.size W w') (first | exact (Below.refl _ _).drew | assumption | exact Below.drew (by assumption))
      (first
        | (go_at_call 39; refine (rNum' _ v6 2 l.length _ _ W _ (by assumption) rfl rfl ho6.slB (by simp [Str.mark, le_length]) (by omega) (by omega) (by omega)).mono ?_; rintro e w7 ⟨v7, rfl, ho7, hb7⟩)
        | (go_at_call 39; refine (rNum' _ v5 2 zn _ _ W _ (by assumption) rfl rfl ho5.slB (by simp [Str.mark, le_length]) (by omega) (by omega) (by omega)).mono ?_; rintro e w6 ⟨v6, rfl, ho6, hb6⟩)
        | (go_at_call 39; refine (rNum' Str.mark _ 1 1 _ _ W _ (by assumption) rfl rfl ((HW.out.2.2.2.below (by assumption) (Nat.le_refl _)).mono (Below.size (by assumption))) (by simp [Str.mark]) (by omega) (by omega) (by omega)).mono ?_; rintro e w5 ⟨v5, rfl, ho5, hb5⟩))
    rw [show ((Str.mark ++ le 1 1) ++ le 2 zn) ++ le 2 l.length = headB ⟨true, zn, l⟩ by simp [headB]] at ho7
    have HO7 := hid ho7
    clear ho5 hb5 ho6 hb6 ho7 d0
    go_wp2_with fail
    go_loopw [3, 5] (fun b i wr => ∃ k : Nat, k ≤ l.length ∧ i = .int .i64 k ∧ OwnB wr W.heap.size 5 b (headB ⟨true, zn, l⟩ ++ (l.take k).flatMap recB) ∧ Below W.heap.size W wr) (fun _ i _ => l.length - (intOf i).toNat)
    case atStart => exact ⟨0, by omega, rfl, by simpa using HO7.out, hb7⟩
    case round =>
      obtain ⟨k, hk, rfl, hob, hbl⟩ := hrel
      clear HO7 hb7
      have e2 := d2 wr hbl
      by_cases hlt : k < l.length
      · have hbwr := HW.out.1.trans (hbl.mono HW.out.1.size)
        obtain ⟨b, o, dv, hbb, hia, c0, c1, hs⟩ := (H.out.below hbwr (Nat.le_refl _)).at k hlt
        have hmem : l.getD k default ∈ l := by rw [List.getD_eq_getElem?_getD, List.getElem?_eq_getElem hlt]; exact List.getElem_mem _
        have hrm := (right_mem HR.out).2.2.2.2 _ hmem
        have HFT := hid (flat_take l k hlt)
        have hpl := part_len HR.out k
        simp only at hpl
        obtain ⟨r, hr⟩ : ∃ r, r = l.getD k default := ⟨_, rfl⟩
        rw [← hr] at c0 hs hrm HFT
        clear hr hmem
        obtain ⟨at_, dat⟩ := r
        obtain ⟨an, rfl⟩ : ∃ n : Nat, at_ = n := Int.eq_ofNat_of_zero_le hrm.1
        simp only at c0 hs hrm
        have hn : (Rec.mk (an : Int) dat).n = dat.length / 16 := rfl
        have hrb : recB ⟨(an : Int), dat⟩ = le 2 an ++ (le 2 (dat.length / 16) ++ (dat ++ le 4 (sum dat).toNat)) := rfl
        rw [hn] at hrm
        obtain ⟨hr0, hr1, hr2, hr3, hr4⟩ := hrm
        have hld := fun w' => hs.len (P := Try.prog) (ty := 3) Try.underlying25 w'
        obtain ⟨oa, nn, cp, rfl⟩ : ∃ oa n c, dv = .slice oa n c := by obtain ⟨oa1, cp1, hv1, _⟩ := hs; exact ⟨_, _, _, hv1⟩
        obtain ⟨pre, hpre⟩ : ∃ pre, pre = headB ⟨true, zn, l⟩ ++ (l.take k).flatMap recB := ⟨_, rfl⟩
        rw [← hpre] at hob hpl
        have HPRE := hid hpre
        have HRB := hid hrb
        have HS := hid (And.intro hs (And.intro hbwr hbl))
        obtain ⟨w1, hw1⟩ : ∃ w1, w1 = wr.alloc (.cells #[.int .i64 an, .slice oa nn cp] 47) := ⟨_, rfl⟩
        have hbw1 : Below wr.heap.size wr w1 := by rw [hw1]; exact (Below.refl _ _).alloc (Nat.le_refl _) _
        have hq : w1.heap[wr.heap.size]? = some (.cells #[.int .i64 an, .slice oa nn cp] 47 (0, 0)) := by rw [hw1]; exact alloc_new wr _
        have hql : wr.heap.size < w1.heap.size := (Array.getElem?_eq_some_iff.1 hq).1
        have f0 : ∀ w', Below w1.heap.size w1 w' → w'.cell? ⟨wr.heap.size, 0, none⟩ = some (.int .i64 an) := fun w' hb => (hb.cell (p := ⟨wr.heap.size, 0, none⟩) hql).trans (by simp [World.cell?, hq])
        have f1 : ∀ w', Below w1.heap.size w1 w' → w'.cell? ⟨wr.heap.size, 1, none⟩ = some (.slice oa nn cp) := fun w' hb => (hb.cell (p := ⟨wr.heap.size, 1, none⟩) hql).trans (by simp [World.cell?, hq])
        have g0 : (wr.alloc (.cells #[.int .i64 an, .slice oa nn cp] 47)).cell? ⟨wr.heap.size, 0, none⟩ = some (.int .i64 an) := by rw [← hw1]; exact f0 w1 (Below.refl _ _)
        have ho1 : SlB w1 w1.heap.size u3 pre := (hob.slB.below hbw1 (Nat.le_refl _)).mono hbw1.size
        have hs1 : SlB w1 w1.heap.size (.slice oa nn cp) dat := (hs.below hbw1 (by have := hbwr.size; omega)).mono (by have := hbwr.size; have := hbw1.size; omega)
        have HO1 := hid (And.intro ho1 (And.intro hs1 hbw1))
        clear hpre hrb hn hs hob ho1 hs1 hbw1 hbwr hq
        go_wp2_with fail
        rw [← hw1]
        clear hw1 g0 c0 c1 hia e2
        have hq16 : IntKind.i64.wrap ((dat.length : Int) / 16) = (dat.length : Int) / 16 := IntWalk.i64_in _ (by omega)
        go_wp2_with fail
        go_region_held (fun w' => Below w1.heap.size w1 w') (first | exact (Below.refl _ _).drew | assumption | exact Below.drew (by assumption))
          (first
            | (go_at_call 39; refine (rNum' _ v5 2 (dat.length / 16) _ _ w1 _ (by assumption) rfl (by omega) ho5.slB (by simp [le_length]; omega) (by omega) (by omega) (by omega)).mono ?_; rintro e w6 ⟨v6, rfl, ho6, hb6⟩)
            | (go_at_call 39; refine (rNum' pre _ 2 an _ _ w1 _ (by assumption) rfl rfl ((HO1.out.1.below (by assumption) (Nat.le_refl _)).mono (Below.size (by assumption))) (by omega) (by omega) (by omega) (by omega)).mono ?_; rintro e w5 ⟨v5, rfl, ho5, hb5⟩))
        have hq17 := f1 w6 hb6
        have hs6 := (HO1.out.2.1.below hb6 (Nat.le_refl _)).mono hb6.size
        have hz6 := hb6.size
        clear ho5 hb5 hq16
        have hp6 : (pre ++ le 2 an ++ le 2 (dat.length / 16)).length ≤ 100000 := by simp [le_length]; omega
        obtain ⟨pr6, hpr6⟩ : ∃ pr6, pr6 = pre ++ le 2 an ++ le 2 (dat.length / 16) := ⟨_, rfl⟩
        rw [← hpr6] at ho6 hp6
        have HPR6 := hid hpr6
        clear hpr6
        go_wp2_with (at_builtin; refine append_sl _ rfl _ _ 25 5 rfl Try.underlying25 Try.info5 w1.heap.size _ pr6 rfl ho6 _ dat w6.heap.size rfl hs6 ?_ ?_ ?_)
        · omega
        · exact hz6
        intro v8 w8 ho8 hb8
        have hb8' := hb6.trans hb8
        have hq18 := f1 w8 hb8'
        have hs8 := (HO1.out.2.1.below hb8' (Nat.le_refl _)).mono hb8'.size
        have hdl : dat.length ≤ 70000 := by omega
        have HO8 := hid (And.intro ho8 hb8')
        clear ho6 hb6 hq17 hs6 hz6 ho8 hb8 hb8'
        go_wp2_with fail
        refine (rsum_any dat _ w8 hs8 (by omega)).mono ?_
        rintro e w9 ⟨rfl, rfl⟩
        have hsl := (sum dat).isLt
        clear hq18 hs8
        go_wp2_with fail
        refine (rNum' _ v8 4 (sum dat).toNat _ _ w1 w8 HO8.out.2 rfl rfl HO8.out.1.slB (by simp; omega) (by omega) (by omega) (by omega)).mono ?_
        rintro e w9 ⟨v9, rfl, ho9, hb9⟩
        have e9 : (pr6 ++ dat) ++ le 4 (sum dat).toNat = headB ⟨true, zn, l⟩ ++ (l.take (k + 1)).flatMap recB := by
          rw [HPR6.out, HFT.out, HRB.out, HPRE.out]; simp
        rw [e9] at ho9
        have hbz := HO1.out.2.2.size
        have HO9 := hid (And.intro (ho9.any_base (base' := W.heap.size) (by have := HS.out.2.2.size; omega)) (HS.out.2.2.trans ((HO1.out.2.2.trans (hb9.mono hbz)).mono HS.out.2.2.size)))
        clear HO8 ho9 hb9 e9 hsl f0 f1 hql hbz
        go_wp2_with fail
        go_roundw
        case rel => exact ⟨k + 1, by omega, by go_num, HO9.out.1, HO9.out.2⟩
        case measure => simp [intOf]; omega
      · obtain rfl : k = l.length := by omega
        rw [List.take_length] at hob
        have HBL := hid (show (putB ⟨true, zn, l⟩).length ≤ 98317 from putB_short HR.out)
        have HPB := hid (show putB ⟨true, zn, l⟩ = (headB ⟨true, zn, l⟩ ++ l.flatMap recB) ++ le 4 (sum (headB ⟨true, zn, l⟩ ++ l.flatMap recB)).toNat from rfl)
        obtain ⟨pre, hpre⟩ : ∃ pre, pre = headB ⟨true, zn, l⟩ ++ l.flatMap recB := ⟨_, rfl⟩
        rw [← hpre] at hob HPB
        have hpl : pre.length ≤ 98317 := by have := HBL.out; rw [HPB.out, List.length_append] at this; omega
        have hsl := (sum pre).isLt
        have hob' := hob.slB
        have HOB := hid (And.intro hob hbl)
        clear hpre hob
        go_wp2_with fail
        refine (rsum_any pre _ wr hob' (by omega)).mono ?_
        rintro e w9 ⟨rfl, rfl⟩
        go_wp2_with fail
        refine (rNum' _ _ 4 (sum pre).toNat _ _ W wr hbl rfl rfl hob' (by omega) (by omega) (by omega) (by omega)).mono ?_
        rintro e w9 ⟨v9, rfl, ho9, hb9⟩
        rw [← HPB.out] at ho9
        clear hob' e2
        go_wp2_with fail
        go_ret
        exact ⟨_, rfl, ho9.any_base HW.out.1.size, HW.out.1.trans (hb9.mono HW.out.1.size)⟩

set_option maxRecDepth 100000 in
set_option maxHeartbeats 2000000 in
theorem rsput_any (s : Strm) (sv : Value) (w : World) (h : SlR w w.heap.size sv s.recs) :
    Calls Try.prog 22 #[strmV s sv] w fun e w' => ∃ v, e = .returned (.tuple #[v, .int .i64 (putR s).2]) ∧ OwnB w' w.heap.size 5 v (putR s).1 ∧ Below w.heap.size w w' := by
  have hb0 : Below w.heap.size w (w.alloc (.cells #[.bool s.full, .int .i64 s.size, sv] 39)) := (Below.refl _ _).alloc (Nat.le_refl _) _
  have hbx : (w.alloc (.cells #[.bool s.full, .int .i64 s.size, sv] 39)).heap[w.heap.size]? = some (.cells #[.bool s.full, .int .i64 s.size, sv] 39 (0, 0)) := alloc_new w _
  have h1 := (h.below hb0 (Nat.le_refl _)).mono hb0.size
  have HC := hid (rright_any s sv _ h1)
  have H1 := hid (And.intro h1 (And.intro hb0 hbx))
  clear h hb0 hbx h1
  cases hr : right s
  · have e : putR s = ([], 1) := by unfold putR; rw [hr]; rfl
    rw [e]
    rw [hr] at HC
    clear hr e
    unfold strmV
    go_enter Try.func22, Try.ntmps22
    go_wp2_with fail
    refine HC.out.mono ?_
    rintro e w2 ⟨rfl, hb2⟩
    go_wp2
    go_ret2
    exact ⟨_, rfl, OwnB.nil _ _ _, H1.out.2.1.trans (hb2.mono H1.out.2.1.size)⟩
  have e : putR s = (putB s, 0) := by unfold putR; rw [hr]; rfl
  rw [e]
  rw [hr] at HC
  have HL := hid (putB_short hr)
  have HR := hid hr
  clear e hr
  unfold strmV
  go_enter Try.func22, Try.ntmps22
  go_wp2_with fail
  refine HC.out.mono ?_
  rintro e w2 ⟨rfl, hb2⟩
  have hx2 := (hb2.block w.heap.size (by simp)).trans H1.out.2.2
  have d0 : w2.cell? ⟨w.heap.size, 0, none⟩ = some (.bool s.full) := by simp [World.cell?, hx2]
  have d1 : w2.cell? ⟨w.heap.size, 1, none⟩ = some (.int .i64 s.size) := by simp [World.cell?, hx2]
  have d2 : w2.cell? ⟨w.heap.size, 2, none⟩ = some sv := by simp [World.cell?, hx2]
  have h2 := (H1.out.1.below hb2 (Nat.le_refl _)).mono hb2.size
  have hbw := H1.out.2.1.trans (hb2.mono H1.out.2.1.size)
  have HC2 := hid (rsput0 s sv w2 h2 HR.out)
  have HB2 := hid hbw
  clear HC hb2 hx2 h2 H1 hbw
  go_wp2_with fail
  refine HC2.out.mono ?_
  rintro e w3 ⟨v3, rfl, ho3, hb3⟩
  have hlb := fun w' => ho3.slB.len (P := Try.prog) (ty := 3) Try.underlying25 w'
  obtain ⟨pb, hpb⟩ : ∃ pb, pb = putB s := ⟨_, rfl⟩
  rw [← hpb] at ho3 hlb HL
  have hll := HL.out
  have HP := hid hpb
  have HE := hid (And.intro (ho3.any_base (base' := w.heap.size) HB2.out.size) (HB2.out.trans (hb3.mono HB2.out.size)))
  clear HC2 hpb ho3 hb3 d0 d1 d2
  go_wp2_with fail
  go_ret2
  exact ⟨_, rfl, HP.out ▸ HE.out.1, HE.out.2⟩
end Go.Proofs.Ytoccgpddmhhlgaa
