import Derived.Test.YtddicddbpfenpaaF
import Derived.Test.YtddicddbpfenpaaM4
namespace Go.Proofs.Ytddicddbpfenpaa
open Go.RowKit Go.Mx Go.Crc

theorem Try.info5 : (Try.prog.info? 5).map (fun i => (i.zero, i.size, i.bytes)) = some (some (.int .u8 0), 1, 1) := by kernel_rfl

theorem more_sum (a b : List UInt8) : more (sum a) b = sum (a ++ b) := more_parts 0 a b

set_option maxRecDepth 100000 in
set_option maxHeartbeats 2000000 in
theorem crcParts_walk (xs bs : List UInt8) (av bv : Value) (w : World) (ha : SlB w w.heap.size av xs) (hb : SlB w w.heap.size bv bs) :
    Calls Try.prog 5 #[av, bv] w fun e w' => e = .returned (.bool true) ∧ Below w.heap.size w w' := by
  have hla := fun w => len_sl (P := Try.prog) Try.underlying22 (ty := 3) ha.choose_spec.choose_spec.1 w
  have hlb := fun w => len_sl (P := Try.prog) Try.underlying22 (ty := 3) hb.choose_spec.choose_spec.1 w
  by_cases h1 : 20000 < xs.length
  · go_enter Try.func5, Try.ntmps5
    go_wp2_with (go_at_call 10; refine (awake_any _).mono ?_; rintro e w' ⟨rfl, hbel⟩)
    go_ret
    exact ⟨rfl, hbel⟩
  by_cases h2 : 20000 < bs.length
  · go_enter Try.func5, Try.ntmps5
    go_wp2_with (go_at_call 10; refine (awake_any _).mono ?_; rintro e w' ⟨rfl, hbel⟩)
    go_ret
    exact ⟨rfl, hbel⟩
  go_enter Try.func5, Try.ntmps5
  go_wp2_with (at_builtin; refine append_sl _ rfl _ _ 22 5 rfl Try.underlying22 Try.info5 w.heap.size _ [] rfl (own_empty w 5) _ xs w.heap.size rfl (ha.below ((Below.refl _ _).alloc (Nat.le_refl _) _) (Nat.le_refl _)) ?_ ?_ ?_)
  · simp; omega
  · simp
  intro v1 w1 ho1 hbl1
  have hb1 := ((Below.refl w.heap.size w).alloc (Nat.le_refl _) (.cells #[] 5)).trans hbl1
  have hz1 := hb1.size
  have ho1' : OwnB w1 w.heap.size 5 v1 xs := by simpa using ho1
  clear ho1 hbl1
  go_wp2_with (at_builtin; refine append_sl _ rfl _ _ 22 5 rfl Try.underlying22 Try.info5 w.heap.size _ xs rfl ho1' _ bs w.heap.size rfl (hb.below hb1 (Nat.le_refl _)) ?_ ?_ ?_)
  · omega
  · omega
  intro v2 w2 ho2 hbl2
  have hb2 := hb1.trans hbl2
  have hz2 := hb2.size
  have hv2 := ho2.slB
  have ha2 := (ha.below hb2 (Nat.le_refl _)).mono hz2
  have hbb2 := (hb.below hb2 (Nat.le_refl _)).mono hz2
  clear hbl2 ho1' hb1 hz1 ho2
  go_wp2_with fail
  refine (sum_any xs av w2 ha2 (by omega)).mono ?_
  rintro e w3 ⟨rfl, hbl3⟩
  have hz3 := hbl3.size
  have hb3 := hb2.trans (hbl3.mono hz2)
  have hbb3 := (hbb2.below hbl3 (Nat.le_refl _)).mono hz3
  have ha3 := (ha2.below hbl3 (Nat.le_refl _)).mono hz3
  have hv3 := (hv2.below hbl3 (Nat.le_refl _)).mono hz3
  have hz33 := hb3.size
  clear hbl3 hb2 hbb2 ha2 hv2
  go_wp2_with fail
  refine (more_any (sum xs) bs bv w3 hbb3 (by omega)).mono ?_
  rintro e w4 ⟨rfl, hbl4⟩
  rw [more_sum]
  have hz4 := hbl4.size
  have hb4 := hb3.trans (hbl4.mono hz33)
  have ha4 := (ha3.below hbl4 (Nat.le_refl _)).mono hz4
  have hv4 := (hv3.below hbl4 (Nat.le_refl _)).mono hz4
  have hz44 := hb4.size
  clear hbl4 hb3 ha3 hv3 hbb3
  go_wp2_with fail
  refine (sum_any (xs ++ bs) v2 w4 hv4 (by rw [List.length_append]; omega)).mono ?_
  rintro e w5 ⟨rfl, hbl5⟩
  have hz5 := hbl5.size
  have hb5 := hb4.trans (hbl5.mono hz44)
  have ha5 := (ha4.below hbl5 (Nat.le_refl _)).mono hz5
  have hz55 := hb5.size
  clear hbl5 hb4 ha4 hv4
  go_wp2_with fail
  refine (sum_any xs av w5 ha5 (by omega)).mono ?_
  rintro e w6 ⟨rfl, hbl6⟩
  have hz6 := hbl6.size
  have hb6 := hb5.trans (hbl6.mono hz55)
  have ha6 := (ha5.below hbl6 (Nat.le_refl _)).mono hz6
  have hz66 := hb6.size
  clear hbl6 hb5 ha5
  go_wp2_with fail
  refine (more_any (sum xs) [] _ w6 (SlB.nil _ _) (by simp)).mono ?_
  rintro e w7 ⟨rfl, hbl7⟩
  rw [more_nil]
  have hz7 := hbl7.size
  have hb7 := hb6.trans (hbl7.mono hz66)
  have ha7 := (ha6.below hbl7 (Nat.le_refl _)).mono hz7
  have hz77 := hb7.size
  clear hbl7 hb6 ha6
  go_wp2_with fail
  refine (sum_any xs av w7 ha7 (by omega)).mono ?_
  rintro e w8 ⟨rfl, hbl8⟩
  have hb8 := hb7.trans (hbl8.mono hz77)
  have hz8 := hb8.size
  clear hbl8 hb7 ha7
  go_wp2_with (go_at_call 10; refine (awake_any _).mono ?_; rintro e w' ⟨rfl, hbel⟩)
  go_ret
  exact ⟨rfl, hb8.trans (hbel.mono hz8)⟩

theorem xor_u8u8 (x z : UInt8) : bits .xor .u8 (x.toNat : Int) (z.toNat : Int) = ((x ^^^ z).toNat : Int) := by
  rw [u8_xor_nat x.toNat z.toNat x.toNat_lt z.toNat_lt, UInt8.toNat_xor]

theorem xor_ne (x z : UInt8) (h : z ≠ 0) : x ^^^ z ≠ x := by
  intro e
  apply h
  have := congrArg (x ^^^ ·) e
  simpa [← UInt8.xor_assoc] using this

theorem set_split {α} (l : List α) (k : Nat) (a d : α) (h : k < l.length) : l.set k a = l.take k ++ a :: l.drop (k+1) ∧ l = l.take k ++ l.getD k d :: l.drop (k+1) := by
  refine ⟨List.set_eq_take_append_cons_drop.trans (by rw [if_pos h]), ?_⟩
  have e : l.drop k = l.getD k d :: l.drop (k+1) := by
    rw [List.drop_eq_getElem_cons h, List.getD_eq_getElem?_getD, List.getElem?_eq_getElem h]; rfl
  rw [← e, List.take_append_drop]

theorem toNat_ne {n : Nat} {a b : BitVec n} (h : a ≠ b) : ((a.toNat : Int) != (b.toNat : Int)) = true := by
  rw [bne_iff_ne]
  intro e
  exact h (BitVec.eq_of_toNat_eq (by omega))

theorem idx (a : Int) (n : Nat) (hn : 0 < n) : ∃ k : Nat, k < n ∧ (IntKind.u64.wrap a).tmod (n : Int) = (k : Int) := by
  rw [IntKind.wrap_u64, tmod_of_emod]
  have h1 := Int.emod_nonneg (a % 18446744073709551616) (show (n : Int) ≠ 0 by omega)
  have h2 := Int.emod_lt_of_pos (a % 18446744073709551616) (show (0 : Int) < n by omega)
  obtain ⟨k, hk⟩ := Int.eq_ofNat_of_zero_le h1
  exact ⟨k, by omega, hk⟩

theorem wf_u8x (by_ : UInt8) : 0 ≤ (by_.toNat : Int) ∧ (by_.toNat : Int) ≤ 255 := by have := by_.toNat_lt; omega

set_option maxRecDepth 100000 in
set_option maxHeartbeats 2000000 in
theorem crcOne_walk (bs : List UInt8) (bv : Value) (at_ : Int) (y : UInt8) (w : World) (hb : SlB w w.heap.size bv bs) :
    Calls Try.prog 7 #[bv, .int .i64 at_, .int .u8 y.toNat] w fun e w' => e = .returned (.bool true) ∧ Below w.heap.size w w' := by
  have hlb := fun w => len_sl (P := Try.prog) Try.underlying22 (ty := 3) hb.choose_spec.choose_spec.1 w
  have hyl := y.toNat_lt
  by_cases h0 : bs.length = 0
  · have hc : ((bs.length : Int) == 0) = true := by simp [h0]
    clear h0
    go_enter Try.func7, Try.ntmps7
    go_wp2_with (go_at_call 10; refine (awake_any _).mono ?_; rintro e w' ⟨rfl, hbel⟩)
    go_ret
    exact ⟨rfl, hbel⟩
  have hc : ((bs.length : Int) == 0) = false := by rw [beq_eq_false_iff_ne]; omega
  by_cases h2 : 20000 < bs.length
  · go_enter Try.func7, Try.ntmps7
    go_wp2_with (go_at_call 10; refine (awake_any _).mono ?_; rintro e w' ⟨rfl, hbel⟩)
    go_ret
    exact ⟨rfl, hbel⟩
  obtain ⟨k, hk, hidx⟩ := idx at_ bs.length (by omega)
  go_enter Try.func7, Try.ntmps7
  go_wp2_with (at_builtin; refine append_sl _ rfl _ _ 22 5 rfl Try.underlying22 Try.info5 w.heap.size _ [] rfl (own_empty w 5) _ bs w.heap.size rfl (hb.below ((Below.refl _ _).alloc (Nat.le_refl _) _) (Nat.le_refl _)) ?_ ?_ ?_)
  · simp; omega
  · simp
  intro v1 w1 ho1 hbl1
  have hb1 := ((Below.refl w.heap.size w).alloc (Nat.le_refl _) (.cells #[] 5)).trans hbl1
  have hz1 := hb1.size
  have ho1' : OwnB w1 w.heap.size 5 v1 bs := by simpa using ho1
  clear ho1 hbl1
  obtain ⟨g, gc, rfl, hg1, hg2, hg3, hcell⟩ := ho1'.at k (by omega)
  obtain ⟨x, hx⟩ : ∃ x, x = bs.getD k 0 := ⟨_, rfl⟩
  rw [← hx] at hcell
  have HX := hid hx
  clear hx
  have hfz := ho1'.fz k
  obtain ⟨y', hy', hyn⟩ : ∃ y' : UInt8, (1 : Int) + (y.toNat : Int) % 255 = (y'.toNat : Int) ∧ y' ≠ 0 := by
    refine ⟨UInt8.ofNat (1 + y.toNat % 255), by rw [UInt8.toNat_ofNat']; omega, ?_⟩
    intro e
    have := congrArg UInt8.toNat e
    rw [UInt8.toNat_ofNat'] at this
    simp at this
    omega
  have hxo := xor_u8u8 x y'
  obtain ⟨z, hz⟩ : ∃ z, z = x ^^^ y' := ⟨_, rfl⟩
  rw [← hz] at hxo
  rw [← hy'] at hxo
  have hzx : z ≠ x := by rw [hz]; exact xor_ne x y' hyn
  have hfin : finger (bs.set k z) ≠ finger bs := by
    obtain ⟨e1, e2⟩ := set_split bs k z 0 hk
    rw [e1]
    conv => rhs; rw [e2, ← HX.out]
    exact finger_one _ _ _ _ hzx
  have hfb := toNat_ne hfin
  have HF := hid hfb
  clear hfin hfb hzx hz hyn hy'
  go_wp2_with fail
  have ho2 := (ho1'.store k z).resolve_right (by omega)
  have hb2 := hb1.setCell (p := ⟨g, k, none⟩) hg1 (u8 z)
  have hz2 := hb2.size
  obtain ⟨w2, hw2⟩ : ∃ w2, w2 = w1.setCell ⟨g, k, none⟩ (u8 z) := ⟨_, rfl⟩
  have hwx : w1.setCell ⟨g, k, none⟩ (.int .u8 (z.toNat : Int)) = w2 := hw2.symm
  rw [hwx]
  rw [← hw2] at ho2 hb2 hz2
  clear hwx hw2 hxo hcell hfz ho1' hb1 hz1 HX
  have hv2 := ho2.slB
  have hbb2 := (hb.below hb2 (Nat.le_refl _)).mono hz2
  have hls : (bs.set k z).length = bs.length := List.length_set
  refine (finger_any (bs.set k z) _ w2 hv2 (by omega)).mono ?_
  rintro e w3 ⟨rfl, rfl⟩
  clear ho2 hv2
  go_wp2_with fail
  refine (finger_any bs bv w2 hbb2 (by omega)).mono ?_
  rintro e w3 ⟨rfl, rfl⟩
  have hfb := HF.out
  go_wp2_with (go_at_call 10; refine (awake_any _).mono ?_; rintro e w' ⟨rfl, hbel⟩)
  go_ret
  exact ⟨rfl, hb2.trans (hbel.mono hz2)⟩

theorem dB0 (q : BitVec 32) : (q.toNat : Int) % (256 : Int) = ((dB q 0).toNat : Int) := by unfold dB; rw [UInt8.toNat_ofNat']; simp
theorem dB1 (q : BitVec 32) : (q.toNat : Int) / (256 : Int) % (256 : Int) = ((dB q 1).toNat : Int) := by unfold dB; rw [UInt8.toNat_ofNat']; simp
theorem dB2 (q : BitVec 32) : (q.toNat : Int) / (65536 : Int) % (256 : Int) = ((dB q 2).toNat : Int) := by unfold dB; rw [UInt8.toNat_ofNat']; simp
theorem dB3 (q : BitVec 32) : (q.toNat : Int) / (16777216 : Int) = ((dB q 3).toNat : Int) := by
  unfold dB; rw [UInt8.toNat_ofNat']; have := q.isLt; simp; omega

theorem turn_step (c bs : List UInt8) (k j : Nat) (q : BitVec 32) (hl : k + j < c.length)
    (HC : ∀ i, c.getD i 0 = bs.getD i 0 ^^^ (if k ≤ i ∧ i < k + j then dB q (i - k) else 0)) :
    ∀ i, (c.set (k + j) (c.getD (k + j) 0 ^^^ dB q j)).getD i 0 = bs.getD i 0 ^^^ (if k ≤ i ∧ i < k + (j + 1) then dB q (i - k) else 0) := by
  intro i
  have h0 := HC (k + j)
  rw [if_neg (by omega), UInt8.xor_zero] at h0
  by_cases e : i = k + j
  · subst e
    rw [if_pos ⟨by omega, by omega⟩, List.getD_eq_getElem?_getD, List.getElem?_set_self hl, h0, show k + j - k = j by omega]; rfl
  · rw [List.getD_eq_getElem?_getD, List.getElem?_set_ne (Ne.symm e), ← List.getD_eq_getElem?_getD, HC i]
    by_cases h : k ≤ i ∧ i < k + j
    · rw [if_pos h, if_pos ⟨h.1, by omega⟩]
    · rw [if_neg h, if_neg (by omega)]

set_option maxRecDepth 100000 in
set_option maxHeartbeats 2000000 in
theorem crcTurned_walk (bs : List UInt8) (bv : Value) (at_ : Int) (q : BitVec 32) (w : World) (hb : SlB w w.heap.size bv bs) :
    Calls Try.prog 6 #[bv, .int .i64 at_, .int .u32 q.toNat] w fun e w' => e = .returned (.bool true) ∧ Below w.heap.size w w' := by
  have hlb := fun w => len_sl (P := Try.prog) Try.underlying22 (ty := 3) hb.choose_spec.choose_spec.1 w
  have hql := q.isLt
  by_cases h0 : bs.length < 4
  · go_enter Try.func6, Try.ntmps6
    go_wp2_with (go_at_call 10; refine (awake_any _).mono ?_; rintro e w' ⟨rfl, hbel⟩)
    go_ret
    exact ⟨rfl, hbel⟩
  by_cases h2 : 20000 < bs.length
  · go_enter Try.func6, Try.ntmps6
    go_wp2_with (go_at_call 10; refine (awake_any _).mono ?_; rintro e w' ⟨rfl, hbel⟩)
    go_ret
    exact ⟨rfl, hbel⟩
  by_cases hq0 : q = 0
  · have hc : ((q.toNat : Int) == 0) = true := by rw [hq0]; rfl
    clear hq0
    go_enter Try.func6, Try.ntmps6
    go_wp2_with (go_at_call 10; refine (awake_any _).mono ?_; rintro e w' ⟨rfl, hbel⟩)
    go_ret
    exact ⟨rfl, hbel⟩
  have hc : ((q.toNat : Int) == 0) = false := by
    rw [beq_eq_false_iff_ne]; intro e; exact hq0 (BitVec.eq_of_toNat_eq (by simpa using (by omega : q.toNat = 0)))
  obtain ⟨n3, hn3⟩ : ∃ n3 : Nat, bs.length = n3 + 3 := ⟨bs.length - 3, by omega⟩
  obtain ⟨k, hk, hidx⟩ := idx at_ n3 (by omega)
  have hsub : (bs.length : Int) - 3 = (n3 : Int) := by omega
  have HN := hid hn3
  clear hn3
  have hk4 : k + 4 ≤ bs.length := by have := HN.out; omega
  have hn3b : n3 ≤ 20000 := by have := HN.out; omega
  have hn3p : 0 < n3 := by omega
  go_enter Try.func6, Try.ntmps6
  go_wp2_with (at_builtin; refine append_sl _ rfl _ _ 22 5 rfl Try.underlying22 Try.info5 w.heap.size _ [] rfl (own_empty w 5) _ bs w.heap.size rfl (hb.below ((Below.refl _ _).alloc (Nat.le_refl _) _) (Nat.le_refl _)) ?_ ?_ ?_)
  · simp; omega
  · simp
  intro v1 w1 ho1 hbl1
  have hb1 := ((Below.refl w.heap.size w).alloc (Nat.le_refl _) (.cells #[] 5)).trans hbl1
  have hz1 := hb1.size
  have ho1' : OwnB w1 w.heap.size 5 v1 bs := by simpa using ho1
  clear ho1 hbl1
  obtain ⟨g, gc, rfl, hg1, hg2, hg3, hcell⟩ := ho1'.at k (by omega)
  clear hcell
  go_wp2_with fail
  go_loopw [9] (fun i wr => ∃ (j : Nat) (c : List UInt8), j ≤ 4 ∧ i = .int .i64 j ∧ c.length = bs.length ∧ OwnB wr w.heap.size 5 (.slice (some ⟨g, 0, none⟩) bs.length gc) c ∧ Below w.heap.size w wr ∧
      Hid (∀ i, c.getD i 0 = bs.getD i 0 ^^^ (if k ≤ i ∧ i < k + j then dB q (i - k) else 0)))
    (fun i _ => 4 - (intOf i).toNat)
  case atStart => exact ⟨0, bs, by omega, rfl, rfl, ho1', hb1, fun i => by rw [if_neg (by omega)]; simp⟩
  case round =>
    obtain ⟨j, c, hj, rfl, hcl, ho, hbel, HC⟩ := hrel
    clear ho1' hb1 hz1
    have HCL := hid hcl
    by_cases hj4 : j < 4
    · have hcell := ho.cellAt (k + j) (by omega)
      have hfz := ho.fz (k + j)
      obtain ⟨x, hx⟩ : ∃ x, x = c.getD (k + j) 0 := ⟨_, rfl⟩
      rw [← hx] at hcell
      have HX := hid hx
      clear hx hcl hc hidx
      have hj5 : j = 0 ∨ j = 1 ∨ j = 2 ∨ j = 3 := by omega
      have hl' : k + j < c.length := by have := HCL.out; omega
      have HS := turn_step c bs k j q hl' HC.out
      rw [← HX.out] at HS
      have ho' := (ho.store (k + j) (x ^^^ dB q j)).resolve_right (by omega)
      have hbel' := hbel.setCell (p := ⟨g, k + j, none⟩) hg1 (u8 (x ^^^ dB q j))
      have HS := hid HS
      have hxx := xor_u8u8 x (dB q j)
      clear ho hbel HC HX hl'
      obtain ⟨z, hz⟩ : ∃ z, z = x ^^^ dB q j := ⟨_, rfl⟩
      rw [← hz] at HS ho' hbel' hxx
      clear hz
      rcases hj5 with rfl | rfl | rfl | rfl
      · simp only [Nat.add_zero] at hcell hfz ho' hbel' HS
        rw [← dB0] at hxx
        have HO := hid (And.intro ho' hbel')
        clear ho' hbel'
        go_wp2
        go_roundw
        case rel => exact ⟨1, _, by omega, rfl, by rw [List.length_set]; exact HCL.out, HO.out.1, HO.out.2, HS⟩
        case measure => simp [intOf]
      · rw [← dB1] at hxx
        have HO := hid (And.intro ho' hbel')
        clear ho' hbel'
        go_wp2
        go_roundw
        case rel => exact ⟨2, _, by omega, rfl, by rw [List.length_set]; exact HCL.out, HO.out.1, HO.out.2, HS⟩
        case measure => simp [intOf]
      · rw [← dB2] at hxx
        have HO := hid (And.intro ho' hbel')
        clear ho' hbel'
        go_wp2
        go_roundw
        case rel => exact ⟨3, _, by omega, rfl, by rw [List.length_set]; exact HCL.out, HO.out.1, HO.out.2, HS⟩
        case measure => simp [intOf]
      · rw [← dB3] at hxx
        have HO := hid (And.intro ho' hbel')
        clear ho' hbel'
        go_wp2
        go_roundw
        case rel => exact ⟨4, _, by omega, rfl, by rw [List.length_set]; exact HCL.out, HO.out.1, HO.out.2, HS⟩
        case measure => simp [intOf]
    · obtain rfl : j = 4 := by omega
      have hT := turned q hq0 bs c k hk4 HCL.out (fun i _ => HC.out i)
      have hTn := toNat_ne hT
      have HT := hid hTn
      have hv := ho.slB
      have hz := hbel.size
      have hbb := (hb.below hbel (Nat.le_refl _)).mono hz
      have hcl2 : c.length ≤ 20000 := by have := HCL.out; omega
      clear hT hTn HC ho hcl hc hidx
      go_wp2_with fail
      refine (sum_any c _ _ hv (by omega)).mono ?_
      rintro e w3 ⟨rfl, hbl3⟩
      have hz3 := hbl3.size
      have hb3 := hbel.trans (hbl3.mono hz)
      have hbb3 := (hbb.below hbl3 (Nat.le_refl _)).mono hz3
      have hz4 := hb3.size
      clear hbl3 hbel hbb hv
      go_wp2_with fail
      refine (sum_any bs bv _ hbb3 (by omega)).mono ?_
      rintro e w4 ⟨rfl, hbl4⟩
      have hb4 := hb3.trans (hbl4.mono hz4)
      have hz5 := hb4.size
      clear hbl4 hb3 hbb3
      have hTn := HT.out
      go_wp2_with (go_at_call 10; refine (awake_any _).mono ?_; rintro e w' ⟨rfl, hbel⟩)
      go_ret
      exact ⟨rfl, hb4.trans (hbel.mono hz5)⟩
end Go.Proofs.Ytddicddbpfenpaa
