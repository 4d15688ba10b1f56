import Derived.Test.YtmbfcpdflhjfnaaK2
import Derived.Test.YtmbfcpdflhjfnaaP1
import Derived.Test.YtmbfcpdflhjfnaaL4
namespace Go.Proofs.Ytmbfcpdflhjfnaa
open Go.RowKit Go.Mx Go.Lz

set_option maxRecDepth 100000 in
theorem added_any (v : Value) (l : List UInt8) (n base : Nat) (w : World) (hown : OwnB w base 5 v l) (hB : base ≤ w.heap.size) (hl : l.length + n ≤ 100000000) :
    Calls Try.prog 22 #[v, .int .i64 n] w fun e w' => ∃ v', e = .returned v' ∧ OwnB w' base 5 v' (l ++ addedL n) ∧ Below base w w' := by
  by_cases hn : n < 15
  · have HA : Hid (l ++ addedL n = l) := by unfold Hid addedL; rw [if_pos hn]; simp
    go_enter Try.func22, Try.ntmps22
    go_wp2
    go_ret
    exact ⟨v, rfl, by rw [HA.out]; exact hown, Below.refl _ _⟩
  · have HA : Hid (l ++ addedL n = l ++ (List.replicate ((n - 15) / 255) 255 ++ [UInt8.ofNat ((n - 15) % 255)])) := by unfold Hid addedL; rw [if_neg hn]
    obtain ⟨T, hT⟩ : ∃ T, T = l ++ addedL n := ⟨_, rfl⟩
    rw [← hT] at HA ⊢
    clear hT
    go_enter Try.func22, Try.ntmps22
    go_wp2
    go_loopw [0, 1] (fun s m wr => ∃ (q : Nat) (l2 : List UInt8), OwnB wr base 5 s l2 ∧ m = .int .i64 q ∧ l2.length + q ≤ 100000000 ∧ Below base w wr ∧ Hid (T = l2 ++ (List.replicate (q / 255) 255 ++ [UInt8.ofNat (q % 255)])))
      (fun _ m _ => (intOf m).toNat)
    case atStart => exact ⟨n - 15, l, hown, by rw [show ((n - 15 : Nat) : Int) = (n : Int) - 15 by omega], by omega, Below.refl _ _, HA⟩
    case round =>
      obtain ⟨q, l2, ho, rfl, hl2, hb, HT⟩ := hrel
      have hz := hb.size
      by_cases hq : 255 ≤ q
      · go_wp2_with (at_builtin; refine append_byte _ rfl _ _ 22 5 rfl Try.underlying22 Try.info5 base _ l2 255 rfl (ho.alloc _) wr.heap.size 1 rfl (cell_alloc1 _ _ _) ?_ ?_ ?_)
        · omega
        · simp; omega
        intro v' w' ho' hbl
        have hb' := hb.trans (((Below.refl _ wr).alloc (by omega) _).trans hbl)
        clear hbl ho hb hz
        go_wp2
        go_roundw
        case rel => exact ⟨q - 255, _, ho', by rw [show ((q - 255 : Nat) : Int) = (q : Int) - 255 by omega], by simp; omega, hb', by
          rw [HT.out]; unfold Hid
          rw [added_rep, show (q - 255) / 255 + 1 = q / 255 by omega, show (q - 255) % 255 = q % 255 by omega]⟩
        case measure => simp [intOf]; omega
      · have HU : Hid (u8 (UInt8.ofNat q) = .int .u8 q) := by unfold Hid u8; congr 1; rw [UInt8.toNat_ofNat']; omega
        have hq2 : q / 255 = 0 := by omega
        have hq3 : q % 255 = q := by omega
        have hT := HT.out
        rw [hq2, hq3] at hT
        simp only [List.replicate_zero, List.nil_append] at hT
        have HT2 := hid hT
        clear hT HT hq2 hq3
        go_wp2_with (at_builtin; refine append_byte _ rfl _ _ 22 5 rfl Try.underlying22 Try.info5 base _ l2 (UInt8.ofNat q) rfl (ho.alloc _) wr.heap.size 1 rfl (by rw [HU.out]; exact cell_alloc1 _ _ _) ?_ ?_ ?_)
        · omega
        · simp; omega
        intro v' w' ho' hbl
        have hb' := hb.trans (((Below.refl _ wr).alloc (by omega) _).trans hbl)
        clear hbl ho hb hz
        go_wp2
        go_ret
        exact ⟨v', rfl, by rw [HT2.out]; exact ho', hb'⟩

theorem or16 (a b : Nat) (h1 : a < 16) (h2 : b < 16) : bits .or .i64 ((a : Int) * 16) (b : Int) = ((a * 16 + b : Nat) : Int) := by
  have e : ∀ n : Nat, n < 65536 → (BitVec.ofInt 64 (n:Int)).toNat = n := by
    intro n hn; simp [BitVec.toNat_ofInt]; omega
  have e2 : a * 16 ||| b = a * 16 + b := by
    have := Nat.shiftLeft_add_eq_or_of_lt (i := 4) (b := b) (by omega) a
    rw [Nat.shiftLeft_eq] at this
    exact this.symm
  rw [show (a : Int) * 16 = ((a * 16 : Nat) : Int) by simp]
  have e3 : (BitVec.ofInt 64 ((a * 16 : Nat) : Int) ||| BitVec.ofInt 64 (b : Int)).toNat = a * 16 + b := by
    rw [BitVec.toNat_or, e (a * 16) (by omega), e b (by omega), e2]
  show IntKind.i64.wrap ((BitVec.ofInt 64 ((a * 16 : Nat) : Int) ||| BitVec.ofInt 64 (b : Int)).toNat : Int) = _
  rw [e3]
  simp [IntKind.wrap, IntKind.bits, IntKind.signed]
  omega

theorem or_tok (X Y : Int) (l m : Nat) (hX : X = ((min l 15 : Nat) : Int) * 16) (hY : Y = ((min m 15 : Nat) : Int)) : bits .or .i64 X Y % 256 = ((tokL l m).toNat : Int) := by
  subst hX; subst hY
  rw [or16 _ _ (by omega) (by omega)]
  unfold tokL
  rw [UInt8.toNat_ofNat']
  omega

set_option maxRecDepth 100000 in
set_option maxHeartbeats 2000000 in
theorem seq_any (v pv : Value) (l plain : List UInt8) (far m base B : Nat) (w : World) (hown : OwnB w base 5 v l) (hp : SlB w B pv plain) (hBB : B ≤ base) (hB : base ≤ w.heap.size) (hl : l.length + plain.length + m ≤ 10000000) (hfar : far < 65536) :
    Calls Try.prog 21 #[v, pv, .int .i64 far, .int .i64 (m + 4 : Nat)] w fun e w' => ∃ v', e = .returned v' ∧ OwnB w' base 5 v' (l ++ seqL plain far m) ∧ Below base w w' := by
  have hlp := fun w => len_sl (P := Try.prog) Try.underlying22 (ty := 3) hp.choose_spec.choose_spec.1 w
  have hm0 : (((m : Int) + 4) == 0) = false := by rw [beq_eq_false_iff_ne]; omega
  rcases Nat.lt_or_ge 15 plain.length with h1 | h1 <;> rcases Nat.lt_or_ge 15 m with h2 | h2
  all_goals
    go_enter Try.func21, Try.ntmps21
    go_wp2_with (at_builtin; refine append_byte _ rfl _ _ 22 5 rfl Try.underlying22 Try.info5 base _ l (tokL plain.length m) rfl (hown.alloc _) w.heap.size 1 rfl (cell_u8 _ _ _ _ ?_) ?_ ?_ ?_)
    · exact or_tok _ _ _ _ (by omega) (by omega)
    · omega
    · simp; omega
    intro v1 w1 ho1 hbl1
    have hb1 := ((Below.refl base w).alloc hB _).trans hbl1
    have hz1 := hb1.size
    clear hbl1
    go_wp2_with fail
    refine (added_any v1 _ plain.length base _ ho1 (by omega) (by simp; omega)).mono ?_
    rintro e w2 ⟨v2, rfl, ho2, hbl2⟩
    have hb2 := hb1.trans hbl2
    have hz2 := hb2.size
    clear hbl2 ho1 hb1 hz1
    go_wp2_with (at_builtin; refine append_sl _ rfl _ _ 22 5 rfl Try.underlying22 Try.info5 base _ _ rfl ho2 _ plain B rfl (hp.below hb2 hBB) ?_ ?_ ?_)
    · simp [addedL_length]; split <;> omega
    · omega
    intro v3 w3 ho3 hbl3
    have hb3 := hb2.trans hbl3
    have hz3 := hb3.size
    clear hbl3 ho2 hb2 hz2
    go_wp2_with (at_builtin; refine append_sl _ rfl _ _ 22 5 rfl Try.underlying22 Try.info5 base _ _ rfl (ho3.alloc _) _ [UInt8.ofNat far, UInt8.ofNat (far / 256)] (w3.heap.size + 1) rfl (sl2 _ _ _ _ _ _ ?_ ?_) ?_ ?_ ?_)
    · rw [UInt8.toNat_ofNat']; omega
    · rw [UInt8.toNat_ofNat']; omega
    · simp [addedL_length]; split <;> omega
    · simp; omega
    intro v4 w4 ho4 hbl4
    have hb4 := (hb3.alloc (by omega) _).trans hbl4
    have hz4 := hb4.size
    clear hbl4 ho3 hb3 hz3
    go_wp2_with fail
    refine (added_any v4 _ m base _ ho4 (by omega) (by simp [addedL_length]; split <;> omega)).mono ?_
    rintro e w5 ⟨v5, rfl, ho5, hbl5⟩
    have hb5 := hb4.trans hbl5
    clear hbl5 ho4 hb4 hz4
    go_wp2
    go_ret
    exact ⟨v5, rfl, by simpa [seqL] using ho5, hb5⟩

set_option maxRecDepth 100000 in
set_option maxHeartbeats 2000000 in
theorem seq_end (v pv : Value) (l plain : List UInt8) (base B : Nat) (w : World) (hown : OwnB w base 5 v l) (hp : SlB w B pv plain) (hBB : B ≤ base) (hB : base ≤ w.heap.size) (hl : l.length + plain.length ≤ 10000000) :
    Calls Try.prog 21 #[v, pv, .int .i64 0, .int .i64 0] w fun e w' => ∃ v', e = .returned v' ∧ OwnB w' base 5 v' (l ++ tailL plain) ∧ Below base w w' := by
  have hlp := fun w => len_sl (P := Try.prog) Try.underlying22 (ty := 3) hp.choose_spec.choose_spec.1 w
  obtain ⟨tb, htb⟩ : ∃ tb, tb = UInt8.ofNat (min plain.length 15 * 16) := ⟨_, rfl⟩
  have HTB := hid htb
  clear htb
  rcases Nat.lt_or_ge 15 plain.length with h1 | h1
  all_goals
    go_enter Try.func21, Try.ntmps21
    go_wp2_with (at_builtin; refine append_byte _ rfl _ _ 22 5 rfl Try.underlying22 Try.info5 base _ l tb rfl (hown.alloc _) w.heap.size 1 rfl (cell_u8 _ _ _ _ ?_) ?_ ?_ ?_)
    · rw [HTB.out, UInt8.toNat_ofNat']; omega
    · omega
    · simp; omega
    intro v1 w1 ho1 hbl1
    have hb1 := ((Below.refl base w).alloc hB _).trans hbl1
    have hz1 := hb1.size
    clear hbl1
    go_wp2_with fail
    refine (added_any v1 _ plain.length base _ ho1 (by omega) (by simp; omega)).mono ?_
    rintro e w2 ⟨v2, rfl, ho2, hbl2⟩
    have hb2 := hb1.trans hbl2
    have hz2 := hb2.size
    clear hbl2 ho1 hb1 hz1
    go_wp2_with (at_builtin; refine append_sl _ rfl _ _ 22 5 rfl Try.underlying22 Try.info5 base _ _ rfl ho2 _ plain B rfl (hp.below hb2 hBB) ?_ ?_ ?_)
    · simp [addedL_length]; split <;> omega
    · omega
    intro v3 w3 ho3 hbl3
    have hb3 := hb2.trans hbl3
    clear hbl3 ho2 hb2 hz2
    have ho4 : OwnB w3 base 5 v3 (l ++ tailL plain) := by unfold tailL; rw [← HTB.out]; simpa only [List.append_assoc, List.cons_append, List.nil_append] using ho3
    clear ho3
    go_wp2
    go_ret
    exact ⟨v3, rfl, ho4, hb3⟩
end Go.Proofs.Ytmbfcpdflhjfnaa
