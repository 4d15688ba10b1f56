import Derived.Test.YtmbfcpdflhjfnaaI
namespace Go.Proofs.Ytmbfcpdflhjfnaa
open Go.RowKit Go.Mx Go.Lz

set_option maxRecDepth 100000 in
set_option maxHeartbeats 2000000 in
theorem lseq_any (v pv : Value) (l plain : List UInt8) (far m base : Nat) (w : World) (hown : OwnB w base 5 v l) (hp : SlB w base pv plain) (hB : base ≤ w.heap.size) (hl : l.length + plain.length + m ≤ 1000000) (hfar : far < 65536) :
    Calls Try.prog 15 #[v, pv, .int .i64 far, .int .i64 (m + 4 : Nat)] w fun e w' => ∃ v', e = .returned v' ∧ OwnB w' base 5 v' (l ++ seqL plain far m) ∧ Below base w w' := by
  have hlp := fun w => len_sl (P := Try.prog) Try.underlying22 (ty := 3) hp.choose_spec.choose_spec.1 w
  rcases Nat.lt_or_ge 15 plain.length with h1 | h1 <;> rcases Nat.lt_or_ge 15 m with h2 | h2
  all_goals
    go_enter Try.func15, Try.ntmps15
    go_wp2_with (at_builtin; refine append_byte _ rfl _ _ 22 5 rfl Try.underlying22 Try.info5 base _ l (tokL plain.length m) rfl (hown.alloc _) w.heap.size 1 rfl (cell_u8 _ _ _ _ ?_) ?_ ?_ ?_)
    · unfold tokL; rw [UInt8.toNat_ofNat']; omega
    · omega
    · simp; omega
    intro v1 w1 ho1 hbl1
    have hb1 := ((Below.refl base w).alloc hB _).trans hbl1
    have hz1 := hb1.size
    clear hbl1
    go_wp2_with fail
    refine (ladded_any v1 _ plain.length base _ ho1 (by omega) (by simp; omega)).mono ?_
    rintro e w2 ⟨v2, rfl, ho2, hbl2⟩
    have hb2 := hb1.trans hbl2
    have hz2 := hb2.size
    clear hbl2 ho1 hb1 hz1
    go_wp2_with (at_builtin; refine append_sl _ rfl _ _ 22 5 rfl Try.underlying22 Try.info5 base _ _ rfl ho2 _ plain base rfl (hp.below hb2 (Nat.le_refl _)) ?_ ?_ ?_)
    · simp [addedL_length]; split <;> omega
    · omega
    intro v3 w3 ho3 hbl3
    have hb3 := hb2.trans hbl3
    have hz3 := hb3.size
    clear hbl3 ho2 hb2 hz2
    go_wp2_with (at_builtin; refine append_sl _ rfl _ _ 22 5 rfl Try.underlying22 Try.info5 base _ _ rfl (ho3.alloc _) _ [UInt8.ofNat far, UInt8.ofNat (far / 256)] (w3.heap.size + 1) rfl (sl2 _ _ _ _ _ _ ?_ ?_) ?_ ?_ ?_)
    · rw [UInt8.toNat_ofNat']; omega
    · rw [UInt8.toNat_ofNat']; omega
    · simp [addedL_length]; split <;> omega
    · simp; omega
    intro v4 w4 ho4 hbl4
    have hb4 := (hb3.alloc (by omega) _).trans hbl4
    have hz4 := hb4.size
    clear hbl4 ho3 hb3 hz3
    go_wp2_with fail
    refine (ladded_any v4 _ m base _ ho4 (by omega) (by simp [addedL_length]; split <;> omega)).mono ?_
    rintro e w5 ⟨v5, rfl, ho5, hbl5⟩
    have hb5 := hb4.trans hbl5
    clear hbl5 ho4 hb4 hz4
    go_wp2
    go_ret
    exact ⟨v5, rfl, by simpa [seqL] using ho5, hb5⟩
end Go.Proofs.Ytmbfcpdflhjfnaa
