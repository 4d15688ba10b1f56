import Derived.Test.YtmbfcpdflhjfnaaP3
import Derived.Test.YtmbfcpdflhjfnaaM4
namespace Go.Proofs.Ytmbfcpdflhjfnaa
open Go.RowKit Go.Mx Go.Lz

set_option maxRecDepth 100000 in
set_option maxHeartbeats 1000000 in
theorem pack_call (bs : List UInt8) (bv : Value) (w : World) (hb : SlB w w.heap.size bv bs) (hlen : bs.length ≤ 1048576) :
    Calls Try.prog 17 #[bv] w fun e w' => ∃ v, e = .returned v ∧ SlB w' w'.heap.size v (pack bs) ∧ Below w.heap.size w w' := by
  obtain ⟨oa, cap, rfl, h1, h2, h3⟩ := hb
  by_cases hne : bs = []
  · subst hne
    have hm := @run_makeMap Try.prog
    have hp : pack [] = [0] := by decide
    rw [hp]
    have h2' : cap ≤ 9223372036854775807 := by unfold maxLen at h2; omega
    have hse : ∀ (pv : Value) (wx : World), SlB wx w.heap.size pv [] → w.heap.size + 1 ≤ wx.heap.size → Calls Try.prog 21 #[.slice none 0 0, pv, .int .i64 0, .int .i64 0] wx fun e w' => ∃ v', e = .returned v' ∧ OwnB w' (w.heap.size + 1) 5 v' ([] ++ tailL []) ∧ Below (w.heap.size + 1) wx w' := fun pv wx hs hz =>
      seq_end (.slice none 0 0) pv [] [] (w.heap.size + 1) w.heap.size wx (OwnB.nil _ _ _) hs (by omega) hz (by simp)
    have HSE := hid hse
    clear hse h3 h1 h2
    have hb0 : Below w.heap.size w (w.alloc (.map #[] 0)) := ⟨rfl, rfl, rfl, by simp, fun k hk => by show (w.heap.push _)[k]? = _; rw [Array.getElem?_push, if_neg (by omega)]⟩
    have HB := hid hb0
    clear hb0
    simp only [List.length_nil]
    cases oa with
    | none =>
      go_enter Try.func17, Try.ntmps17
      go_wp2
      refine wp_loop_once ?_
      go_wp2_with fail
      refine (HSE.out _ _ ⟨_, cap, rfl, by simp, by unfold maxLen; omega, fun h => absurd rfl h⟩ (by simp)).mono ?_
      rintro e w6 ⟨v6, rfl, ho6, hb6⟩
      have ho7 : SlB w6 w6.heap.size v6 [0] := ho6.slB
      have hb7 := HB.out.trans (hb6.mono (by omega))
      clear ho6 hb6
      go_wp2
      go_ret
      exact ⟨v6, rfl, ho7, hb7⟩
    | some a =>
      go_enter Try.func17, Try.ntmps17
      go_wp2
      refine wp_loop_once ?_
      go_wp2_with fail
      refine (HSE.out _ _ ⟨_, cap, rfl, by simp, by unfold maxLen; omega, fun h => absurd rfl h⟩ (by simp)).mono ?_
      rintro e w6 ⟨v6, rfl, ho6, hb6⟩
      have ho7 : SlB w6 w6.heap.size v6 [0] := ho6.slB
      have hb7 := HB.out.trans (hb6.mono (by omega))
      clear ho6 hb6
      go_wp2
      go_ret
      exact ⟨v6, rfl, ho7, hb7⟩
  · obtain ⟨bb, bo, rfl, hbb, hr⟩ := h3 hne
    exact (pack_some bs bb bo cap w hr hbb h1 hlen (by unfold maxLen at h2; omega) (List.length_pos_iff.2 hne)).mono fun e w' ⟨v, he, ho, hb⟩ => ⟨v, he, ho.slB, hb⟩

set_option maxRecDepth 100000 in
set_option maxHeartbeats 1000000 in
theorem lzLess_walk (bs : List UInt8) (bv : Value) (w : World) (hb : SlB w w.heap.size bv bs) :
    Calls Try.prog 8 #[bv] w fun e w' => e = .returned (.bool true) ∧ Below w.heap.size w w' := by
  have hlb := fun w => len_sl (P := Try.prog) Try.underlying22 (ty := 3) hb.choose_spec.choose_spec.1 w
  by_cases h0 : bs.length = 0
  · have hc : ((bs.length : Int) == 0) = true := by simp [h0]
    clear h0
    go_enter Try.func8, Try.ntmps8
    go_wp2_with (go_at_call 11; refine (awake_any _).mono ?_; rintro e w' ⟨rfl, hbel⟩)
    go_ret
    exact ⟨rfl, hbel⟩
  have hc : ((bs.length : Int) == 0) = false := by rw [beq_eq_false_iff_ne]; omega
  by_cases h1 : 5000 < bs.length
  · go_enter Try.func8, Try.ntmps8
    go_wp2_with (go_at_call 11; refine (awake_any _).mono ?_; rintro e w' ⟨rfl, hbel⟩)
    go_ret
    exact ⟨rfl, hbel⟩
  have hpl := pack_len bs (by omega)
  have u1 := unpack_less bs (by omega) (bs.length - 1) (by omega)
  have u2 := unpack_pack bs (by omega) (bs.length + 5) (by omega) (by omega)
  have U1 := hid u1
  have U2 := hid u2
  obtain ⟨p, hp⟩ : ∃ p, p = pack bs := ⟨_, rfl⟩
  rw [← hp] at hpl U1 U2
  have HP := hid hp
  clear u1 u2 hp
  go_enter Try.func8, Try.ntmps8
  go_wp2_with fail
  refine (pack_call bs bv w hb (by omega)).mono ?_
  rintro e w1 ⟨v1, rfl, hv1, hb1⟩
  rw [← HP.out] at hv1
  have hz1 := hb1.size
  go_wp2_with fail
  rw [show ((bs.length : Int) - 1) = ((bs.length - 1 : Nat) : Int) by omega]
  refine (unpack_call p v1 _ w1 hv1 (by omega)).mono ?_
  rintro e w2 ⟨v2, rfl, hv2, hbl2⟩
  rw [U1.out] at hv2 ⊢
  simp only [resB, resE] at hv2 ⊢
  have hb2 := hb1.trans (hbl2.mono hz1)
  have hz2 := hb2.size
  clear hbl2 hb1 hv1
  go_wp2_with fail
  refine (pack_call bs bv w2 ((hb.below hb2 (Nat.le_refl _)).mono hz2) (by omega)).mono ?_
  rintro e w3 ⟨v3, rfl, hv3, hbl3⟩
  rw [← HP.out] at hv3
  have hb3 := hb2.trans (hbl3.mono hz2)
  have hz3 := hb3.size
  have hv23 := hv2.below hbl3 (Nat.le_refl _)
  have hz33 := hbl3.size
  clear hbl3 hb2 hv2
  go_wp2_with fail
  rw [show ((bs.length : Int) + 5) = ((bs.length + 5 : Nat) : Int) by omega]
  refine (unpack_call p v3 _ w3 hv3 (by omega)).mono ?_
  rintro e w4 ⟨v4, rfl, hv4, hbl4⟩
  rw [U2.out] at hv4 ⊢
  simp only [resB, resE] at hv4 ⊢
  have hb4 := hb3.trans (hbl4.mono hz3)
  have hz4 := hb4.size
  have hv24 := hv23.below hbl4 (by omega)
  have hl2 := fun w => len_sl (P := Try.prog) Try.underlying22 (ty := 3) hv24.choose_spec.choose_spec.1 w
  have hc4 := conv_sl (P := Try.prog) Try.underlying22 Try.underlying5 Try.underlying9 hv4
  have hcb := conv_sl (P := Try.prog) Try.underlying22 Try.underlying5 Try.underlying9 (hb.below hb4 (Nat.le_refl _))
  clear hbl4 hb3 hv3 hv4 hv23 hv24
  go_wp2_with (first | (go_at_call 14; refine (num_any _ _).mono ?_; rintro e w' ⟨rfl, rfl⟩) | (go_at_call 11; refine (awake_any _).mono ?_; rintro e w16 ⟨rfl, hb16⟩))
  go_ret
  exact ⟨rfl, hb4.trans (hb16.mono hz4)⟩

theorem set_rep (n k : Nat) (c : UInt8) (h : k < n) : (List.replicate k c ++ List.replicate (n - k) 0).set k c = List.replicate (k+1) c ++ List.replicate (n - (k+1)) 0 := by
  rw [List.set_append_right _ _ (by simp), show n - k = (n - (k+1)) + 1 by omega, List.replicate_succ]
  simp [List.replicate_succ']

set_option maxRecDepth 100000 in
set_option maxHeartbeats 1000000 in
theorem lzRuns_walk (c : UInt8) (n : Int) (w : World) (hn : 0 ≤ n ∧ n ≤ 65535) :
    Calls Try.prog 9 #[.int .u8 c.toNat, .int .u16 n] w fun e w' => e = .returned (.bool true) ∧ Below w.heap.size w w' := by
  obtain ⟨hn0, hn1⟩ := hn
  obtain ⟨q, hq⟩ : ∃ q : Nat, n % 9000 = (q : Int) := Int.eq_ofNat_of_zero_le (by omega)
  have hql : q < 9000 := by omega
  obtain ⟨k, hk⟩ : ∃ k, k = 1001 + q := ⟨_, rfl⟩
  have hk1 : 1001 ≤ k := by omega
  have hk2 : k ≤ 10001 := by omega
  have hkq : (1001 : Int) + (q : Int) = (k : Int) := by omega
  have HR := hid (pack_rep k c hk1 (by omega))
  have hlen : (List.replicate k c).length = k := by simp
  have U1 := hid (unpack_pack (List.replicate k c) (by rw [hlen]; omega) k (by rw [hlen]; exact Nat.le_refl _) (by omega))
  obtain ⟨b, hb⟩ : ∃ b, b = List.replicate k c := ⟨_, rfl⟩
  rw [← hb] at HR U1 hlen
  have HB := hid hb
  have HL := hid hlen
  obtain ⟨p, hp⟩ : ∃ p, p = pack b := ⟨_, rfl⟩
  rw [← hp] at HR U1
  have HP := hid hp
  clear hb hlen hk hp hql
  have hcl := c.toNat_lt
  go_enter Try.func9, Try.ntmps9
  go_wp2_with (at_make; refine make_bytes _ rfl _ _ 22 5 rfl Try.underlying22 Try.info5 w.heap.size _ _ _ _ k rfl rfl ?_ ?_ ?_ ?_ ?_)
  · rfl
  · rfl
  · omega
  · omega
  intro v1 w1 ho1 hb1 hv1
  subst hv1
  go_wp2_with fail
  go_loopw [7] (fun i wr => ∃ (j : Nat) (l : List UInt8), j ≤ k ∧ i = .int .i64 j ∧ OwnB wr w.heap.size 5 (.slice (some ⟨w.heap.size, 0, none⟩) k k) l ∧ Below w.heap.size w wr ∧ Hid (l = List.replicate j c ++ List.replicate (k - j) 0))
    (fun i _ => k - (intOf i).toNat)
  case atStart => exact ⟨0, _, by omega, rfl, ho1, hb1, by unfold Hid; simp⟩
  case round =>
    obtain ⟨j, l, hj, rfl, ho, hbel, HL2⟩ := hrel
    clear ho1 hb1
    have hll : l.length = k := by rw [HL2.out]; simp; omega
    by_cases hjk : j < k
    · have hcell := ho.cellAt j (by omega)
      have hfz := ho.fz j
      have ho' := (ho.store j c).resolve_right (by omega)
      have hbel' := hbel.setCell (p := ⟨w.heap.size, j, none⟩) (Nat.le_refl _) (u8 c)
      have HO := hid (And.intro ho' hbel')
      have HL3 : Hid (l.set j c = List.replicate (j+1) c ++ List.replicate (k - (j+1)) 0) := by unfold Hid; rw [HL2.out]; exact set_rep k j c hjk
      clear ho' hbel' hll ho hbel HL2
      go_wp2
      go_roundw
      case rel => exact ⟨j+1, _, by omega, by go_num, HO.out.1, HO.out.2, HL3⟩
      case measure => simp [intOf]; omega
    · obtain rfl : j = k := by omega
      have hlb : l = b := by rw [HL2.out, HB.out]; simp
      subst hlb
      have hv := ho.slB
      have hz := hbel.size
      have hlk := HL.out
      have hl2 : l.length ≤ 10001 := by omega
      clear hll HL2 ho hlk
      go_wp2_with fail
      refine (pack_call l _ wr hv (by omega)).mono ?_
      rintro e w3 ⟨v3, rfl, hv3, hb3⟩
      rw [← HP.out] at hv3
      have hb4 := hbel.trans (hb3.mono hz)
      have hz4 := hb4.size
      have hvv := hv.below hb3 (Nat.le_refl _)
      have hz3 := hb3.size
      have hpl : p.length ≤ 1000000 := by have := HR.out; omega
      clear hb3 hbel hv
      go_wp2_with fail
      refine (unpack_call p v3 _ w3 hv3 (by omega)).mono ?_
      rintro e w5 ⟨v5, rfl, hv5, hb5⟩
      rw [U1.out] at hv5 ⊢
      simp only [resB, resE] at hv5 ⊢
      have hb6 := hb4.trans (hb5.mono hz4)
      have hz6 := hb6.size
      have hvv2 := hvv.below hb5 hz3
      have hv33 := hv3.below hb5 (Nat.le_refl _)
      have hc5 := conv_sl (P := Try.prog) Try.underlying22 Try.underlying5 Try.underlying9 hv5
      have hc6 := conv_sl (P := Try.prog) Try.underlying22 Try.underlying5 Try.underlying9 hvv2
      have hlp := fun w => len_sl (P := Try.prog) Try.underlying22 (ty := 3) hv33.choose_spec.choose_spec.1 w
      have hR := HR.out
      have hR2 : (p.length : Int) * 10 < (j : Int) := by omega
      clear hv5 hvv2 hv33 hvv hv3 hb5 hb4 hR
      go_wp2_with (first | (go_at_call 14; refine (num_any _ _).mono ?_; rintro e w' ⟨rfl, rfl⟩) | (go_at_call 11; refine (awake_any _).mono ?_; rintro e w16 ⟨rfl, hb16⟩))
      go_ret
      exact ⟨rfl, hb6.trans (hb16.mono hz6)⟩
end Go.Proofs.Ytmbfcpdflhjfnaa
