import Derived.Test.YtbklhhmcigangaaV
import Derived.Test.YtbklhhmcigangaaL5
namespace Go.Proofs.Ytbklhhmcigangaa
open Go.RowKit Go.Mx Go.Lr Go.Maps
set_option linter.unusedVariables false
set_option linter.unusedSimpArgs false
theorem ok_C {k i : Nat} (hk : k ≤ 100) : OkC (cirC k i) := by
  have hmem : ∀ e ∈ (cirC k i).all, ∃ x : Nat, x ≤ k ∧ e.k = x ∧ ∀ y ∈ e.pg.after, y = (x : Int) + 1 := by
    intro e he
    rcases List.mem_append.1 he with he | he
    · obtain ⟨x, hx, rfl⟩ := List.mem_map.1 he
      refine ⟨x, by simp at hx; omega, rfl, ?_⟩
      simp only
      split
      · simp
      · simp
    · simp at he; subst he
      exact ⟨k, Nat.le_refl _, rfl, by simp⟩
  refine ⟨fun e he y hy => ?_, fun e he => ?_, ?_, fun e he => ?_⟩
  · obtain ⟨x, hx, _, h⟩ := hmem e he
    have := h y hy
    unfold isI; omega
  · rcases List.mem_append.1 he with he | he
    · obtain ⟨x, hx, rfl⟩ := List.mem_map.1 he
      simp only
      split <;> simp
    · simp at he; subst he; simp
  · show (chain k i ++ _).length ≤ _
    simp [chain]; omega
  · obtain ⟨x, hx, h, _⟩ := hmem e he
    rw [h]; unfold isI; omega
set_option maxRecDepth 100000 in
set_option maxHeartbeats 1000000 in
theorem circles_any (n q : Int) (w : World) (hn : 0 ≤ n ∧ n ≤ 255) (hq : 0 ≤ q ∧ q ≤ 255) : Calls Try.prog 5 #[.int .u8 n, .int .u8 q] w fun e w' => e = .returned (.bool true) ∧ Below w.heap.size w w' := by
  obtain ⟨n, rfl⟩ := Int.eq_ofNat_of_zero_le hn.1
  obtain ⟨q, rfl⟩ := Int.eq_ofNat_of_zero_le hq.1
  have hn1 : IntKind.i64.wrap (n : Int) = (n : Int) := IntWalk.i64_in _ (by omega)
  have hq1 : IntKind.i64.wrap (q : Int) = (q : Int) := IntWalk.i64_in _ (by omega)
  obtain ⟨m, hm, hmq⟩ : ∃ k : Nat, k < 20 ∧ ((n : Nat) : Int).tmod 20 = (k : Int) := ⟨n % 20, Nat.mod_lt _ (by omega), by rw [Int.tmod_eq_emod_of_nonneg (by omega)]; rfl⟩
  obtain ⟨K, hK⟩ : ∃ K : Nat, K = m + 2 := ⟨_, rfl⟩
  have hK1 : IntKind.i64.wrap (2 + (m : Int)) = (K : Int) := by rw [IntWalk.i64_in _ (by omega)]; omega
  have hK0 : ((K : Int) == 0) = false := by rw [beq_eq_false_iff_ne]; omega
  have hK2 : ¬ K = 0 := by omega
  obtain ⟨J, hJ, hJq⟩ : ∃ k : Nat, k < K ∧ ((q : Nat) : Int).tmod (K : Int) = (k : Int) := ⟨q % K, Nat.mod_lt _ (by omega), by rw [Int.tmod_eq_emod_of_nonneg (by omega)]; rfl⟩
  obtain ⟨L, hL⟩ : ∃ L : Nat, L = K - 1 := ⟨_, rfl⟩
  have hL1 : IntKind.i64.wrap ((K : Int) - 1) = (L : Int) := by rw [IntWalk.i64_in _ (by omega)]; omega
  obtain ⟨S, hS⟩ : ∃ S : Nat, S = K + 1 := ⟨_, rfl⟩
  have hS1 : IntKind.i64.wrap ((K : Int) + 1) = (S : Int) := by rw [IntWalk.i64_in _ (by omega)]; omega
  have hKb : K ≤ 21 := by omega
  have HA := hid (And.intro hK (And.intro hJ (And.intro hL (And.intro hS hm))))
  clear hK hJ hL hS hm hn hq
  go_enter Try.func5, Try.ntmps5
  go_wp2_with fail
  refine (new_H 100 w (by omega) (by omega)).mono ?_
  rintro e w1 ⟨rfl, hc1, hb1⟩
  have H1 := hid (And.intro hc1 hb1)
  clear hc1 hb1
  go_wp2_with fail
  refine (num_any 0 _).mono ?_
  rintro e w' ⟨rfl, rfl⟩
  go_wp2_with fail
  go_loopw [8] (fun s8 wr => ∃ i : Nat, s8 = .int .i64 i ∧ i ≤ K ∧ HC wr w.heap.size (w.heap.size + 1) (cirA i) ∧ Below w.heap.size w wr) (fun s8 _ => K - (intOf s8).toNat)
  case atStart => exact ⟨0, rfl, by omega, H1.out.1, H1.out.2⟩
  case round =>
    obtain ⟨i, rfl, hi, hc, hb⟩ := hrel
    by_cases hlt : i < K
    · have hP := put_H hc (i : Int) (by unfold isI; omega) (.slice none 0 0) [] 0 (SlB.nil _ _) (Nat.zero_le _) (by simp) true (by simp [cirA]; omega) (by rw [cirA_lay]; simp [cirA, chain]; omega) (by simp [cirA])
      rw [cirA_lay] at hP
      have HP := hid hP
      have HB := hid hb
      clear hP hc hb
      go_wp2_with fail
      refine HP.out.mono ?_
      rintro e w2 ⟨rfl, hc2, hb2⟩
      have H2 := hid (And.intro hc2 (HB.out.trans hb2))
      clear hc2 hb2
      go_wp2_with fail
      go_roundw
      case rel => exact ⟨i + 1, by go_num, by omega, H2.out.1, H2.out.2⟩
      case measure => simp [intOf]; omega
    · obtain rfl : K = i := by omega
      have hP := put_H hc (K : Int) (by unfold isI; omega) (.slice none 0 0) [] 0 (SlB.nil _ _) (Nat.zero_le _) (by simp) false (by simp [cirA]; omega) (by rw [cirC_lay]; simp [cirA, cirC, chain]; omega) (by simp [cirA])
      rw [cirC_lay] at hP
      have HP := hid hP
      have HB := hid hb
      clear hP hc hb hi hlt
      go_wp2_with fail
      refine HP.out.mono ?_
      rintro e w2 ⟨rfl, hc2, hb2⟩
      have H2 := hid (And.intro hc2 (HB.out.trans hb2))
      clear hc2 hb2 HP
      go_wp2_with fail
      obtain ⟨wL, hwL⟩ : ∃ x, x = wr := ⟨_, rfl⟩
      go_loopw [9] (fun s9 wr => ∃ i : Nat, s9 = .int .i64 i ∧ i + 1 ≤ K ∧ HC wr w.heap.size (w.heap.size + 1) (cirC K i) ∧ Below w.heap.size w wr) (fun s9 _ => K - (intOf s9).toNat)
      case atStart => exact ⟨0, rfl, by have := HA.out; omega, H2.out.1, H2.out.2⟩
      case round =>
        obtain ⟨i, rfl, hi, hc, hb⟩ := hrel
        obtain ⟨I, hI⟩ : ∃ I : Nat, I = i + 1 := ⟨_, rfl⟩
        have hI1 : IntKind.i64.wrap ((i : Int) + 1) = (I : Int) := by rw [IntWalk.i64_in _ (by omega)]; omega
        by_cases hlt : I < K
        · have hA := after_H hc (ok_C (by omega)) (i : Int) (I : Int) (by unfold isI; omega) (by unfold isI; omega) (c' := cirC K I) (r := 0) (by rw [hI]; exact after_C (by omega))
          have HA1 := hid hA
          have HB := hid (And.intro hb hI)
          clear hA hc hb hI
          go_wp2_with fail
          refine HA1.out.mono ?_
          rintro e w3 ⟨rfl, hc3, hb3⟩
          have H3 := hid (And.intro hc3 (HB.out.1.trans hb3))
          clear hc3 hb3
          go_wp2_with fail
          refine (num_any _ _).mono ?_
          rintro e w' ⟨rfl, rfl⟩
          go_wp2_with fail
          have hIi := HB.out.2
          refine ⟨⟨I, rfl, by omega, H3.out.1, H3.out.2⟩, ?_⟩
          simp [intOf]; omega
        · obtain rfl : L = i := by have := HA.out; omega
          have hc' : HC wr w.heap.size (w.heap.size + 1) (cirC K (K - 1)) := by have h9 := HA.out; rw [h9.2.2.1] at hc; exact hc
          have ok := ok_C (k := K) (i := K - 1) (by omega)
          have hJK : J < K := HA.out.2.1
          have iJ : isI (J : Int) := by unfold isI; omega
          have iK : isI (K : Int) := by unfold isI; omega
          have iL : isI (L : Int) := by have := HA.out; unfold isI; omega
          have iS : isI (S : Int) := by have := HA.out; unfold isI; omega
          have m1 := after_self hJK
          have m2 := after_back hJK
          rw [show ((K - 1 : Nat) : Int) = (L : Int) by have := HA.out; omega] at m2
          have m3 := after_none (k := K) (i := K - 1) (x := (J : Int)) (y := (K : Int)) (.inr (by omega))
          have m4 := after_none (k := K) (i := K - 1) (x := (K : Int)) (y := (J : Int)) (.inl (by omega))
          have m5 := after_none (k := K) (i := K - 1) (x := (J : Int)) (y := (S : Int)) (.inr (by have := HA.out; omega))
          obtain ⟨F, hF⟩ : ∃ F, F = cirC K (K - 1) := ⟨_, rfl⟩
          rw [← hF] at m1 m2 m3 m4 m5 ok hc'
          have fl := flush_C K
          rw [← hF] at fl
          have A1 : Hid (∀ w', HC w' w.heap.size (w.heap.size + 1) F → Calls Try.prog 14 #[cp (w.heap.size + 1), .int .i64 J, .int .i64 J] w' fun e w'' => e = .returned (.int .i64 11) ∧ HC w'' w.heap.size (w.heap.size + 1) F ∧ Below w.heap.size w' w'') := hid fun w' h => after_H h ok J J iJ iJ m1
          have A2 : Hid (∀ w', HC w' w.heap.size (w.heap.size + 1) F → Calls Try.prog 14 #[cp (w.heap.size + 1), .int .i64 L, .int .i64 J] w' fun e w'' => e = .returned (.int .i64 11) ∧ HC w'' w.heap.size (w.heap.size + 1) F ∧ Below w.heap.size w' w'') := hid fun w' h => after_H h ok L J iL iJ m2
          have A3 : Hid (∀ w', HC w' w.heap.size (w.heap.size + 1) F → Calls Try.prog 14 #[cp (w.heap.size + 1), .int .i64 J, .int .i64 K] w' fun e w'' => e = .returned (.int .i64 15) ∧ HC w'' w.heap.size (w.heap.size + 1) F ∧ Below w.heap.size w' w'') := hid fun w' h => after_H h ok J K iJ iK m3
          have A4 : Hid (∀ w', HC w' w.heap.size (w.heap.size + 1) F → Calls Try.prog 14 #[cp (w.heap.size + 1), .int .i64 K, .int .i64 J] w' fun e w'' => e = .returned (.int .i64 15) ∧ HC w'' w.heap.size (w.heap.size + 1) F ∧ Below w.heap.size w' w'') := hid fun w' h => after_H h ok K J iK iJ m4
          have A5 : Hid (∀ w', HC w' w.heap.size (w.heap.size + 1) F → Calls Try.prog 14 #[cp (w.heap.size + 1), .int .i64 J, .int .i64 S] w' fun e w'' => e = .returned (.int .i64 15) ∧ HC w'' w.heap.size (w.heap.size + 1) F ∧ Below w.heap.size w' w'') := hid fun w' h => after_H h ok J S iJ iS m5
          have A6 := hid (fun w' (h : HC w' w.heap.size (w.heap.size + 1) F) => flush_H h ok)
          have FL := hid fl
          clear fl hF ok
          have HB := hid (And.intro hc' hb)
          clear hc hc' hb hJK iJ iK iL iS m1 m2 m3 m4 m5 hwL hI
          go_wp2_with fail
          refine (A1.out _ HB.out.1).mono ?_
          rintro e w3 ⟨rfl, hc3, hb3⟩
          have H3 := hid (And.intro hc3 (HB.out.2.trans hb3))
          clear hc3 hb3
          go_wp2_with fail
          refine (num_any _ _).mono ?_
          rintro e w' ⟨rfl, rfl⟩
          go_wp2_with fail
          refine (A2.out _ H3.out.1).mono ?_
          rintro e w4 ⟨rfl, hc3, hb3⟩
          have H4 := hid (And.intro hc3 (H3.out.2.trans hb3))
          clear hc3 hb3
          go_wp2_with fail
          refine (num_any _ _).mono ?_
          rintro e w' ⟨rfl, rfl⟩
          go_wp2_with fail
          refine (A3.out _ H4.out.1).mono ?_
          rintro e w5 ⟨rfl, hc3, hb3⟩
          have H5 := hid (And.intro hc3 (H4.out.2.trans hb3))
          clear hc3 hb3
          go_wp2_with fail
          refine (num_any _ _).mono ?_
          rintro e w' ⟨rfl, rfl⟩
          go_wp2_with fail
          refine (A4.out _ H5.out.1).mono ?_
          rintro e w6 ⟨rfl, hc3, hb3⟩
          have H6 := hid (And.intro hc3 (H5.out.2.trans hb3))
          clear hc3 hb3
          go_wp2_with fail
          refine (num_any _ _).mono ?_
          rintro e w' ⟨rfl, rfl⟩
          go_wp2_with fail
          refine (A5.out _ H6.out.1).mono ?_
          rintro e w7 ⟨rfl, hc3, hb3⟩
          have H7 := hid (And.intro hc3 (H6.out.2.trans hb3))
          clear hc3 hb3
          go_wp2_with fail
          refine (num_any _ _).mono ?_
          rintro e w' ⟨rfl, rfl⟩
          go_wp2_with fail
          refine (A6.out _ H7.out.1).mono ?_
          rintro e w8 ⟨v, rfl, ho8, hc8, hb8⟩
          obtain ⟨fl1, fl2⟩ := FL.out
          obtain ⟨out, hout⟩ : ∃ o, o = (flushM F).2 := ⟨_, rfl⟩
          rw [← hout] at ho8 fl1 fl2
          have hlen := fun w' => ho8.slI.len (P := Try.prog) Try.underlying29 (ty := 3) w'
          rw [fl1] at hlen
          obtain ⟨oa, on, oc, rfl⟩ := ownG_shape (ownI_G ho8)
          have H8 := hid (And.intro ho8 (And.intro (H7.out.2.trans hb8) (And.intro fl1 fl2)))
          clear ho8 hc8 hb8 fl1 fl2 hout A1 A2 A3 A4 A5 A6 FL
          go_wp2_with fail
          go_loopw [12] (fun s12 wr => ∃ i : Nat, s12 = .int .i64 i ∧ i ≤ K ∧ Below w8.heap.size w8 wr) (fun s12 _ => K - (intOf s12).toNat)
          case atStart => exact ⟨0, rfl, by omega, Below.refl _ _⟩
          case round =>
            obtain ⟨j, rfl, hj, hb⟩ := hrel
            by_cases hlt : j < K
            · obtain ⟨bb, bo, hbb, hia, hcell⟩ := (H8.out.1.slI.below hb (Nat.le_refl _)).addr (P := Try.prog) Try.underlying29 size3 j (by rw [H8.out.2.2.1]; exact hlt)
              rw [H8.out.2.2.2 j hlt] at hcell
              obtain ⟨R, hR⟩ : ∃ R : Nat, R = K - 1 - j := ⟨_, rfl⟩
              rw [← hR] at hcell
              have hR1 : IntKind.i64.wrap ((L : Int) - (j : Int)) = (R : Int) := by have := HA.out; rw [IntWalk.i64_in _ (by omega)]; omega
              have HB2 := hid hb
              clear hb hR
              go_wp2_with fail
              go_roundw
              case rel => exact ⟨j + 1, by go_num, by omega, HB2.out⟩
              case measure => simp [intOf]; omega
            · obtain rfl : K = j := by omega
              have HB2 := hid hb
              clear hb
              go_wp2_with fail
              refine (awake_any _).mono ?_
              rintro e w9 ⟨rfl, hb9⟩
              have HB9 := hid hb9
              clear hb9
              go_wp2_with fail
              go_ret
              refine ⟨rfl, ?_⟩
              have h1 := H8.out.2.1
              have h2 := HB2.out
              have h3 := HB9.out
              exact (h1.trans (h2.mono h1.size)).trans (h3.mono (Nat.le_trans h1.size h2.size))
end Go.Proofs.Ytbklhhmcigangaa
