import Derived.Test.YtoccgpddmhhlgaaBD
namespace Go.Bun
set_option linter.unusedSimpArgs false
set_option linter.unusedVariables false
theorem names_at (l : List Prt) (k : Nat) (hk : k < l.length) : (names l).getD k [] = (l.getD k default).name := by
  unfold names; simp [List.getD_eq_getElem?_getD, List.getElem?_map, List.getElem?_eq_getElem hk]
theorem names_len (l : List Prt) : (names l).length = l.length := by simp [names]
end Go.Bun
namespace Go.Proofs.Ytoccgpddmhhlgaa
open Go.RowKit Go.Mx Go.Crc Go.Str Go.Bun
set_option linter.unusedSimpArgs false
set_option linter.unusedVariables false

theorem rname_q (s : List UInt8) (b : Bool) (hb : nameOk s = b) (w : World) (n : Nat) : Calls Try.prog 53 #[.string ⟨s.toArray⟩] (w.drewN n) fun e w' => e = .returned (.bool b) ∧ w' = w.drewN n := by
  subst hb
  exact (rname_any s _).mono fun _ _ ⟨h1, h2⟩ => ⟨h1, h2.symm⟩

set_option maxRecDepth 100000 in
set_option maxHeartbeats 2000000 in
theorem rrise_any (l : List Prt) (lv : Value) (w : World) (h : SlPt w w.heap.size lv l) : Calls Try.prog 37 #[lv] w fun e w' => e = .returned (.bool (rise (names l))) ∧ Below w.heap.size w w' := by
  have hlen := fun w' => h.lenR (ty := 3) w'
  have hsm := h.small
  have H := hid h
  clear h
  obtain ⟨R, hR⟩ : ∃ R, R = rise (names l) := ⟨_, rfl⟩
  rw [← hR]
  have HR := hid hR
  clear hR
  go_enter Try.func37, Try.ntmps37
  go_wp2_with fail
  go_loopw [3] (fun i wr => ∃ k : Nat, k ≤ l.length ∧ i = .int .i64 k ∧ Below w.heap.size w wr ∧ ∀ j, j < k → riseAt (names l) j = true) (fun i _ => l.length - (intOf i).toNat)
  case atStart => exact ⟨0, by omega, rfl, Below.refl _ _, fun j hj => by omega⟩
  case round =>
    obtain ⟨k, hk, rfl, hbl, hall⟩ := hrel
    have HA := hid hall
    clear hall
    by_cases hlt : k < l.length
    · obtain ⟨b, o, dv, hb, hia, hc, hc1, hs⟩ := (H.out.below hbl (Nat.le_refl _)).atR k hlt
      have HN := hid (rise_no (names l) k (by rw [names_len]; exact hlt))
      have HT := hid (show riseAt (names l) k = (nameOk ((names l).getD k []) && (k == 0 || lss ((names l).getD (k - 1) []) ((names l).getD k []))) from rfl)
      rw [names_at l k hlt] at HT
      obtain ⟨s, hs⟩ : ∃ s, s = (l.getD k default).name := ⟨_, rfl⟩
      rw [← hs] at hc HT
      clear hs hc1
      cases hn : nameOk s
      · have HC := hid (rname_q s false hn)
        have : R = false := by rw [HR.out]; exact HN.out (by rw [HT.out, hn]; rfl)
        subst this
        clear hn
        go_wp2_with fail
        go_quiet ((go_at_call 53; exact Calls.quiet_of_same (HC.out _ _)))
        go_wp2_with fail
        go_ret
        exact ⟨rfl, below_drewN hbl _⟩
      · have HC := hid (rname_q s true hn)
        have HT2 := hid (show riseAt (names l) k = (k == 0 || lss ((names l).getD (k - 1) []) s) by rw [HT.out, hn]; rfl)
        clear hn
        by_cases hk0 : k = 0
        · have hd : decide (0 < k) = false := by simp; omega
          have HK := hid hk0
          clear hk0
          go_wp2_with fail
          go_quiet ((go_at_call 53; exact Calls.quiet_of_same (HC.out _ _)))
          go_wp2_with fail
          go_roundw
          case rel => exact ⟨k + 1, by omega, by go_num, below_drewN hbl _, fun j hj => by
            have := HK.out
            rw [show j = k by omega, HT2.out, this]; rfl⟩
          case measure => simp [intOf]; omega
        · obtain ⟨b2, o2, dv2, hb2, hia2, hc2, hc3, hs2⟩ := (H.out.below hbl (Nat.le_refl _)).atR (k - 1) (by omega)
          rw [show ((k - 1 : Nat) : Int) = (k : Int) - 1 by omega] at hia2
          rw [names_at l (k - 1) (by omega)] at HT2
          obtain ⟨t, ht⟩ : ∃ t, t = (l.getD (k - 1) default).name := ⟨_, rfl⟩
          rw [← ht] at hc2 HT2
          clear ht hs2 hc3
          have HL := hid (le_not s t)
          have hd : decide (0 < k) = true := by simp; omega
          have hkp : 0 < k := by omega
          have hw1 : IntKind.i64.wrap ((k : Int) - 1) = (k : Int) - 1 := IntWalk.i64_in _ (by omega)
          cases hl : lss t s
          · rw [hl] at HL
            have : R = false := by rw [HR.out]; exact HN.out (by rw [HT2.out, hl]; simp [hk0])
            subst this
            clear hl
            have hle : (Op.bytesLess s t || s == t) = true := HL.out
            go_wp2_with fail
            go_quiet ((go_at_call 53; exact Calls.quiet_of_same (HC.out _ _)))
            go_wp2_with fail
            go_ret
            exact ⟨rfl, below_drewN hbl _⟩
          · rw [hl] at HL
            have HT3 := hid (show riseAt (names l) k = true by rw [HT2.out, hl]; simp)
            clear hl
            have hle : (Op.bytesLess s t || s == t) = false := HL.out
            go_wp2_with fail
            go_quiet ((go_at_call 53; exact Calls.quiet_of_same (HC.out _ _)))
            go_wp2_with fail
            go_roundw
            case rel => exact ⟨k + 1, by omega, by go_num, below_drewN hbl _, fun j hj => by
              rcases Nat.lt_or_ge j k with hjk | hjk
              · exact HA.out j hjk
              · rw [show j = k by omega]; exact HT3.out⟩
            case measure => simp [intOf]; omega
    · obtain rfl : k = l.length := by omega
      have : R = true := by rw [HR.out]; exact (rise_iff _).2 (by rw [names_len]; exact HA.out)
      subst this
      go_wp2
      go_ret
      exact ⟨rfl, hbl⟩
end Go.Proofs.Ytoccgpddmhhlgaa
