import Derived.Test.YtoccgpddmhhlgaaI
import Derived.Test.YtoccgpddmhhlgaaL3
import Derived.Test.YtoccgpddmhhlgaaM7
namespace Go.Proofs.Ytoccgpddmhhlgaa
open Go.RowKit Go.Mx Go.Crc Go.Str Go.Bun
set_option linter.unusedSimpArgs false
set_option linter.unusedVariables false

theorem okAll_no (s : List UInt8) (k : Nat) (hk : k < s.length) (h : okCh (s.getD k 0) = false) : nameOk s = false := by
  have : s.all okCh = false := by
    rw [List.all_eq_false]
    refine ⟨s.getD k 0, ?_, by rw [h]; decide⟩
    rw [List.getD_eq_getElem?_getD, List.getElem?_eq_getElem hk]; exact List.getElem_mem _
  unfold nameOk; rw [this]; simp
theorem okAll_yes (s : List UInt8) (h0 : s.isEmpty = false) (h1 : s.length ≤ 16) (h : ∀ j, j < s.length → okCh (s.getD j 0) = true) : nameOk s = true := by
  have : s.all okCh = true := by
    rw [List.all_eq_true]
    intro x hx
    obtain ⟨i, hi, rfl⟩ := List.getElem_of_mem hx
    have := h i hi
    rwa [List.getD_eq_getElem?_getD, List.getElem?_eq_getElem hi] at this
  unfold nameOk; rw [this, h0]; simp [h1]

theorem okCh_iff (c : UInt8) : okCh c = true ↔ ((97 ≤ (c.toNat : Int) ∧ (c.toNat : Int) ≤ 122) ∨ (48 ≤ (c.toNat : Int) ∧ (c.toNat : Int) ≤ 57)) ∨ (c.toNat : Int) = 45 ∨ (c.toNat : Int) = 95 ∨ (c.toNat : Int) = 46 := by
  unfold okCh
  simp only [Bool.or_eq_true, Bool.and_eq_true, decide_eq_true_eq, beq_iff_eq]
  omega
theorem charAt (s : List UInt8) (k : Nat) (hk : k < s.length) : s.getD k 0 = (ByteArray.mk s.toArray)[k]'(by simpa [ByteArray.size] using hk) := by
  rw [List.getD_eq_getElem?_getD, List.getElem?_eq_getElem hk]; rfl

set_option maxRecDepth 100000 in
set_option maxHeartbeats 1000000 in
theorem bname_any (s : List UInt8) (w : World) : Calls Try.prog 49 #[.string ⟨s.toArray⟩] w fun e w' => e = .returned (.bool (nameOk s)) ∧ w = w' := by
  by_cases h0 : s = []
  · subst h0
    go_enter Try.func49, Try.ntmps49
    go_wp2
    go_ret
    exact ⟨rfl, rfl⟩
  have he : s.isEmpty = false := by cases s with | nil => exact absurd rfl h0 | cons _ _ => rfl
  have hlp := List.length_pos_iff.2 h0
  clear h0
  obtain ⟨R, hR⟩ : ∃ R, R = nameOk s := ⟨_, rfl⟩
  rw [← hR]
  have HR := hid hR
  clear hR
  by_cases h1 : 16 < s.length
  · have : R = false := by rw [HR.out]; unfold nameOk; simp; omega
    subst this
    go_enter Try.func49, Try.ntmps49
    go_wp2
    all_goals go_ret
    all_goals exact ⟨rfl, rfl⟩
  go_enter Try.func49, Try.ntmps49
  go_wp2_with fail
  go_loop [14] (fun i => ∃ k : Nat, k ≤ s.length ∧ i = .int .i64 k ∧ ∀ j, j < k → okCh (s.getD j 0) = true) (fun i => s.length - (intOf i).toNat)
  case atStart => exact ⟨0, by omega, rfl, fun j hj => by omega⟩
  case round =>
    obtain ⟨k, hk, rfl, hall⟩ := hrel
    have HA := hid hall
    clear hall
    by_cases hlt : k < s.length
    · have HN := hid (okAll_no s k hlt)
      have HC := hid (charAt s k hlt)
      go_wp2
      all_goals first
        | (have hno : okCh (s.getD k 0) = false := by
             rw [← Bool.not_eq_true, okCh_iff, HC.out]
             try simp only [Bool.not_eq_true', Bool.not_eq_false', beq_iff_eq, beq_eq_false_iff_ne, bne_iff_ne, bne_eq_false_iff_eq, ne_eq, decide_eq_true_eq, decide_eq_false_iff_not] at *
             omega
           have : R = false := by rw [HR.out]; exact HN.out hno
           subst this
           go_ret
           exact ⟨rfl, rfl⟩)
        | (have hyes : okCh (s.getD k 0) = true := by
             rw [okCh_iff, HC.out]
             try simp only [Bool.not_eq_true', Bool.not_eq_false', beq_iff_eq, beq_eq_false_iff_ne, bne_iff_ne, bne_eq_false_iff_eq, ne_eq, decide_eq_true_eq, decide_eq_false_iff_not] at *
             omega
           refine ⟨⟨k + 1, by omega, by go_num, fun j hj => ?_⟩, by simp [intOf]; omega⟩
           rcases Nat.lt_or_ge j k with hjk | hjk
           · exact HA.out j hjk
           · rw [show j = k by omega]; exact hyes)
    · obtain rfl : k = s.length := by omega
      have : R = true := by rw [HR.out]; exact okAll_yes s he (by omega) HA.out
      subst this
      go_wp2
      go_ret
      exact ⟨rfl, rfl⟩
set_option maxRecDepth 100000 in
set_option maxHeartbeats 1000000 in
theorem rname_any (s : List UInt8) (w : World) : Calls Try.prog 53 #[.string ⟨s.toArray⟩] w fun e w' => e = .returned (.bool (nameOk s)) ∧ w = w' := by
  by_cases h0 : s = []
  · subst h0
    go_enter Try.func53, Try.ntmps53
    go_wp2
    go_ret
    exact ⟨rfl, rfl⟩
  have he : s.isEmpty = false := by cases s with | nil => exact absurd rfl h0 | cons _ _ => rfl
  have hlp := List.length_pos_iff.2 h0
  clear h0
  obtain ⟨R, hR⟩ : ∃ R, R = nameOk s := ⟨_, rfl⟩
  rw [← hR]
  have HR := hid hR
  clear hR
  by_cases h1 : 16 < s.length
  · have : R = false := by rw [HR.out]; unfold nameOk; simp; omega
    subst this
    go_enter Try.func53, Try.ntmps53
    go_wp2
    all_goals go_ret
    all_goals exact ⟨rfl, rfl⟩
  go_enter Try.func53, Try.ntmps53
  go_wp2_with fail
  go_loop [3] (fun i => ∃ k : Nat, k ≤ s.length ∧ i = .int .i64 k ∧ ∀ j, j < k → okCh (s.getD j 0) = true) (fun i => s.length - (intOf i).toNat)
  case atStart => exact ⟨0, by omega, rfl, fun j hj => by omega⟩
  case round =>
    obtain ⟨k, hk, rfl, hall⟩ := hrel
    have HA := hid hall
    clear hall
    by_cases hlt : k < s.length
    · have HN := hid (okAll_no s k hlt)
      have HC := hid (charAt s k hlt)
      go_wp2
      all_goals first
        | (have hno : okCh (s.getD k 0) = false := by
             rw [← Bool.not_eq_true, okCh_iff, HC.out]
             try simp only [Bool.not_eq_true', Bool.not_eq_false', beq_iff_eq, beq_eq_false_iff_ne, bne_iff_ne, bne_eq_false_iff_eq, ne_eq, decide_eq_true_eq, decide_eq_false_iff_not] at *
             omega
           have : R = false := by rw [HR.out]; exact HN.out hno
           subst this
           go_ret
           exact ⟨rfl, rfl⟩)
        | (have hyes : okCh (s.getD k 0) = true := by
             rw [okCh_iff, HC.out]
             try simp only [Bool.not_eq_true', Bool.not_eq_false', beq_iff_eq, beq_eq_false_iff_ne, bne_iff_ne, bne_eq_false_iff_eq, ne_eq, decide_eq_true_eq, decide_eq_false_iff_not] at *
             omega
           refine ⟨⟨k + 1, by omega, by go_num, fun j hj => ?_⟩, by simp [intOf]; omega⟩
           rcases Nat.lt_or_ge j k with hjk | hjk
           · exact HA.out j hjk
           · rw [show j = k by omega]; exact hyes)
    · obtain rfl : k = s.length := by omega
      have : R = true := by rw [HR.out]; exact okAll_yes s he (by omega) HA.out
      subst this
      go_wp2
      go_ret
      exact ⟨rfl, rfl⟩

theorem size9 : ∀ w, (sizeOf 9).run Try.prog w = .ok 1 w := fun w => by kernel_rfl
/-- a slice of strings -/
def SlS (w : World) (B : Nat) (v : Value) (l : List (List UInt8)) : Prop := SlG w B 1 v (l.map fun s => [.string ⟨s.toArray⟩])
theorem SlS.len {w : World} {B : Nat} {v : Value} {l : List (List UInt8)} (h : SlS w B v l) (w' : World) {ty : TypeId} : (Builtin.len_ #[58] ty #[v]).run Try.prog w' = .ok (.int .i64 l.length) w' := by
  have := SlG.len (P := Try.prog) (ty := ty) h Try.underlying58 w'
  rwa [List.length_map] at this
theorem SlS.small {w : World} {B : Nat} {v : Value} {l : List (List UInt8)} (h : SlS w B v l) : l.length ≤ 9223372036854775807 := by
  obtain ⟨_, c, _, q1, q2, _⟩ := h
  rw [List.length_map] at q1
  unfold maxLen at q2; omega
theorem SlS.at {w : World} {B : Nat} {v : Value} {l : List (List UInt8)} (h : SlS w B v l) (i : Nat) (hi : i < l.length) :
    ∃ b o, b < B ∧ (∀ w' (k : IntKind), (Instr.indexAt 58 v (.int k (i : Int))).run Try.prog w' = .ok (.pointer (some ⟨b, o, none⟩)) w') ∧ w.cell? ⟨b, o, none⟩ = some (.string ⟨(l.getD i []).toArray⟩) := by
  obtain ⟨b, o, hb, hia, hc⟩ := SlG.addr (P := Try.prog) h Try.underlying58 size9 i (by simpa using hi)
  refine ⟨b, o, hb, hia, hc 0 _ ?_⟩
  simp [List.getD_eq_getElem?_getD, List.getElem?_map, List.getElem?_eq_getElem hi]
theorem bytes_mk (s : List UInt8) : (ByteArray.mk s.toArray).toList = s := by rw [Lib.toList_data]
theorem leB (s t : List UInt8) : (Op.bytesLess (ByteArray.mk s.toArray).toList (ByteArray.mk t.toArray).toList || (ByteArray.mk s.toArray).toList == (ByteArray.mk t.toArray).toList) = !lss t s := by
  rw [bytes_mk, bytes_mk]; exact le_not s t

set_option maxRecDepth 100000 in
set_option maxHeartbeats 1000000 in
theorem bright_any (l : List (List UInt8)) (nv : Value) (w : World) (h : SlS w w.heap.size nv l) : Calls Try.prog 31 #[nv] w fun e w' => e = .returned (.bool (rise l)) ∧ w = w' := by
  have hlen := fun w' => h.len (ty := 3) w'
  have hsm := h.small
  have H := hid h
  clear h
  obtain ⟨R, hR⟩ : ∃ R, R = rise l := ⟨_, rfl⟩
  rw [← hR]
  have HR := hid hR
  clear hR
  go_enter Try.func31, Try.ntmps31
  go_wp2_with fail
  go_loopw [7] (fun i wr => ∃ k : Nat, k ≤ l.length ∧ i = .int .i64 k ∧ w = wr ∧ ∀ j, j < k → riseAt l j = true) (fun i _ => l.length - (intOf i).toNat)
  case atStart => exact ⟨0, by omega, rfl, rfl, fun j hj => by omega⟩
  case round =>
    obtain ⟨k, hk, rfl, rfl, hall⟩ := hrel
    have HA := hid hall
    clear hall
    by_cases hlt : k < l.length
    · obtain ⟨b, o, hb, hia, hc⟩ := H.out.at k hlt
      have HN := hid (rise_no l k hlt)
      have HT := hid (show riseAt l k = (nameOk (l.getD k []) && (k == 0 || lss (l.getD (k - 1) []) (l.getD k []))) from rfl)
      obtain ⟨s, hs⟩ : ∃ s, s = l.getD k [] := ⟨_, rfl⟩
      rw [← hs] at hc HT
      clear hs
      have HC := hid (bname_any s w)
      cases hn : nameOk s
      · rw [hn] at HC
        have : R = false := by rw [HR.out]; exact HN.out (by rw [HT.out, hn]; rfl)
        subst this
        clear hn
        go_wp2_with fail
        refine HC.out.mono ?_
        rintro e w' ⟨rfl, rfl⟩
        go_wp2
        go_ret
        exact ⟨rfl, rfl⟩
      · rw [hn] at HC
        have HT2 := hid (show riseAt l k = (k == 0 || lss (l.getD (k - 1) []) s) by rw [HT.out, hn]; rfl)
        clear hn
        by_cases hk0 : k = 0
        · have hd : decide (0 < (k : Int)) = false := by simp; omega
          have HK := hid hk0
          clear hk0
          go_wp2_with fail
          refine HC.out.mono ?_
          rintro e w' ⟨rfl, rfl⟩
          go_wp2
          all_goals first
            | (exfalso; have := HK.out; omega)
            | (go_roundw
               case rel => exact ⟨k + 1, by omega, by go_num, trivial, fun j hj => by
                 have := HK.out
                 rw [show j = k by omega, HT2.out, this]; rfl⟩
               case measure => (simp [intOf]; omega))
        · obtain ⟨b2, o2, hb2, hia2, hc2⟩ := H.out.at (k - 1) (by omega)
          rw [show ((k - 1 : Nat) : Int) = (k : Int) - 1 by omega] at hia2
          obtain ⟨t, ht⟩ : ∃ t, t = l.getD (k - 1) [] := ⟨_, rfl⟩
          rw [← ht] at hc2 HT2
          clear ht
          have HL := hid (le_not s t)
          have hkp : 0 < k := by omega
          cases hl : lss t s
          · rw [hl] at HL
            have : R = false := by rw [HR.out]; exact HN.out (by rw [HT2.out, hl]; simp [hk0])
            subst this
            clear hl
            go_wp2_with fail
            refine HC.out.mono ?_
            rintro e w' ⟨rfl, rfl⟩
            go_wp2
            all_goals first
              | (exfalso; rename_i hx; have h9 := HL.out; rw [hx.1, hx.2] at h9; exact absurd h9 (by decide))
              | (go_ret; exact ⟨rfl, rfl⟩)
          · rw [hl] at HL
            have HT3 := hid (show riseAt l k = true by rw [HT2.out, hl]; simp)
            clear hl
            go_wp2_with fail
            refine HC.out.mono ?_
            rintro e w' ⟨rfl, rfl⟩
            go_wp2
            all_goals first
              | (exfalso; rename_i hx; have h9 := HL.out; rcases hx with hx | hx <;> (rw [hx] at h9; simp at h9))
              | (go_roundw
                 case rel => exact ⟨k + 1, by omega, by go_num, trivial, fun j hj => by
                   rcases Nat.lt_or_ge j k with hjk | hjk
                   · exact HA.out j hjk
                   · rw [show j = k by omega]; exact HT3.out⟩
                 case measure => (simp [intOf]; omega))
    · obtain rfl : k = l.length := by omega
      have : R = true := by rw [HR.out]; exact (rise_iff l).2 HA.out
      subst this
      go_wp2
      go_ret
      exact ⟨rfl, rfl⟩
end Go.Proofs.Ytoccgpddmhhlgaa
