import Derived.Test.YtddicddbpfenpaaE
import Derived.Lib.SlBytesConst
namespace Go.Proofs.Ytddicddbpfenpaa
open Go.RowKit Go.Mx Go.Crc

theorem sl_litm (w : World) (l : List UInt8) (e : TypeId) (p : Nat × Nat) (hl : l.length ≤ maxLen) : SlB (w.alloc (.cells (l.map u8).toArray e p)) (w.heap.size + 1) (.slice (some ⟨w.heap.size, 0, none⟩) l.length l.length) l := by
  refine ⟨_, _, rfl, Nat.le_refl _, hl, fun _ => ⟨w.heap.size, 0, rfl, by omega, fun i hi => ?_⟩⟩
  rw [World.cell?_alloc_mark, Nat.zero_add]
  simp [List.getElem?_eq_getElem hi]

set_option maxRecDepth 100000 in
set_option maxHeartbeats 1000000 in
theorem awake_any (w : World) : Calls Try.prog 10 #[] w fun e w' => e = .returned (.bool true) ∧ Below w.heap.size w w' := by
  have e1 : ((sum [49, 50, 51, 52, 53, 54, 55, 56, 57]).toNat : Int) = 3808858755 := by decide +kernel
  have e2 : ((sum []).toNat : Int) = 0 := by decide +kernel
  have e3 : ((finger []).toNat : Int) = 14695981038468906945 := by decide +kernel
  have hsl := sl_litm w [49, 50, 51, 52, 53, 54, 55, 56, 57] 5 (9, 10) (by simp [maxLen])
  have kc := fun (w : World) (C : Array Value) (n c : Nat) => Lib.run_convert_bytes_const (P := Try.prog) w 22 5 C n c Try.underlying22 Try.underlying5
  go_enter Try.func10, Try.ntmps10
  go_wp2_with fail
  refine (sum_any [49, 50, 51, 52, 53, 54, 55, 56, 57] _ _ (hsl.mono (by simp)) (by simp)).mono ?_
  rintro e w1 ⟨rfl, hb1⟩
  rw [e1]
  have hb2 := ((Below.refl w.heap.size w).alloc (Nat.le_refl _) (.cells ([49, 50, 51, 52, 53, 54, 55, 56, 57].map u8).toArray 5 (9, 10))).trans (hb1.mono (by simp))
  have hz2 := hb2.size
  clear hb1 hsl
  go_wp2_with fail
  refine (sum_any [] _ _ (SlB.nil _ _) (by simp)).mono ?_
  rintro e w3 ⟨rfl, hb3⟩
  rw [e2]
  have hb4 := hb2.trans (hb3.mono hz2)
  clear hb2 hb3
  go_wp2_with fail
  refine (finger_any [] _ _ (SlB.nil _ _) (by simp)).mono ?_
  rintro e w5 ⟨rfl, rfl⟩
  rw [e3]
  go_wp2
  go_ret
  exact ⟨rfl, hb4⟩

theorem crcSums_walk (bs : List UInt8) (bv : Value) (s : BitVec 32) (w : World) (hb : SlB w w.heap.size bv bs) :
    Calls Try.prog 3 #[bv, .int .u32 s.toNat] w fun e w' => e = .returned (.bool true) ∧ Below w.heap.size w w' := by
  have hlb := fun w => len_sl (P := Try.prog) Try.underlying22 (ty := 3) hb.choose_spec.choose_spec.1 w
  by_cases h1 : 20000 < bs.length
  · go_enter Try.func3, Try.ntmps3
    go_wp2_with (go_at_call 10; refine (awake_any _).mono ?_; rintro e w' ⟨rfl, hbel⟩)
    go_ret
    exact ⟨rfl, hbel⟩
  · go_enter Try.func3, Try.ntmps3
    go_wp2_with fail
    refine (sum_any bs bv w hb (by omega)).mono ?_
    rintro e w1 ⟨rfl, hb1⟩
    have hz1 := hb1.size
    have hv1 := (hb.below hb1 (Nat.le_refl _)).mono hz1
    go_wp2_with fail
    refine (rsum_any bs bv w1 hv1 (by omega)).mono ?_
    rintro e w2 ⟨rfl, rfl⟩
    go_wp2_with fail
    refine (more_any s bs bv w1 hv1 (by omega)).mono ?_
    rintro e w3 ⟨rfl, hb3⟩
    have hz3 := hb3.size
    have hv3 := (hv1.below hb3 (Nat.le_refl _)).mono hz3
    have hb4 := hb1.trans (hb3.mono hz1)
    have hz4 := hb4.size
    go_wp2_with fail
    refine (rmore_any s bs bv w3 hv3 (by omega)).mono ?_
    rintro e w2 ⟨rfl, rfl⟩
    clear hb1 hb3 hv1 hv3
    go_wp2_with (go_at_call 10; refine (awake_any _).mono ?_; rintro e w' ⟨rfl, hbel⟩)
    go_ret
    exact ⟨rfl, hb4.trans (hbel.mono hz4)⟩

theorem crcFingers_walk (bs : List UInt8) (bv : Value) (w : World) (hb : SlB w w.heap.size bv bs) :
    Calls Try.prog 4 #[bv] w fun e w' => e = .returned (.bool true) ∧ Below w.heap.size w w' := by
  have hlb := fun w => len_sl (P := Try.prog) Try.underlying22 (ty := 3) hb.choose_spec.choose_spec.1 w
  by_cases h1 : 20000 < bs.length
  · go_enter Try.func4, Try.ntmps4
    go_wp2
    go_ret
    exact ⟨rfl, Below.refl _ _⟩
  · go_enter Try.func4, Try.ntmps4
    go_wp2_with (first | (go_at_call 15; refine (finger_any bs bv w hb (by omega)).mono ?_; rintro e w' ⟨rfl, rfl⟩) | (go_at_call 16; refine (rfinger_any bs bv w hb (by omega)).mono ?_; rintro e w' ⟨rfl, rfl⟩) | (go_at_call 10; refine (awake_any _).mono ?_; rintro e w' ⟨rfl, hbel⟩))
    go_ret
    exact ⟨rfl, hbel⟩
end Go.Proofs.Ytddicddbpfenpaa
