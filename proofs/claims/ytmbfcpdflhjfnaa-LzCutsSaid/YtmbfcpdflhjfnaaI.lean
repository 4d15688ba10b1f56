import Derived.Test.YtmbfcpdflhjfnaaG
import Derived.Test.YtmbfcpdflhjfnaaM3
import Derived.Test.YtmbfcpdflhjfnaaL2
namespace Go.Proofs.Ytmbfcpdflhjfnaa
open Go.RowKit Go.Mx Go.Lz

theorem added_rep (k q : Nat) (l : List UInt8) : l ++ [255] ++ (List.replicate k 255 ++ [UInt8.ofNat q]) = l ++ (List.replicate (k+1) 255 ++ [UInt8.ofNat q]) := by
  simp [List.replicate_succ]

set_option maxRecDepth 100000 in
/-- the law's 'added' (16) and the program's (22) are of one text -/
theorem ladded_any (v : Value) (l : List UInt8) (n base : Nat) (w : World) (hown : OwnB w base 5 v l) (hB : base ≤ w.heap.size) (hl : l.length + n ≤ 100000000) :
    Calls Try.prog 16 #[v, .int .i64 n] w fun e w' => ∃ v', e = .returned v' ∧ OwnB w' base 5 v' (l ++ addedL n) ∧ Below base w w' := by
  by_cases hn : n < 15
  · have HA : Hid (l ++ addedL n = l) := by unfold Hid addedL; rw [if_pos hn]; simp
    go_enter Try.func16, Try.ntmps16
    go_wp2
    go_ret
    exact ⟨v, rfl, by rw [HA.out]; exact hown, Below.refl _ _⟩
  · have HA : Hid (l ++ addedL n = l ++ (List.replicate ((n - 15) / 255) 255 ++ [UInt8.ofNat ((n - 15) % 255)])) := by unfold Hid addedL; rw [if_neg hn]
    obtain ⟨T, hT⟩ : ∃ T, T = l ++ addedL n := ⟨_, rfl⟩
    rw [← hT] at HA ⊢
    clear hT
    go_enter Try.func16, Try.ntmps16
    go_wp2
    go_loopw [0, 1] (fun s m wr => ∃ (q : Nat) (l2 : List UInt8), OwnB wr base 5 s l2 ∧ m = .int .i64 q ∧ l2.length + q ≤ 100000000 ∧ Below base w wr ∧ Hid (T = l2 ++ (List.replicate (q / 255) 255 ++ [UInt8.ofNat (q % 255)])))
      (fun _ m _ => (intOf m).toNat)
    case atStart => exact ⟨n - 15, l, hown, by rw [show ((n - 15 : Nat) : Int) = (n : Int) - 15 by omega], by omega, Below.refl _ _, HA⟩
    case round =>
      obtain ⟨q, l2, ho, rfl, hl2, hb, HT⟩ := hrel
      have hz := hb.size
      by_cases hq : 255 ≤ q
      · go_wp2_with (at_builtin; refine append_byte _ rfl _ _ 22 5 rfl Try.underlying22 Try.info5 base _ l2 255 rfl (ho.alloc _) wr.heap.size 1 rfl (cell_alloc1 _ _ _) ?_ ?_ ?_)
        · omega
        · simp; omega
        intro v' w' ho' hbl
        have hb' := hb.trans (((Below.refl _ wr).alloc (by omega) _).trans hbl)
        clear hbl ho hb hz
        go_wp2
        go_roundw
        case rel => exact ⟨q - 255, _, ho', by rw [show ((q - 255 : Nat) : Int) = (q : Int) - 255 by omega], by simp; omega, hb', by
          rw [HT.out]; unfold Hid
          rw [added_rep, show (q - 255) / 255 + 1 = q / 255 by omega, show (q - 255) % 255 = q % 255 by omega]⟩
        case measure => simp [intOf]; omega
      · have HU : Hid (u8 (UInt8.ofNat q) = .int .u8 q) := by unfold Hid u8; congr 1; rw [UInt8.toNat_ofNat']; omega
        have hq2 : q / 255 = 0 := by omega
        have hq3 : q % 255 = q := by omega
        have hT := HT.out
        rw [hq2, hq3] at hT
        simp only [List.replicate_zero, List.nil_append] at hT
        have HT2 := hid hT
        clear hT HT hq2 hq3
        go_wp2_with (at_builtin; refine append_byte _ rfl _ _ 22 5 rfl Try.underlying22 Try.info5 base _ l2 (UInt8.ofNat q) rfl (ho.alloc _) wr.heap.size 1 rfl (by rw [HU.out]; exact cell_alloc1 _ _ _) ?_ ?_ ?_)
        · omega
        · simp; omega
        intro v' w' ho' hbl
        have hb' := hb.trans (((Below.refl _ wr).alloc (by omega) _).trans hbl)
        clear hbl ho hb hz
        go_wp2
        go_ret
        exact ⟨v', rfl, by rw [HT2.out]; exact ho', hb'⟩
end Go.Proofs.Ytmbfcpdflhjfnaa
