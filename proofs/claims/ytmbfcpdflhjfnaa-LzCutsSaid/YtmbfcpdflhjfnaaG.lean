import Derived.Test.YtmbfcpdflhjfnaaF
namespace Go.Proofs.Ytmbfcpdflhjfnaa
open Go.RowKit Go.Mx Go.Lz

theorem lzUnpacks_walk (bs : List UInt8) (bv : Value) (most : Int) (w : World) (hb : SlB w w.heap.size bv bs) :
    Calls Try.prog 3 #[bv, .int .i64 most] w fun e w' => e = .returned (.bool true) ∧ Below w.heap.size w w' := by
  have hlb := fun w => len_sl (P := Try.prog) Try.underlying22 (ty := 3) hb.choose_spec.choose_spec.1 w
  by_cases h1 : 3000 < bs.length
  · go_enter Try.func3, Try.ntmps3
    go_wp2_with (go_at_call 11; refine (awake_any _).mono ?_; rintro e w' ⟨rfl, hbel⟩)
    go_ret
    exact ⟨rfl, hbel⟩
  · by_cases h2 : 50000 < most ∧ most ≤ 1048576
    · obtain ⟨h2, h3⟩ := h2
      go_enter Try.func3, Try.ntmps3
      go_wp2_with (go_at_call 11; refine (awake_any _).mono ?_; rintro e w' ⟨rfl, hbel⟩)
      go_ret
      exact ⟨rfl, hbel⟩
    · have hd : most ≤ 50000 ∨ 1048576 < most := by omega
      clear h2
      rcases hd with hd | hd
      all_goals
        go_enter Try.func3, Try.ntmps3
        go_wp2_with fail
        refine (unpack_call bs bv most _ hb (by omega)).mono ?_
        rintro e w1 ⟨v1, rfl, hv1, hb1⟩
        go_wp2_with fail
        refine (runpack_call bs bv most _ ((hb.below hb1 (Nat.le_refl _)).mono hb1.size) (by omega)).mono ?_
        rintro e w2 ⟨v2, rfl, hv2, hb2⟩
        have hc1 := conv_sl (P := Try.prog) Try.underlying22 Try.underlying5 Try.underlying9 (hv1.below hb2 (Nat.le_refl _))
        have hc2 := conv_sl (P := Try.prog) Try.underlying22 Try.underlying5 Try.underlying9 hv2
        have hbel := hb1.trans (hb2.mono hb1.size)
        clear hv1 hv2 hb1 hb2
        go_wp2_with (first | (go_at_call 14; refine (num_any _ _).mono ?_; rintro e w' ⟨rfl, rfl⟩) | (go_at_call 11; refine (awake_any _).mono ?_; rintro e w3 ⟨rfl, hb3⟩))
        go_ret
        exact ⟨rfl, hbel.trans (hb3.mono hbel.size)⟩
end Go.Proofs.Ytmbfcpdflhjfnaa
