import Derived.Test.YtmcllcepoiakeaaGreatAV
import Derived.Test.YtmcllcepoiakeaaGreatTBL
set_option linter.unusedSimpArgs false
set_option linter.unusedVariables false
namespace Go.Proofs.YtmcllcepoiakeaaGreat
open Go.RowKit Go.Mx
theorem top_law (D X : Int) (W : World) (hD : 0 ≤ D ∧ D ≤ 255) (hX : 0 ≤ X ∧ X ≤ 255) : Calls Tryz.prog 3 #[.int .u8 D, .int .u8 X] W fun e w' => e = .returned (.bool true) ∧ Below W.heap.size W w' := by
  obtain ⟨d, rfl⟩ := Int.eq_ofNat_of_zero_le hD.1
  obtain ⟨x, rfl⟩ := Int.eq_ofNat_of_zero_le hX.1
  exact top3 awake_any d x (by omega) (by omega) W
end Go.Proofs.YtmcllcepoiakeaaGreat
