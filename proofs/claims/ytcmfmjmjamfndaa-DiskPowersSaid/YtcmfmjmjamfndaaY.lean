import Derived.Test.YtcmfmjmjamfndaaS
import Derived.Deep.Grids
import Derived.ProofKit
import Derived.OpenShut
namespace Go.Mx
open Go.RowKit
theorem bools_sl {w : World} {a : Addr} {len cap : Nat} {B : Nat → Bool} (hl : len ≤ cap) (hm : cap ≤ maxLen) (hc : ∀ i, i < cap → w.cell? (a.add i) = some (.bool (B i))) : SlG w w.heap.size 1 (.slice (some a) len cap) (((List.range len).map B).map fun b => [.bool b]) := by
  have hlen : (((List.range len).map B).map fun b => [Value.bool b]).length = len := by simp
  refine ⟨some a, cap, by rw [hlen], by rw [hlen]; exact hl, hm, fun hn => ?_⟩
  have hpos : 0 < len := by rw [← hlen]; exact List.length_pos_iff.2 hn
  have hsp : a.spot = none := by
    have := hc 0 (by omega)
    unfold World.cell? at this
    split at this
    · split at this
      · cases this
      · rename_i hs
        cases hx : a.spot with
        | none => rfl
        | some sp => simp [Addr.add, hx] at hs
    · cases this
  have hadd : ∀ i, a.add i = ⟨a.block, a.off + i, none⟩ := by
    intro i
    obtain ⟨b, o, s⟩ := a
    simp only at hsp
    subst hsp
    unfold Addr.add; split <;> simp_all
  refine ⟨a.block, a.off, by obtain ⟨b, o, s⟩ := a; simp only at hsp; subst hsp; rfl, ?_, ?_⟩
  · have := hc 0 (by omega)
    rw [hadd] at this
    have h2 := World.block_lt_of_cell? w _ this
    exact h2
  · intro i hi j u hu
    rw [hlen] at hi
    have e : (((List.range len).map B).map fun b => [Value.bool b]).getD i [] = [Value.bool (B i)] := by
      simp [List.getD_eq_getElem?_getD, List.getElem?_map, List.getElem?_range hi]
    rw [e] at hu
    obtain ⟨rfl, rfl⟩ : j = 0 ∧ u = .bool (B i) := by
      cases j with
      | zero => simp at hu; exact ⟨rfl, hu.symm⟩
      | succ j => simp at hu
    have := hc i (by omega)
    rw [hadd] at this
    simpa using this
end Go.Mx
