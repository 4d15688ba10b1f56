import Derived.Test.YtpgdncpomacghaaM2
import Derived.Test.YtpgdncpomacghaaN
namespace Go.Mx
open Go.RowKit

/-- what came in as a slice of ints reads as its first len numbers -/
theorem IsRow.slI {w : World} {a : Option Addr} {len cap : Nat} {zs : List Int} (h : IsRow .i64 w a len cap zs) : SlI w w.heap.size (.slice a len cap) (zs.take len) := by
  rcases h with ⟨rfl, rfl, rfl, rfl⟩ | ⟨x, rfl, h1, h2, h3, h4, h5⟩
  · exact SlI.nil _ _
  · have hl : (zs.take len).length = len := by simp; omega
    refine ⟨some x, cap, by rw [List.length_map, hl], by rw [List.length_map, hl]; exact h1, h2, fun hn => ?_⟩
    have hlen : 0 < len := by
      rcases Nat.eq_zero_or_pos len with h | h
      · subst h; simp at hn
      · exact h
    have hsp : x.spot = none := by
      have := h4 0 (by omega)
      unfold World.cell? at this
      split at this
      · split at this
        · cases this
        · rename_i hs
          cases hx : x.spot with
          | none => rfl
          | some sp => simp [Addr.add, hx] at hs
      · cases this
    have hadd : ∀ i, x.add i = ⟨x.block, x.off + i, none⟩ := by
      intro i
      obtain ⟨b, o, s⟩ := x
      simp only at hsp
      subst hsp
      unfold Addr.add; split <;> simp_all
    refine ⟨x.block, x.off, by obtain ⟨b, o, s⟩ := x; simp only at hsp; subst hsp; rfl, ?_, ?_⟩
    · have := h4 0 (by omega)
      exact World.block_lt_of_cell? w (x.add 0) this |> fun h => by rw [hadd] at h; exact h
    · intro i hi j u hu
      have hi' : i < len := by rw [List.length_map, hl] at hi; exact hi
      have := h4 i (by omega)
      rw [hadd] at this
      have e : ((zs.take len).map fun n => [Value.int .i64 n]).getD i [] = [.int .i64 (zs.getD i 0)] := by
        simp [List.getD_eq_getElem?_getD, List.getElem?_map, List.getElem?_take, hi', List.getElem?_eq_getElem (show i < zs.length by omega)]
      rw [e] at hu
      have hj : j = 0 := by have := (List.getElem?_eq_some_iff.1 hu).1; simpa using this
      subst hj
      simp at hu
      rw [show x.off + i * 1 + 0 = x.off + i by omega, this, ← hu]
      rfl

theorem wf_i64 {n : Int} (h : (Lit.int .i64 n).wf = true) : -9223372036854775808 ≤ n ∧ n ≤ 9223372036854775807 := by
  simpa [Lit.wf, IntKind.min, IntKind.max, IntKind.signed, IntKind.bits] using h
end Go.Mx
