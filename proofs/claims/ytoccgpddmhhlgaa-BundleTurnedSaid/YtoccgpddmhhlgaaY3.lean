import Derived.Test.YtoccgpddmhhlgaaBH
import Derived.Test.YtoccgpddmhhlgaaY2
namespace Go.Proofs.Ytoccgpddmhhlgaa
open Go.ChangeShapes Go.WideShapes Go.ChangeAt Go.RowKit Go.Deep Go.Mx Go.Str Go.Bun
set_option linter.unusedSimpArgs false
set_option linter.unusedVariables false
section
variable {H : Type} {enc : TypeId × Value → H} {w : World} {base : Nat} {spare : Nat → Bool} {held : Bool}
theorem part_of {n : Nat} {cs : List Value} {y : DataW H × List MemPlace} (h : DataW.trod enc Try.prog w base spare held n 35 cs = some y) :
    ∃ p : Prt × Value, cs = [.string ⟨p.1.name.toArray⟩, p.2] ∧ SlB w w.heap.size p.2 p.1.data ∧ p.1.name.length ≤ 9223372036854775807 := by
  obtain ⟨hl, n, hf⟩ := cells_of Try.underlying35 (by kernel_rfl) (by kernel_rfl) h
  obtain ⟨v0, _, h0, t0⟩ := hf 0 _ rfl
  obtain ⟨v1, _, h1, t1⟩ := hf 1 _ rfl
  obtain ⟨s, rfl, hs⟩ := str_of t0
  obtain ⟨bs, hb⟩ := bytes_of t1
  match cs, hl with
  | [a, b], _ =>
    simp only [List.getElem?_cons_zero, List.getElem?_cons_succ, Option.some.injEq] at h0 h1
    subst h0 h1
    exact ⟨(⟨s, bs⟩, b), rfl, hb, hs⟩
theorem parts_of' {n : Nat} {v : Value} {y : DataW H × List MemPlace} (h : DataW.trod enc Try.prog w base spare held n 22 [v] = some y) : ∃ l : List Prt, SlPt w w.heap.size v l ∧ ∀ p ∈ l, p.name.length ≤ 9223372036854775807 := by
  obtain ⟨v', rows, e, hs, hr⟩ := rows_of (s := 2) Try.underlying22 (by kernel_rfl) (by omega) h
  obtain rfl : v = v' := by simpa using e
  obtain ⟨ps, hl, hp⟩ := pick_list [] ((default : Prt), undef) rows (fun r (p : Prt × Value) => r = [.string ⟨p.1.name.toArray⟩, p.2] ∧ SlB w w.heap.size p.2 p.1.data ∧ p.1.name.length ≤ 9223372036854775807) (fun i hi => by obtain ⟨n, y, h⟩ := hr i hi; exact part_of h)
  refine ⟨ps.map (·.1), ⟨rows, by simp [hl], hs, fun i hi => ?_⟩, fun p hpm => ?_⟩
  · rw [List.length_map] at hi
    have h1 := hp i (by omega)
    refine ⟨(ps.getD i (default, undef)).2, ?_, ?_⟩
    · rw [h1.1]; simp [List.getD_eq_getElem?_getD, hi]
    · have := h1.2.1
      simpa [List.getD_eq_getElem?_getD, hi] using this
  · obtain ⟨q, hq, rfl⟩ := List.mem_map.1 hpm
    obtain ⟨i, hi, rfl⟩ := List.getElem_of_mem hq
    have := (hp i (by omega)).2.2
    simpa [List.getD_eq_getElem?_getD, hi] using this
set_option maxRecDepth 100000 in
theorem parts_of {r : Reach} {b0 : Nat} {v : Value} {d : DataW H} {p : List MemPlace} (hv : Value.okWide Try.prog w r b0 22 v) (h : DataW.Trod enc Try.prog w base spare held 22 v d p) : ∃ l : List Prt, SlPt w w.heap.size v l ∧ ∀ p ∈ l, p.name.length ≤ 9223372036854775807 := by
  obtain ⟨a, n, c, rfl⟩ := okWide_slice Try.underlying22 hv
  obtain ⟨fuel, hf⟩ := h
  exact parts_of' hf
end
end Go.Proofs.Ytoccgpddmhhlgaa
