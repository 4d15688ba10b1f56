import Derived.Test.YtbklhhmcigangaaM4
import Derived.Laws.Slices
namespace Go.Mx
open Go.RowKit

theorem RdB.cut {w : World} {b o : Nat} {bs : List UInt8} (h : RdB w b o bs) (lo hi : Nat) : RdB w b (o + lo) ((bs.take hi).drop lo) := by
  intro i hi'
  simp only [List.length_drop, List.length_take] at hi'
  have e : o + lo + i = o + (lo + i) := by omega
  rw [e, h.at (k := lo + i) (by omega)]
  congr 2
  simp only [List.getD_eq_getElem?_getD, List.getElem?_drop, List.getElem?_take]
  rw [if_pos (by omega)]

theorem SlB.cut {w : World} {B n cap : Nat} {oa : Option Addr} {bs : List UInt8} (h : SlB w B (.slice oa n cap) bs) (lo hi : Nat) (h1 : lo ≤ hi) (h2 : hi ≤ bs.length) : SlB w B (sliced oa lo hi cap 1) ((bs.take hi).drop lo) := by
  obtain ⟨oa', cap', he, hc, hm, hr⟩ := h
  cases he
  have hl : ((bs.take hi).drop lo).length = hi - lo := by simp; omega
  unfold sliced
  refine ⟨_, _, by rw [hl], by rw [hl]; omega, by omega, fun hn => ?_⟩
  have hlt : lo < hi := by
    rcases Nat.lt_or_ge lo hi with h | h
    · exact h
    · exact absurd (List.eq_nil_of_length_eq_zero (by rw [hl]; omega)) hn
  obtain ⟨bb, bo, rfl, hlb, hrd⟩ := hr (by rintro rfl; simp at h2; omega)
  refine ⟨bb, bo + lo, ?_, hlb, hrd.cut lo hi⟩
  rw [if_neg (by omega)]
  simp [Addr.add]

theorem SlB.len {w : World} {B : Nat} {v : Value} {bs : List UInt8} (h : SlB w B v bs) {P : Program} {t e ty : TypeId} (ht : P.underlying t = some (.slice e)) (w' : World) :
    (Builtin.len_ #[t] ty #[v]).run P w' = .ok (.int .i64 bs.length) w' := by
  obtain ⟨oa', cap', rfl, _⟩ := h
  exact len_sl ht rfl w'

section
variable {w : World} {B : Nat} {v : Value} {bs : List UInt8} {P : Program} {t e : TypeId}

/-- 'b[:hi]' -/
theorem SlB.to (h : SlB w B v bs) (ht : P.underlying t = some (.slice e)) (hs : ∀ w, (sizeOf e).run P w = .ok 1 w) (hi : Nat) (h2 : hi ≤ bs.length) :
    ∃ v', SlB w B v' (bs.take hi) ∧ ∀ w' (k : IntKind), (Instr.slice t v none (some (.int k (hi : Int))) none).run P w' = .ok v' w' := by
  obtain ⟨oa', cap', rfl, hc, hm, hr⟩ := id h
  have ht' : P.underlying t = some (.slice (P.elem t)) := by rw [ht]; simp [Program.elem, ht]
  have hel : P.elem t = e := by simp [Program.elem, ht]
  refine ⟨sliced oa' 0 hi cap' 1, by simpa using h.cut 0 hi (Nat.zero_le _) h2, fun w' k => ?_⟩
  rw [run_slice_h (h := (hi : Int)) (ht := ht') (h0 := by omega) (h2 := by omega), hel, hs]
  simp [Result.andThen]

/-- 'b[lo:]' -/
theorem SlB.from (h : SlB w B v bs) (ht : P.underlying t = some (.slice e)) (hs : ∀ w, (sizeOf e).run P w = .ok 1 w) (lo : Nat) (h2 : lo ≤ bs.length) :
    ∃ v', SlB w B v' (bs.drop lo) ∧ ∀ w' (k : IntKind), (Instr.slice t v (some (.int k (lo : Int))) none none).run P w' = .ok v' w' := by
  obtain ⟨oa', cap', rfl, hc, hm, hr⟩ := id h
  have ht' : P.underlying t = some (.slice (P.elem t)) := by rw [ht]; simp [Program.elem, ht]
  have hel : P.elem t = e := by simp [Program.elem, ht]
  refine ⟨sliced oa' lo bs.length cap' 1, by simpa using h.cut lo bs.length h2 (Nat.le_refl _), fun w' k => ?_⟩
  rw [run_slice_l (l := (lo : Int)) (ht := ht') (h0 := by omega) (h1 := by omega), hel, hs]
  simp [Result.andThen]

/-- 'b[lo:hi]' -/
theorem SlB.part (h : SlB w B v bs) (ht : P.underlying t = some (.slice e)) (hs : ∀ w, (sizeOf e).run P w = .ok 1 w) (lo hi : Nat) (h1 : lo ≤ hi) (h2 : hi ≤ bs.length) :
    ∃ v', SlB w B v' ((bs.take hi).drop lo) ∧ ∀ w' (k k' : IntKind), (Instr.slice t v (some (.int k (lo : Int))) (some (.int k' (hi : Int))) none).run P w' = .ok v' w' := by
  obtain ⟨oa', cap', rfl, hc, hm, hr⟩ := id h
  have ht' : P.underlying t = some (.slice (P.elem t)) := by rw [ht]; simp [Program.elem, ht]
  have hel : P.elem t = e := by simp [Program.elem, ht]
  refine ⟨sliced oa' lo hi cap' 1, h.cut lo hi h1 h2, fun w' k k' => ?_⟩
  rw [run_slice_lh (l := (lo : Int)) (h := (hi : Int)) (ht := ht') (h0 := by omega) (h1 := by omega) (h2 := by omega), hel, hs]
  simp [Result.andThen]
end

theorem idx (a : Int) (n : Nat) (hn : 0 < n) : ∃ k : Nat, k < n ∧ (IntKind.u64.wrap a).tmod (n : Int) = (k : Int) := by
  rw [IntKind.wrap_u64, tmod_of_emod]
  have h1 := Int.emod_nonneg (a % 18446744073709551616) (show (n : Int) ≠ 0 by omega)
  have h2 := Int.emod_lt_of_pos (a % 18446744073709551616) (show (0 : Int) < n by omega)
  obtain ⟨k, hk⟩ := Int.eq_ofNat_of_zero_le h1
  exact ⟨k, by omega, hk⟩
end Go.Mx
