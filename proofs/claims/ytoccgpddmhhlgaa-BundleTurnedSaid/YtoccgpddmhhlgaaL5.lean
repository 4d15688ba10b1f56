import Derived.Test.YtoccgpddmhhlgaaP11
namespace Go.Bun
open Go.Mx Go.Crc Go.Str Go.Proofs.Ytoccgpddmhhlgaa
set_option linter.unusedSimpArgs false
set_option linter.unusedVariables false

theorem idx_turn (a : Nat) (l1 l2 : List Itm) (p q : Itm) (hn : q.name = p.name) (hl : q.data.length = p.data.length) (hs : q.s = p.s) : idxB a (l1 ++ q :: l2) = idxB a (l1 ++ p :: l2) := by
  rw [idx_append, idx_append]
  have : ∀ b, rowB b q = rowB b p := fun b => by unfold rowB; rw [hn, hl, hs]
  simp only [idxB, this, hl]
theorem dat_turn (l1 l2 : List Itm) (p q : Itm) (i : Nat) (y : UInt8) (hi : i < p.data.length) (hq : q.data = p.data.set i y) : dat (l1 ++ q :: l2) = (dat (l1 ++ p :: l2)).set ((dat l1).length + i) y := by
  rw [dat_append, dat_cons, dat_append, dat_cons, hq, List.set_append_right _ _ (by omega), show (dat l1).length + i - (dat l1).length = i by omega, List.set_append_left _ _ hi]
/-- the items where byte i of part k is turned to y -/
def turnI (l : List Itm) (k i : Nat) (y : UInt8) : List Itm := l.take k ++ ⟨(l.getD k default).name, (l.getD k default).data.set i y, (l.getD k default).s⟩ :: l.drop (k + 1)
theorem split_at (l : List Itm) (k : Nat) (hk : k < l.length) : l = l.take k ++ l.getD k default :: l.drop (k + 1) := by
  conv => lhs; rw [← List.take_append_drop k l]
  congr 1
  rw [List.getD_eq_getElem?_getD, List.getElem?_eq_getElem hk, Option.getD_some, List.drop_eq_getElem_cons hk]
theorem turn_dat (l : List Itm) (k i : Nat) (y : UInt8) (hk : k < l.length) (hi : i < (l.getD k default).data.length) : dat (turnI l k i y) = (dat l).set ((dat (l.take k)).length + i) y := by
  conv => rhs; rw [split_at l k hk]
  rw [show (l.take k ++ l.getD k default :: l.drop (k + 1)).take k = l.take k by rw [← split_at l k hk]]
  exact dat_turn _ _ _ _ i y hi rfl
theorem turn_idx (l : List Itm) (k i : Nat) (y : UInt8) (hk : k < l.length) : idxB 4 (turnI l k i y) = idxB 4 l := by
  conv => rhs; rw [split_at l k hk]
  exact idx_turn _ _ _ _ _ rfl (by simp) rfl
theorem turn_len (l : List Itm) (k i : Nat) (y : UInt8) (hk : k < l.length) : (turnI l k i y).length = l.length := by
  conv => rhs; rw [split_at l k hk]
  unfold turnI; simp
theorem turn_tail (l : List Itm) (k i : Nat) (y : UInt8) (hk : k < l.length) (hi : i < (l.getD k default).data.length) : tailB (turnI l k i y) = tailB l := by
  unfold tailB; rw [turn_idx l k i y hk, turn_dat l k i y hk hi, turn_len l k i y hk, List.length_set]
theorem turn_bun (l : List Itm) (k i : Nat) (y : UInt8) (hk : k < l.length) (hi : i < (l.getD k default).data.length) : bunB (turnI l k i y) = (bunB l).set (from_ l k + i) y := by
  have hd : (dat (l.take k)).length + i < (dat l).length := by
    conv => rhs; rw [split_at l k hk]
    rw [dat_append, dat_cons, List.length_append, List.length_append]; omega
  unfold bunB
  rw [turn_tail l k i y hk hi, turn_dat l k i y hk hi]
  unfold from_
  rw [List.set_append_right _ _ (by simp [mark]; omega), List.set_append_left _ _ (by simp [mark]; omega)]
  congr 3
  simp [mark]; omega
theorem mid_getD {α : Type} (A r : List α) (p q d : α) (k : Nat) (hk : A.length = k) (t : Nat) : (A ++ q :: r).getD t d = if t = k then q else (A ++ p :: r).getD t d := by
  simp only [List.getD_eq_getElem?_getD]
  by_cases h : t = k
  · rw [if_pos h, List.getElem?_append_right (by omega), hk, h]; simp
  · rw [if_neg h]
    rcases Nat.lt_or_ge t k with h1 | h1
    · rw [List.getElem?_append_left (by omega), List.getElem?_append_left (by omega)]
    · rw [List.getElem?_append_right (by omega), List.getElem?_append_right (by omega), hk]
      obtain ⟨e, he⟩ : ∃ e, t - k = e + 1 := ⟨t - k - 1, by omega⟩
      rw [he]; simp
theorem turn_getD (l : List Itm) (k i : Nat) (y : UInt8) (hk : k < l.length) (t : Nat) : (turnI l k i y).getD t default = if t = k then ⟨(l.getD k default).name, (l.getD k default).data.set i y, (l.getD k default).s⟩ else l.getD t default := by
  have := mid_getD (l.take k) (l.drop (k + 1)) (l.getD k default) ⟨(l.getD k default).name, (l.getD k default).data.set i y, (l.getD k default).s⟩ default k (by simp; omega) t
  rw [← split_at l k hk] at this
  exact this
theorem turn_names (l : List Itm) (k i : Nat) (y : UInt8) (hk : k < l.length) : (turnI l k i y).map (·.name) = l.map (·.name) := by
  conv => rhs; rw [split_at l k hk]
  unfold turnI; simp
theorem turn_good (l : List Itm) (h : Proofs.Ytoccgpddmhhlgaa.Good l) (k i : Nat) (y : UInt8) (hk : k < l.length) (hi : i < (l.getD k default).data.length) : Proofs.Ytoccgpddmhhlgaa.Good (turnI l k i y) := by
  refine ⟨by rw [turn_names l k i y hk]; exact h.rise, by rw [turn_len l k i y hk]; exact h.few, ?_, by rw [turn_bun l k i y hk hi, List.length_set]; exact h.short⟩
  intro p hp
  obtain ⟨t, ht, rfl⟩ := List.getElem_of_mem hp
  have e : (turnI l k i y)[t] = (turnI l k i y).getD t default := by simp [List.getD_eq_getElem?_getD, List.getElem?_eq_getElem ht]
  rw [e, turn_getD l k i y hk t]
  rw [turn_len l k i y hk] at ht
  have hm : ∀ j, j < l.length → (l.getD j default).s < 256 ^ 4 := fun j hj => h.sums _ (by rw [List.getD_eq_getElem?_getD, List.getElem?_eq_getElem hj]; exact List.getElem_mem _)
  split
  · exact hm k hk
  · exact hm t ht
end Go.Bun
