import Derived.Test.YtoccgpddmhhlgaaBI
namespace Go.Proofs.Ytoccgpddmhhlgaa
open Go.RowKit Go.Mx Go.Crc Go.Str Go.Bun
set_option linter.unusedSimpArgs false
set_option linter.unusedVariables false

/-- what a bundle's items may be -/
structure Good (its : List Itm) : Prop where
  rise : Bun.rise (its.map (·.name)) = true
  few : its.length ≤ 16
  sums : ∀ p ∈ its, p.s < 256 ^ 4
  short : (bunB its).length ≤ 524288
theorem Good.nameLen {its : List Itm} (h : Good its) (k : Nat) (hk : k < its.length) : (its.getD k default).name.length ≤ 16 := by
  have h1 := (rise_iff _).1 h.rise k (by simpa using hk)
  unfold riseAt at h1
  rw [Bool.and_eq_true] at h1
  have h2 := h1.1
  have e : (its.map (·.name)).getD k [] = (its.getD k default).name := by simp [List.getD_eq_getElem?_getD, List.getElem?_map, List.getElem?_eq_getElem hk]
  rw [e] at h2
  unfold nameOk at h2
  simp at h2
  exact h2.1.2
/-- where the index begins, where row k stands, where the foot is -/
def fromOf (its : List Itm) : Nat := 4 + (dat its).length
def posOf (its : List Itm) (k : Nat) : Nat := fromOf its + (idxB 4 (its.take k)).length
def endOf (its : List Itm) : Nat := posOf its its.length
theorem pos_zero (its : List Itm) : posOf its 0 = fromOf its := by simp [posOf, idxB]
theorem pos_next (its : List Itm) (k : Nat) (hk : k < its.length) : posOf its (k + 1) = posOf its k + 14 + (its.getD k default).name.length := by
  unfold posOf; rw [idx_succ its k hk, List.length_append, rowB_len]; omega
theorem idx_le (its : List Itm) (k : Nat) : (idxB 4 (its.take k)).length ≤ (idxB 4 its).length := by
  have h : idxB 4 its = idxB 4 (its.take k) ++ idxB (4 + (dat (its.take k)).length) (its.drop k) := by rw [← idx_append, List.take_append_drop]
  rw [h, List.length_append]; omega
theorem pos_end (its : List Itm) (k : Nat) : posOf its k ≤ endOf its := by
  have := idx_le its k
  unfold endOf posOf
  rw [List.take_length]; omega
theorem end_len (its : List Itm) : (bunB its).length = endOf its + 10 := by
  unfold endOf posOf fromOf bunB tailB; simp [le_length, Bun.mark]; omega
theorem bun_mark (its : List Itm) : (bunB its).take 4 = Bun.mark := by unfold bunB; exact List.take_left' rfl
theorem four_le (n v : Nat) (h : v < 256 ^ n) (pre post : List UInt8) (a : Nat) (ha : pre.length = a) : deL (atB (pre ++ (le n v ++ post)) a n) = v := by
  rw [atB_mid pre (le n v) post a n ha (le_length n v), deL_le' n v h]
/-- a row of the index stands where it should -/
theorem Good.row {its : List Itm} (h : Good its) (k : Nat) (hk : k < its.length) : RowAt (bunB its) (posOf its k) (its.getD k default).name (from_ its k) (its.getD k default).data.length (its.getD k default).s := by
  have hn := h.nameLen k hk
  have hs := h.short
  have hsum := h.sums (its.getD k default) (by rw [List.getD_eq_getElem?_getD, List.getElem?_eq_getElem hk]; exact List.getElem_mem _)
  have hfr := from_le its k
  have hbl := bun_len its
  have hdl : (its.getD k default).data.length ≤ (dat its).length := by
    have e : dat its = dat (its.take (k + 1)) ++ dat (its.drop (k + 1)) := by rw [← dat_append, List.take_append_drop]
    rw [e, dat_succ its k hk]; simp; omega
  obtain ⟨p, hp⟩ : ∃ p, p = its.getD k default := ⟨_, rfl⟩
  have hidx : idxB 4 its = idxB 4 (its.take k) ++ (rowB (from_ its k) p ++ idxB (4 + (dat (its.take (k + 1))).length) (its.drop (k + 1))) := by
    have e : its = its.take (k + 1) ++ its.drop (k + 1) := (List.take_append_drop _ _).symm
    conv => lhs; rw [e]
    rw [idx_append, idx_succ its k hk, List.append_assoc, hp]
  rw [← hp] at hn hsum hdl ⊢
  clear hp
  obtain ⟨Q, hQ⟩ : ∃ Q, bunB its = (Bun.mark ++ (dat its ++ idxB 4 (its.take k))) ++ (rowB (from_ its k) p ++ Q) := by
    unfold bunB tailB; rw [hidx]; exact ⟨_, by simp only [List.append_assoc]; rfl⟩
  have hpos : (Bun.mark ++ (dat its ++ idxB 4 (its.take k))).length = posOf its k := by simp [posOf, fromOf, Bun.mark]; omega
  obtain ⟨pre, hpre⟩ : ∃ x, x = Bun.mark ++ (dat its ++ idxB 4 (its.take k)) := ⟨_, rfl⟩
  rw [← hpre] at hQ hpos
  unfold rowB at hQ
  simp only [List.append_assoc] at hQ
  have hb := hQ
  refine ⟨?_, ?_, ?_, ?_, ?_, ?_⟩
  · rw [hb]; exact four_le 2 _ (by omega) _ _ _ hpos
  · rw [hb, ← List.append_assoc]; exact atB_mid _ _ _ _ _ (by rw [List.length_append, hpos, le_length]) rfl
  · rw [hb, ← List.append_assoc, ← List.append_assoc]; exact four_le 4 _ (by omega) _ _ _ (by simp [hpos, le_length]; omega)
  · rw [hb, ← List.append_assoc, ← List.append_assoc, ← List.append_assoc]; exact four_le 4 _ (by omega) _ _ _ (by simp [hpos, le_length]; omega)
  · rw [hb, ← List.append_assoc, ← List.append_assoc, ← List.append_assoc, ← List.append_assoc]; exact four_le 4 _ hsum _ _ _ (by simp [hpos, le_length]; omega)
  · rw [hb]; simp [hpos, le_length]; omega
/-- the foot -/
theorem Good.foot {its : List Itm} (h : Good its) : deL (atB (bunB its) (endOf its) 4) = fromOf its ∧ deL (atB (bunB its) (endOf its + 4) 2) = its.length ∧ deL (atB (bunB its) (endOf its + 6) 4) = (sum (tailB its)).toNat ∧ atB (bunB its) (fromOf its) (endOf its + 6 - fromOf its) = tailB its := by
  have hs := h.short
  have hbl := bun_len its
  have hf := h.few
  have hb : bunB its = (Bun.mark ++ (dat its ++ idxB 4 its)) ++ (le 4 (4 + (dat its).length) ++ (le 2 its.length ++ le 4 (sum (tailB its)).toNat)) := by
    unfold bunB; conv => lhs; unfold tailB
    simp only [List.append_assoc]; rfl
  have hpos : (Bun.mark ++ (dat its ++ idxB 4 its)).length = endOf its := by simp [endOf, posOf, fromOf, Bun.mark]; omega
  refine ⟨?_, ?_, ?_, ?_⟩
  · rw [hb]; exact four_le 4 _ (by omega) _ _ _ hpos
  · rw [hb, ← List.append_assoc]; exact four_le 2 _ (by omega) _ _ _ (by rw [List.length_append, hpos, le_length])
  · rw [hb, ← List.append_assoc, ← List.append_assoc]
    rw [show le 4 (sum (tailB its)).toNat = le 4 (sum (tailB its)).toNat ++ [] by simp]
    exact four_le 4 _ (sum (tailB its)).isLt _ _ _ (by simp only [List.length_append, hpos, le_length])
  · have hb2 : bunB its = (Bun.mark ++ dat its) ++ (tailB its ++ le 4 (sum (tailB its)).toNat) := by unfold bunB; simp only [List.append_assoc]
    rw [hb2]
    refine atB_mid _ _ _ _ _ (by simp [fromOf, Bun.mark]; omega) ?_
    unfold tailB endOf posOf; simp [le_length]; omega
/-- where part k's bytes lie -/
theorem data_at (its : List Itm) (k : Nat) (hk : k < its.length) : atB (bunB its) (from_ its k) (its.getD k default).data.length = (its.getD k default).data := by
  have e : dat its = dat (its.take k) ++ ((its.getD k default).data ++ dat (its.drop (k + 1))) := by
    have e : its = its.take (k + 1) ++ its.drop (k + 1) := (List.take_append_drop _ _).symm
    conv => lhs; rw [e]
    rw [dat_append, dat_succ its k hk, List.append_assoc]
  have hb : bunB its = (Bun.mark ++ dat (its.take k)) ++ ((its.getD k default).data ++ (dat (its.drop (k + 1)) ++ (tailB its ++ le 4 (sum (tailB its)).toNat))) := by
    unfold bunB; rw [e]; simp only [List.append_assoc]
  rw [hb]
  exact atB_mid _ _ _ _ _ (by simp [from_, Bun.mark]; omega) rfl
theorem from_succ (its : List Itm) (k : Nat) (hk : k < its.length) : from_ its (k + 1) = from_ its k + (its.getD k default).data.length := by
  unfold from_; rw [dat_succ its k hk, List.length_append]; omega
theorem from_end (its : List Itm) : from_ its its.length = fromOf its := by unfold from_ fromOf; rw [List.take_length]
theorem from_mono (its : List Itm) (k : Nat) (hk : k < its.length) : from_ its k + (its.getD k default).data.length ≤ fromOf its := by
  rw [← from_succ its k hk]; exact from_le its (k + 1)
end Go.Proofs.Ytoccgpddmhhlgaa
