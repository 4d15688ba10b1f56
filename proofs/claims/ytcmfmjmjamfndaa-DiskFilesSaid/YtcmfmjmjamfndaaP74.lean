import Derived.Test.YtcmfmjmjamfndaaP73
namespace Go.Proofs.Ytcmfmjmjamfndaa
open Go.RowKit Go.Mx Go.Dk
theorem idx_len : ∀ (l : List Sec) (k : Nat), (idx k l).length = l.length
  | [], _ => rfl
  | _ :: l, k => by simp [idx, idx_len l (k + 1)]
theorem idx_mem : ∀ (l : List Sec) (k : Nat) (x : Nat × Sec), x ∈ idx k l → x.1 < k + l.length ∧ x.2 ∈ l
  | [], _, _, h => by cases h
  | s :: l, k, x, h => by
    rcases List.mem_cons.1 h with rfl | h
    · simp
    · have := idx_mem l (k + 1) x h
      exact ⟨by simp; omega, List.mem_cons_of_mem _ this.2⟩
theorem lay_idx : ∀ (l now : List Sec), lay now (idx now.length l) = now ++ l
  | [], now => by simp [idx, lay]
  | s :: l, now => by
    have ih := lay_idx l (now ++ [s])
    rw [List.length_append] at ih
    unfold lay at ih ⊢
    rw [idx, List.foldl_cons, put_snoc]
    simpa using ih
theorem fm_congr {α β : Type} (f g : α → Option β) : ∀ (l : List α), (∀ a ∈ l, f a = g a) → l.filterMap f = l.filterMap g
  | [], _ => rfl
  | a :: l, h => by
    rw [List.filterMap_cons, List.filterMap_cons, h a (by simp), fm_congr f g l fun b hb => h b (List.mem_cons_of_mem _ hb)]
theorem pk1_all (n : Nat) (log : List (Nat × Sec)) (h : n = log.length) : pk1 (List.replicate n true) log = log := by
  unfold pk1
  have hc : ∀ i ∈ List.range log.length, (if (List.replicate n true).getD i false then log[i]? else none) = some (log.getD i (0, [])) := by
    intro i hi
    have hi := List.mem_range.1 hi
    simp [List.getD_eq_getElem?_getD, h, hi]
  rw [fm_congr _ _ _ hc]
  have : (List.range log.length).filterMap (fun i => some (log.getD i (0, []))) = (List.range log.length).map fun i => log.getD i (0, []) := by
    rw [← List.filterMap_eq_map]; rfl
  rw [this]
  apply List.ext_getElem
  · simp
  · intro i h1 h2
    simp [List.getD_eq_getElem?_getD, h2]
end Go.Proofs.Ytcmfmjmjamfndaa
