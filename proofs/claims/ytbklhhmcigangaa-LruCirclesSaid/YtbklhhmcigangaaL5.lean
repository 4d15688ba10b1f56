import Derived.Test.YtbklhhmcigangaaL4
namespace Go.Lr
set_option linter.unusedVariables false
set_option linter.unusedSimpArgs false
theorem find_append (l m : List En) (k : Int) : find (l ++ m) k = (find l k).or (find m k) := by
  induction l with
  | nil => simp [find]
  | cons e l ih => rw [List.cons_append, find_cons, find_cons, ih]; split <;> rfl
/-- keys 0 .. k - 1, of which the first i are after the next one -/
def chain (k i : Nat) : List En := (List.range k).map fun (x : Nat) => (⟨(x : Int), ⟨[], true, x + 1, if x < i then [(x : Int) + 1] else []⟩⟩ : En)
def cirA (i : Nat) : CM := ⟨100, chain i 0, i⟩
def cirC (k i : Nat) : CM := ⟨100, chain k i ++ [⟨k, ⟨[], false, k + 1, []⟩⟩], k + 1⟩
theorem find_chain (k i : Nat) (x : Int) : find (chain k i) x = if 0 ≤ x ∧ x < k then some ⟨[], true, x.toNat + 1, if x.toNat < i then [x + 1] else []⟩ else none := by
  induction k with
  | zero => rw [if_neg (by omega)]; rfl
  | succ k ih =>
    have : chain (k + 1) i = chain k i ++ [⟨k, ⟨[], true, k + 1, if k < i then [(k : Int) + 1] else []⟩⟩] := by unfold chain; rw [List.range_succ, List.map_append]; rfl
    rw [this, find_append, ih, find_cons]
    by_cases h : 0 ≤ x ∧ x < k
    · rw [if_pos h, if_pos (show 0 ≤ x ∧ x < ((k + 1 : Nat) : Int) by omega)]; rfl
    · rw [if_neg h]
      by_cases h2 : (k : Int) = x
      · subst h2
        rw [if_pos rfl, if_pos (show 0 ≤ (k : Int) ∧ (k : Int) < ((k + 1 : Nat) : Int) by omega)]
        simp
      · rw [if_neg h2, if_neg (show ¬ (0 ≤ x ∧ x < ((k + 1 : Nat) : Int)) by omega)]; rfl
theorem chain_succ (k i : Nat) : chain (k + 1) i = chain k i ++ [⟨k, ⟨[], true, k + 1, if k < i then [(k : Int) + 1] else []⟩⟩] := by unfold chain; rw [List.range_succ, List.map_append]; rfl
theorem cirA_lay (i : Nat) : lay (cirA i) i [] true = cirA (i + 1) := by
  unfold lay cirA
  simp only
  rw [find_chain, if_neg (by omega)]
  simp only
  rw [chain_succ]
  simp
theorem cirC_lay (k : Nat) : lay (cirA k) k [] false = cirC k 0 := by
  unfold lay cirA
  simp only
  rw [find_chain, if_neg (by omega)]
  rfl
theorem find_C (k i : Nat) (x : Int) : find (cirC k i).all x = if 0 ≤ x ∧ x < k then some ⟨[], true, x.toNat + 1, if x.toNat < i then [x + 1] else []⟩ else if (k : Int) = x then some ⟨[], false, k + 1, []⟩ else none := by
  show find (chain k i ++ _) x = _
  rw [find_append, find_chain, find_cons]
  split
  · rfl
  · rfl
theorem dirty_C (k i : Nat) (x : Int) : dirtyAt (cirC k i).all x = decide (0 ≤ x ∧ x < k) := by
  unfold dirtyAt
  rw [find_C]
  by_cases h : 0 ≤ x ∧ x < k
  · rw [if_pos h]; simp [h]
  · rw [if_neg h]
    split
    · simp; omega
    · simp; omega
theorem aft_C (k i : Nat) (x : Int) : aft (cirC k i).all x = if 0 ≤ x ∧ x < k ∧ x < i then [x + 1] else [] := by
  unfold aft
  rw [find_C]
  by_cases h : 0 ≤ x ∧ x < k
  · rw [if_pos h]
    simp only [Option.map_some, Option.getD_some]
    by_cases h2 : x < i
    · rw [if_pos (show x.toNat < i by omega), if_pos (show 0 ≤ x ∧ x < (k : Int) ∧ x < (i : Int) by omega)]
    · rw [if_neg (show ¬ x.toNat < i by omega), if_neg (show ¬ (0 ≤ x ∧ x < (k : Int) ∧ x < (i : Int)) by omega)]
  · rw [if_neg h, if_neg (show ¬ (0 ≤ x ∧ x < (k : Int) ∧ x < (i : Int)) by omega)]
    split <;> rfl
theorem reach_C {k i : Nat} {x y : Int} (h : Reach (cirC k i).all x y) : x ≤ y := by
  induction h with
  | refl _ => exact Int.le_refl _
  | step h1 _ ih =>
    rw [aft_C] at h1
    split at h1
    · simp at h1; omega
    · cases h1
theorem acyc_C (k i : Nat) : Acyc (cirC k i).all := by
  intro x y hy hr
  have := reach_C hr
  rw [aft_C] at hy
  split at hy
  · simp at hy; omega
  · cases hy
theorem after_C {k i : Nat} (h : i + 1 < k) : afterM (cirC k i) i (i + 1) = (cirC k (i + 1), 0) := by
  unfold afterM
  rw [if_neg (by rw [dirty_C, dirty_C]; simp; omega), if_neg (fun hr => by have := reach_C hr; omega)]
  congr 1
  show CM.mk 100 (addAft (chain k i ++ _) _ _) _ = CM.mk 100 _ _
  congr 1
  unfold addAft setE chain
  rw [List.map_append, List.map_map]
  congr 1
  · apply List.map_congr_left
    intro x _
    simp only [Function.comp]
    by_cases hx : x = i
    · subst hx
      simp
    · have h1 : ((x : Int) == (i : Int)) = false := by rw [beq_eq_false_iff_ne]; omega
      rw [h1]
      simp only [Bool.false_eq_true, if_false]
      congr 2
      by_cases h2 : x < i
      · rw [if_pos h2, if_pos (by omega)]
      · rw [if_neg h2, if_neg (by omega)]
  · have h1 : ((k : Int) == (i : Int)) = false := by rw [beq_eq_false_iff_ne]; omega
    simp only [List.map_cons, List.map_nil, h1, Bool.false_eq_true, if_false]
theorem reach_up {k : Nat} : ∀ (d j : Nat), j + d < k → Reach (cirC k (k - 1)).all j ((j + d : Nat) : Int)
  | 0, j, _ => .refl _
  | d + 1, j, h => by
    refine .step (y := ((j + 1 : Nat) : Int)) ?_ ?_
    · rw [aft_C, if_pos (by omega)]; simp
    · have := reach_up (k := k) d (j + 1) (by omega)
      rwa [show j + 1 + d = j + (d + 1) by omega] at this
theorem after_self {k j : Nat} (h : j < k) : afterM (cirC k (k - 1)) j j = (cirC k (k - 1), 11) := by
  unfold afterM
  rw [if_neg (by rw [dirty_C]; simp; omega), if_pos (.refl _)]
theorem after_back {k j : Nat} (h : j < k) : afterM (cirC k (k - 1)) ((k - 1 : Nat) : Int) j = (cirC k (k - 1), 11) := by
  unfold afterM
  rw [if_neg (by rw [dirty_C, dirty_C]; simp; omega), if_pos]
  have := reach_up (k := k) (k - 1 - j) j (by omega)
  rwa [show j + (k - 1 - j) = k - 1 by omega] at this
theorem after_none {k i : Nat} {x y : Int} (h : ¬ (0 ≤ x ∧ x < k) ∨ ¬ (0 ≤ y ∧ y < k)) : afterM (cirC k i) x y = (cirC k i, 15) := by
  unfold afterM
  rw [if_pos]
  rw [dirty_C, dirty_C]
  rcases h with h | h
  · left; simpa using h
  · right; simpa using h
theorem flush_C (k : Nat) : (flushM (cirC k (k - 1))).2.length = k ∧ ∀ i, i < k → (flushM (cirC k (k - 1))).2.getD i 0 = ((k - 1 - i : Nat) : Int) := by
  obtain ⟨hF, hm, _⟩ := flush_spec (c := cirC k (k - 1)) (acyc_C k (k - 1))
  obtain ⟨out, ho⟩ : ∃ o, o = (flushM (cirC k (k - 1))).2 := ⟨_, rfl⟩
  rw [← ho] at hF hm ⊢
  have hm' : ∀ x, x ∈ out ↔ 0 ≤ x ∧ x < k := fun x => by rw [hm, dirty_C]; simp
  have hlen : out.length = k := by
    have hp : out.Perm ((List.range k).map fun n : Nat => (n : Int)) := by
      refine (List.perm_ext_iff_of_nodup hF.nd ?_).2 fun x => ?_
      · exact List.Pairwise.map _ (fun a b h e => h (by have e : ((a : Nat) : Int) = (b : Int) := e; omega)) (List.nodup_range (n := k))
      · rw [hm', List.mem_map]
        constructor
        · intro h; exact ⟨x.toNat, by simp; omega, by omega⟩
        · rintro ⟨n, hn, rfl⟩; simp at hn; omega
    have := hp.length_eq
    simpa using this
  refine ⟨hlen, ?_⟩
  intro i
  induction i using Nat.strongRecOn with
  | _ i ih =>
    intro hi
    have hlt : i < out.length := by omega
    obtain ⟨x, hx⟩ : ∃ x, x = out.getD i 0 := ⟨_, rfl⟩
    have hg : out[i]? = some x := by rw [hx, List.getD_eq_getElem?_getD, List.getElem?_eq_getElem hlt]; rfl
    rw [← hx]
    have hmx := (hm' x).1 (List.mem_of_getElem? hg)
    have hge : ∀ j, j < i → out[j]? = some ((k - 1 - j : Nat) : Int) := fun j hj => by
      have := ih j hj (by omega)
      rw [← this, List.getD_eq_getElem?_getD, List.getElem?_eq_getElem (by omega)]; rfl
    -- x is none of those ahead
    have hne : ∀ j, j < i → x ≠ ((k - 1 - j : Nat) : Int) := fun j hj e => by
      have h1 := hge j hj
      rw [← e] at h1
      have h2 := List.pairwise_iff_getElem.1 hF.nd j i (by omega) hlt hj
      rw [List.getElem?_eq_getElem (by omega)] at h1
      rw [List.getElem?_eq_getElem hlt] at hg
      exact h2 ((Option.some.inj h1).trans (Option.some.inj hg).symm)
    have hle : x ≤ ((k - 1 - i : Nat) : Int) := by
      apply Classical.byContradiction
      intro hn
      have := hne (k - 1 - x.toNat) (by omega)
      apply this
      omega
    by_cases he : x = ((k - 1 - i : Nat) : Int)
    · exact he
    · exfalso
      have hsp : out = out.take i ++ x :: out.drop (i + 1) := by
        have h1 := List.take_append_drop i out
        have h2 : out.drop i = x :: out.drop (i + 1) := by
          rw [List.drop_eq_getElem_cons hlt]
          rw [List.getElem?_eq_getElem hlt] at hg
          rw [Option.some.inj hg]
        rw [h2] at h1
        exact h1.symm
      have h3 := hF.ord _ x _ hsp (x + 1) (by rw [aft_C, if_pos (by omega)]; simp) (by rw [dirty_C]; simp; omega)
      obtain ⟨j, hj, hjx⟩ := List.getElem_of_mem h3
      have hj' : j < i := by simp at hj; omega
      have h4 := hge j hj'
      rw [List.getElem_take] at hjx
      rw [List.getElem?_eq_getElem (by omega), hjx] at h4
      have := Option.some.inj h4
      omega
end Go.Lr
