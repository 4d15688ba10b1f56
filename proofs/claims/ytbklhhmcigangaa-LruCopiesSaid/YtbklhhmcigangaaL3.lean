import Derived.Test.YtbklhhmcigangaaL2
namespace Go.Lr
set_option linter.unusedVariables false
set_option linter.unusedSimpArgs false
def dirtyAt (l : List En) (k : Int) : Bool := ((find l k).map (·.dirty)).getD false
/-- a key is written, behind all that it is after: the keys that were seen, and what is written -/
def walk (l : List En) : Nat → Int → List Int × List Int → List Int × List Int
  | 0, _, st => st
  | n + 1, k, st => if dirtyAt l k = false ∨ k ∈ st.1 then st else
      let st' := (aft l k).foldl (fun s f => walk l n f s) (st.1 ++ [k], st.2)
      (st'.1, st'.2 ++ [k])
/-- how many are still to be written -/
def uns (l : List En) (sn : List Int) : Nat := (l.filter fun e => e.pg.dirty && !sn.contains e.k).length
theorem uns_cons (e : En) (l : List En) (sn : List Int) : uns (e :: l) sn = (if e.pg.dirty && !sn.contains e.k then 1 else 0) + uns l sn := by
  unfold uns; rw [List.filter_cons]; split <;> simp <;> omega
theorem uns_le (l : List En) (sn : List Int) : uns l sn ≤ l.length := List.length_filter_le _ _
theorem uns_mono (l : List En) (sn t : List Int) : uns l (sn ++ t) ≤ uns l sn := by
  induction l with
  | nil => exact Nat.le_refl _
  | cons e l ih =>
    rw [uns_cons, uns_cons]
    have : (e.pg.dirty && !(sn ++ t).contains e.k) = true → (e.pg.dirty && !sn.contains e.k) = true := by simp; intro h1 h2 h3; exact ⟨h1, h2⟩
    cases h : (e.pg.dirty && !(sn ++ t).contains e.k)
    · simp; omega
    · rw [this h]; simp; omega
theorem dirtyAt_cons (e : En) (l : List En) (k : Int) : dirtyAt (e :: l) k = if e.k = k then e.pg.dirty else dirtyAt l k := by
  unfold dirtyAt; rw [find_cons]; split <;> rfl
theorem uns_step {l : List En} {sn : List Int} {k : Int} (hd : dirtyAt l k = true) (hk : k ∉ sn) : uns l (sn ++ [k]) < uns l sn := by
  induction l with
  | nil => cases hd
  | cons e l ih =>
    rw [uns_cons, uns_cons]
    rw [dirtyAt_cons] at hd
    have hm := uns_mono l sn [k]
    by_cases h : e.k = k
    · rw [if_pos h] at hd
      have h1 : sn.contains e.k = false := by rw [h]; simpa using hk
      have h2 : (sn ++ [k]).contains e.k = true := by simp [h]
      rw [h1, h2, hd]; simp; omega
    · rw [if_neg h] at hd
      have := ih hd
      have h1 : (sn ++ [k]).contains e.k = sn.contains e.k := by
        rw [List.contains_eq_mem, List.contains_eq_mem]; simp [h]
      rw [h1]; omega
/-- what a walk adds -/
structure Grw (l : List En) (st st' : List Int × List Int) : Prop where
  pre : ∃ t, st'.1 = st.1 ++ t
  len : st'.2.length + st.1.length = st.2.length + st'.1.length
  good : st.1.Nodup → (∀ x ∈ st.1, dirtyAt l x = true) → st'.1.Nodup ∧ ∀ x ∈ st'.1, dirtyAt l x = true
theorem Grw.refl (l : List En) (st : List Int × List Int) : Grw l st st := ⟨⟨[], by simp⟩, rfl, fun h1 h2 => ⟨h1, h2⟩⟩
theorem Grw.trans {l : List En} {a b c : List Int × List Int} (h : Grw l a b) (k : Grw l b c) : Grw l a c := by
  obtain ⟨t, ht⟩ := h.pre
  obtain ⟨u, hu⟩ := k.pre
  refine ⟨⟨t ++ u, by rw [hu, ht, List.append_assoc]⟩, by have := h.len; have := k.len; omega, fun h1 h2 => ?_⟩
  obtain ⟨h3, h4⟩ := h.good h1 h2
  exact k.good h3 h4
theorem walk_grw (l : List En) : ∀ (n : Nat) (k : Int) (st : List Int × List Int), Grw l st (walk l n k st)
  | 0, k, st => Grw.refl _ _
  | n + 1, k, st => by
    unfold walk
    split
    · exact Grw.refl _ _
    · rename_i h
      rw [not_or] at h
      have hfold : ∀ (xs : List Int) (s : List Int × List Int), Grw l s (xs.foldl (fun s f => walk l n f s) s) := by
        intro xs
        induction xs with
        | nil => intro s; exact Grw.refl _ _
        | cons x xs ih => intro s; rw [List.foldl_cons]; exact (walk_grw l n x s).trans (ih _)
      have h0 := hfold (aft l k) (st.1 ++ [k], st.2)
      simp only
      refine ⟨?_, ?_, fun h1 h2 => ?_⟩
      · obtain ⟨t, ht⟩ := h0.pre
        exact ⟨[k] ++ t, by rw [ht, List.append_assoc]⟩
      · have := h0.len
        simp only [List.length_append, List.length_cons, List.length_nil] at this ⊢
        omega
      · refine h0.good ?_ ?_
        · rw [List.nodup_append]
          exact ⟨h1, by simp, fun a ha b hb => by simp at hb; subst hb; intro e; subst e; exact h.2 ha⟩
        · intro x hx
          rcases List.mem_append.1 hx with hx | hx
          · exact h2 x hx
          · simp at hx; rw [hx]; simpa using h.1
theorem good_uns {l : List En} : ∀ rs : List Int, rs.Nodup → (∀ x ∈ rs, dirtyAt l x = true) → rs.length + uns l rs.reverse ≤ l.length
  | [], _, _ => by have := uns_le l []; simpa using this
  | k :: rs, h1, h2 => by
    rw [List.nodup_cons] at h1
    have ih := good_uns rs h1.2 fun x hx => h2 x (List.mem_cons_of_mem _ hx)
    have := uns_step (sn := rs.reverse) (h2 k (by simp)) (by simpa using h1.1)
    rw [List.reverse_cons, List.length_cons]
    omega
theorem good_len {l : List En} {sn : List Int} (h1 : sn.Nodup) (h2 : ∀ x ∈ sn, dirtyAt l x = true) : sn.length ≤ l.length := by
  have := good_uns (l := l) sn.reverse (List.pairwise_reverse.2 (h1.imp fun h => h.symm)) fun x hx => h2 x (by simpa using hx)
  rw [List.length_reverse] at this
  omega
/-- the keys that were written: clean, and nothing hangs on them -/
def cleaned (S : Int → Bool) (l : List En) : List En := l.map fun e => { e with pg := { e.pg with dirty := e.pg.dirty && !S e.k, after := if S e.k then [] else e.pg.after.filter fun f => !S f } }
theorem cleaned_none (l : List En) {S : Int → Bool} (h : ∀ x, S x = false) : cleaned S l = l := by
  unfold cleaned
  conv => rhs; rw [← List.map_id l]
  apply List.map_congr_left
  intro e _
  have : (e.pg.after.filter fun f => !S f) = e.pg.after := List.filter_eq_self.2 fun x _ => by rw [h]; rfl
  rw [this]
  simp only [h, Bool.not_false, Bool.and_true, Bool.false_eq_true, if_false]
  rfl
def offD (l : List En) (k : Int) : List En := setE l k fun g => { g with dirty := false }
theorem cleaned_step (l : List En) (S T : Int → Bool) (k : Int) (h : ∀ x, T x = (S x || x == k)) : cleaned T l = loose (offD (cleaned S l) k) k := by
  unfold cleaned loose offD setE
  rw [List.map_map, List.map_map]
  apply List.map_congr_left
  intro e _
  simp only [Function.comp]
  by_cases hk : e.k = k
  · have h1 : T e.k = true := by rw [h, hk]; simp
    simp [h1, hk]
    rw [← hk, h1]; simp
  · have hk' : (e.k == k) = false := by simpa using hk
    have h1 : T e.k = S e.k := by rw [h, hk', Bool.or_false]
    simp only [h1, hk', Bool.false_eq_true, if_false]
    split
    · rfl
    · congr 2
      rw [List.filter_filter]
      apply List.filter_congr
      intro x _
      rw [h]
      cases S x <;> cases x == k <;> rfl
theorem cleaned_keys (S : Int → Bool) (l : List En) : (cleaned S l).map (·.k) = l.map (·.k) := by unfold cleaned; rw [List.map_map]; rfl
theorem cleaned_congr {S T : Int → Bool} (l : List En) (h : ∀ x, S x = T x) : cleaned S l = cleaned T l := by rw [funext h]
end Go.Lr
