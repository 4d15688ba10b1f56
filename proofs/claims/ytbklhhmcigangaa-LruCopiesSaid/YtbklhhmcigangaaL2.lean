import Derived.Test.YtbklhhmcigangaaL
namespace Go.Lr
set_option linter.unusedVariables false
set_option linter.unusedSimpArgs false
/-- what a key is after -/
def aft (l : List En) (k : Int) : List Int := ((find l k).map (·.after)).getD []
inductive Reach (l : List En) : Int → Int → Prop
  | refl (x : Int) : Reach l x x
  | step {x y z : Int} : y ∈ aft l x → Reach l y z → Reach l x z
theorem Reach.trans {l : List En} {x y z : Int} (h : Reach l x y) (k : Reach l y z) : Reach l x z := by
  induction h with
  | refl _ => exact k
  | step h1 _ ih => exact .step h1 (ih k)
theorem Reach.snoc {l : List En} {x y z : Int} (h : Reach l x y) (k : z ∈ aft l y) : Reach l x z := h.trans (.step k (.refl _))
/-- how long the lists are of those that were not seen -/
def wgt (l : List En) (s : Int → Bool) : Nat := ((l.filter fun e => !s e.k).map (·.pg.after.length)).sum
theorem find_cons (e : En) (l : List En) (k : Int) : find (e :: l) k = if e.k = k then some e.pg else find l k := by
  unfold find
  rw [List.find?_cons]
  by_cases h : e.k = k
  · simp [h]
  · rw [if_neg h, show (e.k == k) = false by simpa using h]
theorem wgt_cons (e : En) (l : List En) (s : Int → Bool) : wgt (e :: l) s = (if s e.k then 0 else e.pg.after.length) + wgt l s := by
  unfold wgt
  rw [List.filter_cons]
  cases s e.k <;> simp
theorem wgt_congr {l : List En} {s t : Int → Bool} (h : ∀ e ∈ l, s e.k = t e.k) : wgt l s = wgt l t := by
  unfold wgt
  rw [List.filter_congr fun e he => by rw [h e he]]
theorem wgt_le (l : List En) (s : Int → Bool) : wgt l s ≤ wgt l fun _ => false := by
  induction l with
  | nil => exact Nat.le_refl _
  | cons e l ih => rw [wgt_cons, wgt_cons]; simp only [Bool.false_eq_true, if_false]; split <;> omega
theorem aft_none {l : List En} {x : Int} (h : x ∉ l.map (·.k)) : aft l x = [] := by unfold aft; rw [find_none.2 h]; rfl
theorem wgt_step {l : List En} (hn : (l.map (·.k)).Nodup) {s : Int → Bool} {x : Int} (hs : s x = false) : wgt l (fun t => s t || t == x) + (aft l x).length = wgt l s := by
  induction l with
  | nil => rfl
  | cons e l ih =>
    rw [List.map_cons, List.nodup_cons] at hn
    rw [wgt_cons, wgt_cons]
    by_cases h : e.k = x
    · subst h
      have h1 : aft (e :: l) e.k = e.pg.after := by unfold aft; rw [find_cons, if_pos rfl]; rfl
      rw [h1, hs]
      have h2 : wgt l (fun t => s t || t == e.k) = wgt l s := wgt_congr fun f hf => by
        have : (f.k == e.k) = false := by rw [beq_eq_false_iff_ne]; intro h; exact hn.1 (h ▸ List.mem_map.2 ⟨f, hf, rfl⟩)
        rw [this, Bool.or_false]
      rw [h2]; simp; omega
    · have h1 : aft (e :: l) x = aft l x := by unfold aft; rw [find_cons, if_neg h]
      have h3 : (e.k == x) = false := by simpa using h
      have := ih hn.2
      rw [h1, h3, Bool.or_false]
      omega
/-- the walk through what a key is after, under way -/
structure BInv (l : List En) (k first : Int) (s : Int → Bool) (lst : List Int) : Prop where
  seen : ∀ x, s x = true → x ≠ first ∧ ∀ y ∈ aft l x, s y = true ∨ y ∈ lst
  start : s k = true ∨ k ∈ lst
  reach : ∀ y ∈ lst, Reach l k y
theorem BInv.init (l : List En) (k first : Int) : BInv l k first (fun _ => false) [k] := ⟨fun x h => absurd h (by simp), .inr (by simp), fun y hy => by simp at hy; rw [hy]; exact .refl _⟩
theorem BInv.done {l : List En} {k first : Int} {s : Int → Bool} (h : BInv l k first s []) : ¬ Reach l k first := by
  have key : ∀ x y, Reach l x y → s x = true → s y = true := by
    intro x y hr
    induction hr with
    | refl _ => exact id
    | step h1 _ ih =>
      intro hx
      rcases (h.seen _ hx).2 _ h1 with h2 | h2
      · exact ih h2
      · cases h2
  intro hr
  rcases h.start with h1 | h1
  · exact (h.seen _ (key _ _ hr h1)).1 rfl
  · cases h1
theorem BInv.old {l : List En} {k first x : Int} {s : Int → Bool} {lst : List Int} (h : BInv l k first s (x :: lst)) (hs : s x = true) {t : Int → Bool} (ht : ∀ y, t y = (s y || y == x)) : BInv l k first t lst := by
  have ht : t = s := funext fun y => by
    rw [ht]
    by_cases e : y = x
    · subst e; rw [hs]; rfl
    · rw [show (y == x) = false by simpa using e, Bool.or_false]
  subst ht
  refine ⟨fun z hz => ⟨(h.seen z hz).1, fun y hy => ?_⟩, ?_, fun y hy => h.reach y (List.mem_cons_of_mem _ hy)⟩
  · rcases (h.seen z hz).2 y hy with h2 | h2
    · exact .inl h2
    · rcases List.mem_cons.1 h2 with rfl | h2
      · exact .inl hs
      · exact .inr h2
  · rcases h.start with h2 | h2
    · exact .inl h2
    · rcases List.mem_cons.1 h2 with rfl | h2
      · exact .inl hs
      · exact .inr h2
theorem BInv.new {l : List En} {k first x : Int} {s : Int → Bool} {lst : List Int} (h : BInv l k first s (x :: lst)) (hx : x ≠ first) {t : Int → Bool} (ht : ∀ y, t y = (s y || y == x)) : BInv l k first t (lst ++ aft l x) := by
  have hin : ∀ y, (s y = true ∨ y ∈ x :: lst) → t y = true ∨ y ∈ lst ++ aft l x := by
    intro y hy
    rw [ht]
    rcases hy with hy | hy
    · exact .inl (by rw [hy]; rfl)
    · rcases List.mem_cons.1 hy with rfl | hy
      · exact .inl (by simp)
      · exact .inr (List.mem_append_left _ hy)
  refine ⟨fun z hz => ?_, hin _ h.start, fun y hy => ?_⟩
  · rw [ht] at hz
    by_cases e : z = x
    · subst e; exact ⟨hx, fun y hy => .inr (List.mem_append_right _ hy)⟩
    · rw [show (z == x) = false by simpa using e, Bool.or_false] at hz
      exact ⟨(h.seen z hz).1, fun y hy => hin y ((h.seen z hz).2 y hy)⟩
  · rcases List.mem_append.1 hy with hy | hy
    · exact h.reach y (List.mem_cons_of_mem _ hy)
    · exact (h.reach x (by simp)).snoc hy
end Go.Lr
