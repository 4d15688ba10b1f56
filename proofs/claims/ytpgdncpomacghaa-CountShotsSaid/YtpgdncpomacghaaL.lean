namespace Go.Cnt

/-- are n places from s on free? -/
def freeB (us : List Int) (s n : Nat) : Bool := ((us.drop s).take n).all (· == 0)

/-- the first free place from s on -/
def first (us : List Int) (n : Nat) (s : Nat) : Nat :=
  if _h : s < us.length then (if freeB us s n then s else first us n (s + 1)) else s
termination_by us.length - s

def freeM (us : List Int) (n from_ most : Int) : Int × Bool :=
  if n < 1 ∨ from_ < 0 ∨ most < 0 ∨ n > most then (0, false)
  else if (first us n.toNat from_.toNat : Int) > most - n then (0, false) else (first us n.toNat from_.toNat, true)

theorem freeB_iff (us : List Int) (s n : Nat) : freeB us s n = true ↔ ∀ k, s ≤ k → k < s + n → k < us.length → us.getD k 0 = 0 := by
  unfold freeB
  rw [List.all_eq_true]
  constructor
  · intro h k h1 h2 h3
    have hm : us.getD k 0 ∈ (us.drop s).take n := by
      rw [List.mem_iff_getElem?]
      refine ⟨k - s, ?_⟩
      rw [List.getElem?_take, if_pos (by omega), List.getElem?_drop, show s + (k - s) = k by omega, List.getD_eq_getElem?_getD, List.getElem?_eq_getElem h3]
      rfl
    simpa using h _ hm
  · intro h x hx
    rw [List.mem_iff_getElem?] at hx
    obtain ⟨i, hi⟩ := hx
    rw [List.getElem?_take] at hi
    split at hi
    · rename_i hin
      rw [List.getElem?_drop] at hi
      have hl : s + i < us.length := (List.getElem?_eq_some_iff.1 hi).1
      have := h (s + i) (by omega) (by omega) hl
      rw [List.getD_eq_getElem?_getD, hi] at this
      simpa using this
    · cases hi

theorem first_end (us : List Int) (n s : Nat) (h : us.length ≤ s) : first us n s = s := by
  rw [first, dif_neg (by omega)]

theorem first_free (us : List Int) (n s : Nat) (h : freeB us s n = true) : first us n s = s := by
  rw [first]; split <;> simp [h]

theorem first_next (us : List Int) (n s : Nat) (h : freeB us s n = false) : first us n s = first us n (s + 1) := by
  by_cases hl : s < us.length
  · rw [first, dif_pos hl, h]; simp
  · have : freeB us s n = true := (freeB_iff us s n).2 (fun k h1 _ h3 => by omega)
    rw [h] at this; cases this

theorem first_ge (us : List Int) (n : Nat) : ∀ d s, us.length - s = d → s ≤ first us n s := by
  intro d
  induction d with
  | zero => intro s h; rw [first_end _ _ _ (by omega)]; exact Nat.le_refl _
  | succ d ih =>
    intro s h
    cases hb : freeB us s n
    · rw [first_next _ _ _ hb]; have := ih (s + 1) (by omega); omega
    · rw [first_free _ _ _ hb]; exact Nat.le_refl _

theorem le_first (us : List Int) (n s : Nat) : s ≤ first us n s := first_ge us n _ s rfl

theorem first_le (us : List Int) (n : Nat) : ∀ d s, us.length - s = d → first us n s ≤ max s us.length := by
  intro d
  induction d with
  | zero => intro s h; rw [first_end _ _ _ (by omega)]; omega
  | succ d ih =>
    intro s h
    cases hb : freeB us s n
    · rw [first_next _ _ _ hb]; have := ih (s + 1) (by omega); omega
    · rw [first_free _ _ _ hb]; omega

theorem first_max (us : List Int) (n s : Nat) : first us n s ≤ max s us.length := first_le us n _ s rfl

theorem first_isFree (us : List Int) (n : Nat) : ∀ d s, us.length - s = d → freeB us (first us n s) n = true := by
  intro d
  induction d with
  | zero => intro s h; rw [first_end _ _ _ (by omega)]; exact (freeB_iff _ _ _).2 (fun k _ _ _ => by omega)
  | succ d ih =>
    intro s h
    cases hb : freeB us s n
    · rw [first_next _ _ _ hb]; exact ih (s + 1) (by omega)
    · rw [first_free _ _ _ hb]; exact hb

theorem first_is (us : List Int) (n s : Nat) : freeB us (first us n s) n = true := first_isFree us n _ s rfl

theorem first_not (us : List Int) (n : Nat) : ∀ d s p, us.length - s = d → s ≤ p → p < first us n s → freeB us p n = false := by
  intro d
  induction d with
  | zero => intro s p h h1 h2; rw [first_end _ _ _ (by omega)] at h2; omega
  | succ d ih =>
    intro s p h h1 h2
    cases hb : freeB us s n
    · rw [first_next _ _ _ hb] at h2
      by_cases e : p = s
      · subst e; exact hb
      · exact ih (s + 1) p (by omega) (by omega) h2
    · rw [first_free _ _ _ hb] at h2; omega

/-- what is used at s: no place that reaches it is free -/
theorem first_skip (us : List Int) (n s : Nat) (hs : s < us.length) (hu : us.getD s 0 ≠ 0) : ∀ d p, s - p = d → p ≤ s → s < p + n → first us n p = first us n (s + 1) := by
  intro d
  induction d with
  | zero =>
    intro p h h1 h2
    obtain rfl : p = s := by omega
    refine first_next _ _ _ ?_
    cases hb : freeB us p n
    · rfl
    · exact absurd ((freeB_iff _ _ _).1 hb p (Nat.le_refl _) (by omega) hs) hu
  | succ d ih =>
    intro p h h1 h2
    have hb : freeB us p n = false := by
      cases hb : freeB us p n
      · rfl
      · exact absurd ((freeB_iff _ _ _).1 hb s h1 h2 hs) hu
    rw [first_next _ _ _ hb]
    exact ih (p + 1) (by omega) (by omega) (by omega)

/-- the walk's invariant: run noughts ahead of s -/
structure Run (us : List Int) (n f s run : Nat) (R : Nat) : Prop where
  lt : run < n
  le : f + run ≤ s
  zero : ∀ k, s - run ≤ k → k < s → us.getD k 0 = 0
  eq : R = first us n (s - run)

theorem Run.start (us : List Int) (n f : Nat) (hn : 1 ≤ n) : Run us n f f 0 (first us n f) := ⟨by omega, by omega, fun k h1 h2 => by omega, by simp⟩

theorem Run.used {us : List Int} {n f s run R : Nat} (h : Run us n f s run R) (hs : s < us.length) (hu : us.getD s 0 ≠ 0) : Run us n f (s + 1) 0 R :=
  ⟨by have := h.lt; omega, by have := h.le; omega, fun k h1 h2 => by omega, by
    rw [h.eq, Nat.sub_zero]
    exact first_skip us n s hs hu _ (s - run) rfl (by omega) (by have := h.lt; have := h.le; omega)⟩

theorem Run.free {us : List Int} {n f s run R : Nat} (h : Run us n f s run R) (hu : us.getD s 0 = 0) (hn : run + 1 < n) : Run us n f (s + 1) (run + 1) R :=
  ⟨hn, by have := h.le; omega, fun k h1 h2 => by
    by_cases e : k = s
    · subst e; exact hu
    · exact h.zero k (by omega) (by omega), by rw [h.eq]; congr 1; omega⟩

theorem Run.full {us : List Int} {n f s run R : Nat} (h : Run us n f s run R) (hu : us.getD s 0 = 0) (hn : run + 1 = n) : R = s + 1 - n := by
  have h1 := h.le
  rw [h.eq, first_free _ _ _ ((freeB_iff _ _ _).2 fun k h2 h3 _ => ?_)]
  · omega
  · by_cases e : k = s
    · subst e; exact hu
    · exact h.zero k (by omega) (by omega)

theorem Run.done {us : List Int} {n f run R : Nat} (h : Run us n f us.length run R) : R = us.length - run := by
  rw [h.eq]
  exact first_free _ _ _ ((freeB_iff _ _ _).2 fun k h2 h3 h4 => h.zero k (by omega) h4)

theorem freeB_succ (us : List Int) (s d : Nat) (h : s + d < us.length) : freeB us s (d + 1) = (freeB us s d && (us.getD (s + d) 0 == 0)) := by
  unfold freeB
  have e : (us.drop s).take (d + 1) = (us.drop s).take d ++ [us.getD (s + d) 0] := by
    rw [List.take_add_one, List.getElem?_drop, List.getElem?_eq_getElem h, List.getD_eq_getElem?_getD, List.getElem?_eq_getElem h]; rfl
  rw [e, List.all_append]
  simp

theorem freeB_zero (us : List Int) (s : Nat) : freeB us s 0 = true := by unfold freeB; simp

theorem freeB_past (us : List Int) (s d n : Nat) (h : us.length ≤ s + d) (hn : d ≤ n) : freeB us s d = freeB us s n := by
  unfold freeB
  rw [List.take_of_length_le (by simp; omega), List.take_of_length_le (by simp; omega)]

theorem freeB_end (us : List Int) (s n : Nat) (h : us.length ≤ s) : freeB us s n = true := (freeB_iff _ _ _).2 (fun k h1 _ h3 => by omega)

theorem freeM_none (us : List Int) (n m : Int) (f s : Nat) (h : first us n.toNat f = first us n.toNat s) (hs : m - n < s) : freeM us n f m = (0, false) := by
  unfold freeM
  split
  · rfl
  · have := le_first us n.toNat s
    rw [Int.toNat_natCast, h, if_pos (by omega)]

theorem freeM_some (us : List Int) (n m : Int) (f s : Nat) (hn : 1 ≤ n) (h : first us n.toNat f = first us n.toNat s) (hb : freeB us s n.toNat = true) (hs : (s : Int) ≤ m - n) : freeM us n f m = ((s : Int), true) := by
  unfold freeM
  rw [if_neg (by omega), Int.toNat_natCast, h, first_free _ _ _ hb, if_neg (by omega)]

theorem getD_nil (k : Nat) : ([] : List Int).getD k 0 = 0 := by simp
end Go.Cnt
