import Derived.Test.YtgkabcaodnofnaaGreatK
set_option linter.unusedSimpArgs false
set_option linter.unusedVariables false
namespace Go.Md
/-- a cluster is put -/
def putI (i : IM) (k : Nat) (x : Bs) : IM := { i with own := fun j => if j = k then some x else i.own j, maps := touch i.maps ((k : Int), (k : Int) + 1) }
/-- bytes are written, piece by piece -/
def wrI (S : IL) (d : Nat) : List (Nat × Nat) → Bs → IM → IM
  | [], _, i => i
  | p :: r, b, i => wrI S d r (b.drop (p.2 * 16)) (putI i (p.1 / 2 ^ i.cl) (splice (secs (secIn S d i i.size i.own) (p.1 / 2 ^ i.cl * 2 ^ i.cl) (2 ^ i.cl)) (p.1 % 2 ^ i.cl * 16) (b.take (p.2 * 16))))
def writeI (S : IL) (d : Nat) (i : IM) (a : Nat) (b : Bs) : IM := wrI S d (Go.Proofs.YtgkabcaodnofnaaGreat.pcs (2 ^ i.cl) a (a + b.length / 16)) b i
/-- an image among the others -/
def setI (S : IL) (n : Bs) (i : IM) : IL := if (fnd S n).isSome then S.map (fun p => if p.1 = n then (n, i) else p) else S ++ [(n, i)]
def delI (S : IL) (n : Bs) : IL := S.filter fun p => !decide (p.1 = n)
theorem fnd_cons (p : Bs × IM) (S : IL) (n : Bs) : fnd (p :: S) n = if p.1 = n then some p.2 else fnd S n := by
  unfold fnd; rw [List.find?_cons]
  by_cases h : p.1 = n
  · simp [h]
  · rw [if_neg h, show decide (p.1 = n) = false by simpa using h]
theorem fnd_nil (n : Bs) : fnd [] n = none := rfl
theorem fnd_append (S T : IL) (n : Bs) : fnd (S ++ T) n = (fnd S n).or (fnd T n) := by
  induction S with
  | nil => rw [fnd_nil, List.nil_append]; rfl
  | cons p l ih => rw [List.cons_append, fnd_cons, fnd_cons, ih]; split <;> rfl
theorem fnd_map (S : IL) (n t : Bs) (i : IM) : fnd (S.map (fun p => if p.1 = n then (n, i) else p)) t = if t = n then (fnd S n).map (fun _ => i) else fnd S t := by
  induction S with
  | nil => simp [fnd_nil]
  | cons p l ih =>
    rw [List.map_cons, fnd_cons, fnd_cons, fnd_cons, ih]
    by_cases h : p.1 = n
    · subst h
      by_cases h2 : t = p.1
      · subst h2; simp
      · simp [h2, Ne.symm h2]
    · by_cases h2 : t = n
      · subst h2; simp [h]
      · simp [h, h2]
theorem fnd_setI (S : IL) (n t : Bs) (i : IM) : fnd (setI S n i) t = if t = n then some i else fnd S t := by
  unfold setI
  cases h : fnd S n with
  | none =>
    simp only [Option.isSome_none, Bool.false_eq_true, if_false]
    rw [fnd_append, fnd_cons, fnd_nil]
    by_cases h2 : t = n
    · subst h2; rw [h]; simp
    · rw [if_neg h2, if_neg (Ne.symm h2)]; simp
  | some c =>
    simp only [Option.isSome_some, if_true]
    rw [fnd_map, h]; rfl
theorem fnd_delI (S : IL) (n t : Bs) : fnd (delI S n) t = if t = n then none else fnd S t := by
  unfold delI
  induction S with
  | nil => simp [fnd_nil]
  | cons p l ih =>
    rw [List.filter_cons, fnd_cons]
    by_cases h : p.1 = n
    · subst h
      simp only [decide_true, Bool.not_true, Bool.false_eq_true, if_false]
      rw [ih]
      by_cases h2 : t = p.1
      · simp [h2]
      · simp [h2, Ne.symm h2]
    · rw [if_pos (by simp [h]), fnd_cons, ih]
      by_cases h2 : t = n
      · subst h2; simp [h]
      · simp [h2]
theorem setI_names (S : IL) (n : Bs) (i : IM) : (setI S n i).map (·.1) = if (fnd S n).isSome then S.map (·.1) else S.map (·.1) ++ [n] := by
  unfold setI
  split
  · rw [List.map_map]; apply List.map_congr_left; intro p _; simp only [Function.comp]; split
    · rename_i h; exact h.symm
    · rfl
  · simp
theorem delI_names (S : IL) (n : Bs) : (delI S n).map (·.1) = (S.map (·.1)).filter fun t => !decide (t = n) := by
  unfold delI; induction S with
  | nil => rfl
  | cons p l ih => simp only [List.filter_cons, List.map_cons]; split <;> simp [ih]
/-- an image that does not stand upon itself sees nothing of what is done to it -/
theorem secOf_away {S S' : IL} {n : Bs} (h : ∀ m, m ≠ n → fnd S' m = fnd S m) : ∀ (e : Nat) (m : Bs), dep S e m → ¬ dep S e n → ∀ s, secOf S' e m s = secOf S e m s
  | 0, m, _, _, s => rfl
  | e + 1, m, hm, hn, s => by
    have hne : m ≠ n := fun e => hn (e ▸ hm)
    simp only [secOf, h m hne]
    cases hf : fnd S m with
    | none => rfl
    | some i =>
      have hd : dep S e i.back := by unfold dep at hm; rw [hf] at hm; exact hm
      simp only
      rw [secOf_away h e i.back hd (fun h1 => hn (dep_succ h1)) s]
theorem dep_away {S S' : IL} {n : Bs} (h : ∀ m, m ≠ n → fnd S' m = fnd S m) : ∀ (e : Nat) (m : Bs), dep S e m → ¬ dep S e n → dep S' e m
  | 0, m, hm, hn => by
    have hne : m ≠ n := fun e => hn (e ▸ hm)
    show fnd S' m = none
    rw [h m hne]; exact hm
  | e + 1, m, hm, hn => by
    have hne : m ≠ n := fun e => hn (e ▸ hm)
    unfold dep at hm ⊢
    rw [h m hne]
    cases hf : fnd S m with
    | none => trivial
    | some i =>
      rw [hf] at hm
      exact dep_away h e i.back hm fun h1 => hn (dep_succ h1)
theorem dep_min {S : IL} {n : Bs} {i : IM} (hf : fnd S n = some i) : ∀ {d : Nat}, dep S d n → ∃ e, e < d ∧ dep S e i.back ∧ ¬ dep S e n
  | 0, h => by have h : fnd S n = none := h; rw [hf] at h; cases h
  | d + 1, h => by
    have hd : dep S d i.back := by unfold dep at h; rw [hf] at h; exact h
    by_cases h1 : dep S d n
    · obtain ⟨e, h2, h3⟩ := dep_min hf h1; exact ⟨e, by omega, h3⟩
    · exact ⟨d, by omega, hd, h1⟩
/-- the like, at any depth that suffices -/
theorem secOf_back {S S' : IL} {n : Bs} {i : IM} (h : ∀ m, m ≠ n → fnd S' m = fnd S m) (hf : fnd S n = some i) {d : Nat} (hd : dep S d n) : ∀ s, secOf S' d i.back s = secOf S d i.back s := by
  intro s
  obtain ⟨e, h1, h2, h3⟩ := dep_min hf hd
  have h4 := dep_away h e _ h2 h3
  rw [secOf_deep h2 d (by omega), secOf_deep h4 d (by omega)]
  exact secOf_away h e _ h2 h3 s
theorem dep_same {S S' : IL} (h : ∀ m, (fnd S' m).map (·.back) = (fnd S m).map (·.back)) : ∀ (d : Nat) (m : Bs), dep S d m → dep S' d m
  | 0, m, hm => by
    have := h m
    have hm : fnd S m = none := hm
    rw [hm] at this
    show fnd S' m = none
    simpa using this
  | d + 1, m, hm => by
    have h1 := h m
    unfold dep at hm ⊢
    cases hf : fnd S m with
    | none => rw [hf] at h1; rw [show fnd S' m = none by simpa using h1]; trivial
    | some i =>
      rw [hf] at h1 hm
      simp only [Option.map_some, Option.map_eq_some_iff] at h1
      obtain ⟨j, hj, hb⟩ := h1
      rw [hj]
      show dep S' d j.back
      rw [hb]; exact dep_same h d i.back hm
theorem secIn_congr {S S' : IL} {d : Nat} {i i' : IM} (hc : i'.cl = i.cl) (hb : ∀ s, secOf S' d i'.back s = secOf S d i.back s) (size : Nat) (own : Nat → Option Bs) : secIn S' d i' size own = secIn S d i size own := by
  funext s; unfold secIn; rw [hc, hb]
end Go.Md
