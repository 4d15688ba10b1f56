namespace Go.Cnt
structure Ent where
  kind : Int
  start : Int
  count : Int
  size : Int
  sum : Int
deriving DecidableEq, Inhabited

def Ent.zero : Ent := ⟨0, 0, 0, 0, 0⟩
abbrev Tab := List (List Ent)
def getM (t : Tab) (i : Nat) : Ent := (t.getD (i / 8) []).getD (i % 8) Ent.zero

structure Lin where
  shot : Int
  cluster : Int
  e : Ent
deriving DecidableEq, Inhabited

def isR (e : Ent) : Bool := e.kind == 2 || e.kind == 3

/-- the lines of a table's first k places -/
def linesTo (sh : Int) (t : Tab) (k : Nat) : List Lin := ((List.range k).filter fun (i : Nat) => isR (getM t i)).map fun (i : Nat) => ⟨sh, (i : Int), getM t i⟩
def linesT (sh : Int) (t : Tab) : List Lin := linesTo sh t (t.length * 8)

theorem linesTo_hit (sh : Int) (t : Tab) (k : Nat) (h : isR (getM t k) = true) : linesTo sh t (k + 1) = linesTo sh t k ++ [⟨sh, (k : Int), getM t k⟩] := by
  unfold linesTo; rw [List.range_succ, List.filter_append, List.map_append]; simp [h]
theorem linesTo_miss (sh : Int) (t : Tab) (k : Nat) (h : isR (getM t k) = false) : linesTo sh t (k + 1) = linesTo sh t k := by
  unfold linesTo; rw [List.range_succ, List.filter_append, List.map_append]; simp [h]
theorem linesTo_len (sh : Int) (t : Tab) (k : Nat) : (linesTo sh t k).length ≤ k := by
  unfold linesTo; rw [List.length_map]
  exact Nat.le_trans (List.length_filter_le _ _) (by simp)
theorem linesTo_zero (sh : Int) (t : Tab) : linesTo sh t 0 = [] := rfl
theorem linesTo_prefix (sh : Int) (t : Tab) : ∀ d k, linesTo sh t k <+: linesTo sh t (k + d)
  | 0, k => List.prefix_refl _
  | d + 1, k => by
    refine (linesTo_prefix sh t d k).trans ?_
    cases h : isR (getM t (k + d))
    · rw [← Nat.add_assoc, linesTo_miss _ _ _ h]; exact List.prefix_refl _
    · rw [← Nat.add_assoc, linesTo_hit _ _ _ h]; exact List.prefix_append _ _

theorem linesT_len (sh : Int) (t : Tab) : (linesT sh t).length ≤ t.length * 8 := linesTo_len _ _ _

structure ShotM where
  name : List UInt8
  size : Int
  t : Tab
deriving Inhabited

def eachTo (t : Tab) (ss : List ShotM) (k : Nat) : List Lin := linesT (-1) t ++ (List.range k).flatMap fun (i : Nat) => linesT (i : Int) (ss.getD i default).t
def eachM (t : Tab) (ss : List ShotM) : List Lin := eachTo t ss ss.length

theorem eachTo_zero (t : Tab) (ss : List ShotM) : eachTo t ss 0 = linesT (-1) t := by unfold eachTo; simp
theorem eachTo_succ (t : Tab) (ss : List ShotM) (k : Nat) : eachTo t ss (k + 1) = eachTo t ss k ++ linesT (k : Int) (ss.getD k default).t := by
  unfold eachTo; rw [List.range_succ, List.flatMap_append, ← List.append_assoc]; simp
theorem eachTo_len (t : Tab) (ss : List ShotM) (M : Nat) (h0 : t.length ≤ M) (h : ∀ i, i < ss.length → (ss.getD i default).t.length ≤ M) : ∀ k, k ≤ ss.length → (eachTo t ss k).length ≤ (k + 1) * (M * 8)
  | 0, _ => by rw [eachTo_zero]; have := linesT_len (-1) t; omega
  | k + 1, hk => by
    rw [eachTo_succ, List.length_append]
    have h1 := eachTo_len t ss M h0 h k (by omega)
    have h2 := linesT_len (k : Int) (ss.getD k default).t
    have h3 := h k (by omega)
    have h4 : (k + 1 + 1) * (M * 8) = (k + 1) * (M * 8) + M * 8 := by rw [Nat.succ_mul]
    omega

/-- does an entry stand upon sector i? -/
def cov (e : Ent) (i : Nat) : Bool := decide (e.start ≤ (i : Int)) && decide ((i : Int) < e.start + e.count)
def cntK (ls : List Lin) (k i : Nat) : Int := (if i < 2 then 1 else 0) + (((ls.take k).filter fun x => cov x.e i).length : Int)
def cnt (ls : List Lin) (i : Nat) : Int := cntK ls ls.length i
def ofM (ls : List Lin) (size : Int) : List Int := if size < 0 ∨ size > 65536 then [] else (List.range size.toNat).map fun (i : Nat) => cnt ls i

theorem cntK_zero (ls : List Lin) (i : Nat) : cntK ls 0 i = if i < 2 then 1 else 0 := by unfold cntK; simp
theorem cntK_succ (ls : List Lin) (k i : Nat) (hk : k < ls.length) : cntK ls (k + 1) i = cntK ls k i + if cov (ls.getD k default).e i = true then 1 else 0 := by
  unfold cntK
  have e : ls.take (k + 1) = ls.take k ++ [ls.getD k default] := by
    rw [List.take_add_one, List.getElem?_eq_getElem hk, List.getD_eq_getElem?_getD, List.getElem?_eq_getElem hk]; rfl
  rw [e, List.filter_append, List.length_append]
  cases h : cov (ls.getD k default).e i
  · rw [List.filter_cons_of_neg (p := fun x : Lin => cov x.e i) (by rw [h]; decide)]; simp
  · rw [List.filter_cons_of_pos (p := fun x : Lin => cov x.e i) h]; simp; omega
theorem cntK_bd (ls : List Lin) (k i : Nat) : 0 ≤ cntK ls k i ∧ cntK ls k i ≤ 1 + ls.length := by
  unfold cntK
  have h := List.length_filter_le (fun x : Lin => cov x.e i) (ls.take k)
  have h2 : (ls.take k).length ≤ ls.length := by simp; omega
  split <;> omega

theorem cov_iff (e : Ent) (i : Nat) : cov e i = true ↔ e.start ≤ (i : Int) ∧ (i : Int) < e.start + e.count := by unfold cov; simp

theorem cov_nat (e : Ent) (s c i : Nat) (hs : e.start = s) (hc : e.count = c) : cov e i = true ↔ s ≤ i ∧ i < s + c := by rw [cov_iff, hs, hc]; omega

/-- l reads as f below n -/
def Reads (l : List Int) (n : Nat) (f : Nat → Int) : Prop := l.length = n ∧ ∀ i, i < n → l.getD i 0 = f i
theorem Reads.set {l : List Int} {n : Nat} {f g : Nat → Int} (h : Reads l n f) (j : Nat) (x : Int) (hx : g j = x) (hg : ∀ i, i < n → i ≠ j → g i = f i) : Reads (l.set j x) n g := by
  obtain ⟨h1, h2⟩ := h
  refine ⟨by simp [h1], fun i hi => ?_⟩
  by_cases e : j = i
  · subst e; rw [hx]; simp [List.getD_eq_getElem?_getD, List.getElem?_set_self (show j < l.length by omega)]
  · rw [hg i hi (fun h => e h.symm), ← h2 i hi]; simp [List.getD_eq_getElem?_getD, List.getElem?_set_ne e]
theorem Reads.mono {l : List Int} {n : Nat} {f g : Nat → Int} (h : Reads l n f) (hg : ∀ i, i < n → g i = f i) : Reads l n g := ⟨h.1, fun i hi => by rw [hg i hi]; exact h.2 i hi⟩
theorem Reads.eq {l : List Int} {n : Nat} {f : Nat → Int} (h : Reads l n f) : l = (List.range n).map fun i => f i := by
  apply List.ext_getElem
  · simp [h.1]
  · intro i h1 h2
    have := h.2 i (by rw [← h.1]; exact h1)
    rw [List.getD_eq_getElem?_getD, List.getElem?_eq_getElem h1] at this
    simpa using this
theorem Reads.noughts (n : Nat) : Reads (List.replicate n 0) n (fun _ => 0) := ⟨by simp, fun i hi => by simp [List.getD_eq_getElem?_getD, List.getElem?_replicate, hi]⟩

/-- an entry that a right table may hold -/
def GoodE (e : Ent) : Prop := 2 ≤ e.start ∧ 1 ≤ e.count ∧ e.start + e.count ≤ 65536
end Go.Cnt
