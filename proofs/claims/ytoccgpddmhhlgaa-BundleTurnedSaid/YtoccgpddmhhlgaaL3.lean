import Derived.Test.YtoccgpddmhhlgaaL2
import Derived.Sort.Walk0
namespace Go.Bun
open Go.Crc Go.Str
set_option linter.unusedSimpArgs false
set_option linter.unusedVariables false

structure Prt where
  name : List UInt8
  data : List UInt8
instance : Inhabited Prt := ⟨⟨[], []⟩⟩

def okCh (c : UInt8) : Bool := (decide (97 ≤ c.toNat) && decide (c.toNat ≤ 122)) || (decide (48 ≤ c.toNat) && decide (c.toNat ≤ 57)) || c.toNat == 45 || c.toNat == 95 || c.toNat == 46
def nameOk (s : List UInt8) : Bool := !s.isEmpty && decide (s.length ≤ 16) && s.all okCh
def lss (a b : List UInt8) : Bool := Op.bytesLess a b
def riseAt (l : List (List UInt8)) (i : Nat) : Bool := nameOk (l.getD i []) && (i == 0 || lss (l.getD (i - 1) []) (l.getD i []))
def rise (l : List (List UInt8)) : Bool := (List.range l.length).all (riseAt l)

theorem lss_lt (a b : List UInt8) : lss a b = true ↔ a < b := by unfold lss; rw [Proofs.bytesLess_eq]; simp
theorem lss_irr (a : List UInt8) : lss a a = false := by
  cases h : lss a a
  · rfl
  · exact absurd ((lss_lt _ _).1 h) (List.lt_irrefl a)
theorem lss_trans {a b c : List UInt8} (h : lss a b = true) (h2 : lss b c = true) : lss a c = true := (lss_lt _ _).2 (List.lt_trans ((lss_lt _ _).1 h) ((lss_lt _ _).1 h2))
theorem less_tri : ∀ s t : List UInt8, Op.bytesLess s t = false → Op.bytesLess t s = false → s = t
  | [], [], _, _ => rfl
  | [], _ :: _, h, _ => by simp [Op.bytesLess] at h
  | _ :: _, [], _, h => by simp [Op.bytesLess] at h
  | a :: s, b :: t, h, h2 => by
    simp only [Op.bytesLess, Bool.or_eq_false_iff, Bool.and_eq_false_iff, decide_eq_false_iff_not, beq_eq_false_iff_ne] at h h2
    have e : a = b := by
      apply UInt8.toNat_inj.1
      have h3 := h.1; have h4 := h2.1
      rw [UInt8.lt_iff_toNat_lt] at h3 h4
      omega
    subst e
    rcases h.2 with h3 | h3
    · exact absurd rfl h3
    rcases h2.2 with h4 | h4
    · exact absurd rfl h4
    rw [less_tri s t h3 h4]
/-- Go's 's <= t' -/
theorem le_not (s t : List UInt8) : (Op.bytesLess s t || s == t) = !lss t s := by
  cases h : lss t s
  · show _ = true
    by_cases e : s = t
    · subst e; simp
    · cases h2 : Op.bytesLess s t
      · exact absurd (less_tri s t h2 h) e
      · rfl
  · show _ = false
    have h1 := (lss_lt t s).1 h
    have h2 : lss s t = false := by
      cases h3 : lss s t
      · rfl
      · exact absurd (List.lt_trans h1 ((lss_lt s t).1 h3)) (List.lt_irrefl t)
    unfold lss at h2; rw [h2]
    have : s ≠ t := by rintro rfl; exact List.lt_irrefl _ h1
    simp [this]

theorem rise_iff (l : List (List UInt8)) : rise l = true ↔ ∀ i, i < l.length → riseAt l i = true := by
  unfold rise; rw [List.all_eq_true]; simp
theorem rise_no (l : List (List UInt8)) (i : Nat) (hi : i < l.length) (h : riseAt l i = false) : rise l = false := by
  rw [← Bool.not_eq_true, rise_iff]; intro h2; rw [h2 i hi] at h; cases h

/-- a part with the sum that an index tells of it -/
structure Itm where
  name : List UInt8
  data : List UInt8
  s : Nat
instance : Inhabited Itm := ⟨⟨[], [], 0⟩⟩
def itm (p : Prt) : Itm := ⟨p.name, p.data, (sum p.data).toNat⟩

def mark : List UInt8 := [77, 66, 68, 76]
def rowB (a : Nat) (p : Itm) : List UInt8 := le 2 p.name.length ++ (p.name ++ (le 4 a ++ (le 4 p.data.length ++ le 4 p.s)))
def idxB : Nat → List Itm → List UInt8
  | _, [] => []
  | a, p :: l => rowB a p ++ idxB (a + p.data.length) l
def dat (l : List Itm) : List UInt8 := l.flatMap (·.data)
def tailB (l : List Itm) : List UInt8 := idxB 4 l ++ (le 4 (4 + (dat l).length) ++ le 2 l.length)
def bunB (l : List Itm) : List UInt8 := mark ++ (dat l ++ (tailB l ++ le 4 (sum (tailB l)).toNat))
def names (l : List Prt) : List (List UInt8) := l.map (·.name)
def putR (l : List Prt) : List UInt8 × Int := if rise (names l) then (if 16 < l.length then ([], 9) else (bunB (l.map itm), 0)) else ([], 1)

/-- where part k's bytes begin -/
def from_ (l : List Itm) (k : Nat) : Nat := 4 + (dat (l.take k)).length
theorem dat_append (a b : List Itm) : dat (a ++ b) = dat a ++ dat b := by simp [dat]
theorem dat_cons (p : Itm) (l : List Itm) : dat (p :: l) = p.data ++ dat l := by simp [dat]
theorem takeD' {α} (l : List α) (k : Nat) (d : α) (hk : k < l.length) : l.take (k+1) = l.take k ++ [l.getD k d] := by
  rw [List.take_succ_eq_append_getElem hk, List.getD_eq_getElem?_getD, List.getElem?_eq_getElem hk]; rfl
theorem dat_succ (l : List Itm) (k : Nat) (hk : k < l.length) : dat (l.take (k + 1)) = dat (l.take k) ++ (l.getD k default).data := by
  rw [takeD' l k default hk, dat_append, dat_cons]; simp [dat]
theorem idx_append (a : Nat) (l m : List Itm) : idxB a (l ++ m) = idxB a l ++ idxB (a + (dat l).length) m := by
  induction l generalizing a with
  | nil => simp [idxB, dat]
  | cons p l ih => simp only [List.cons_append, idxB, ih, List.append_assoc, dat_cons, List.length_append, Nat.add_assoc]
theorem idx_succ (l : List Itm) (k : Nat) (hk : k < l.length) : idxB 4 (l.take (k + 1)) = idxB 4 (l.take k) ++ rowB (from_ l k) (l.getD k default) := by
  rw [takeD' l k default hk, idx_append]; simp [idxB, from_]
theorem rowB_len (a : Nat) (p : Itm) : (rowB a p).length = 14 + p.name.length := by simp [rowB, le_length]; omega
theorem idx_len : ∀ (a : Nat) (l : List Itm), (idxB a l).length = 14 * l.length + (l.flatMap (·.name)).length
  | _, [] => rfl
  | a, p :: l => by simp only [idxB, List.length_append, rowB_len, idx_len _ l, List.length_cons, List.flatMap_cons]; omega
theorem dat_map (l : List Prt) : dat (l.map itm) = l.flatMap (·.data) := by unfold dat; rw [List.flatMap_map]; rfl
theorem tail_len (l : List Itm) : (tailB l).length = 14 * l.length + (l.flatMap (·.name)).length + 6 := by unfold tailB; simp [le_length, idx_len]
theorem bun_len (l : List Itm) : (bunB l).length = 14 + (dat l).length + 14 * l.length + (l.flatMap (·.name)).length := by
  unfold bunB; simp [le_length, tail_len, mark]; omega
theorem from_le (l : List Itm) (k : Nat) : from_ l k ≤ 4 + (dat l).length := by
  unfold from_
  have : dat l = dat (l.take k) ++ dat (l.drop k) := by rw [← dat_append, List.take_append_drop]
  rw [this, List.length_append]; omega
end Go.Bun
