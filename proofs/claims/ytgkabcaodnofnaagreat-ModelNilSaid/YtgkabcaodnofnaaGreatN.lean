import Derived.WalkKit
import Derived.WalkSpells
import Derived.WalkLawsBesides
import Derived.Laws.Slices
import Derived.Below
set_option linter.unusedSimpArgs false
set_option linter.unusedVariables false
namespace Go.Mx
open Go.RowKit

/-- rows of s cells each, from place o of block b on -/
def RdG (w : World) (b o s : Nat) (rows : List (List Value)) : Prop :=
  ∀ i, i < rows.length → ∀ j v, (rows.getD i [])[j]? = some v → w.cell? ⟨b, o + i * s + j, none⟩ = some v

theorem RdG.below {w w' : World} {B b o s : Nat} {rows : List (List Value)} (h : RdG w b o s rows) (hb : Below B w w') (hB : b < B) : RdG w' b o s rows :=
  fun i hi j v hv => by rw [hb.cell (p := ⟨b, _, none⟩) hB]; exact h i hi j v hv

theorem RdG.setCell {w : World} {b o s : Nat} {rows : List (List Value)} (h : RdG w b o s rows) {p q : Nat} {v : Value} (hp : p ≠ b) : RdG (w.setCell ⟨p, q, none⟩ v) b o s rows :=
  fun i hi j u hu => by rw [World.cell?_setCell_other w _ _ _ (by simp [hp])]; exact h i hi j u hu

theorem getD_cut {α} (l : List α) (lo hi i : Nat) (d : α) (h : lo + i < hi) : ((l.take hi).drop lo).getD i d = l.getD (lo + i) d := by
  simp only [List.getD_eq_getElem?_getD, List.getElem?_drop, List.getElem?_take]
  rw [if_pos (by omega)]

theorem RdG.cut {w : World} {b o s : Nat} {rows : List (List Value)} (h : RdG w b o s rows) (lo hi : Nat) : RdG w b (o + lo * s) s ((rows.take hi).drop lo) := by
  intro i hi' j v hv
  simp only [List.length_drop, List.length_take] at hi'
  rw [getD_cut _ _ _ _ _ (by omega)] at hv
  have := h (lo + i) (by omega) j v hv
  rwa [Nat.add_mul, ← Nat.add_assoc] at this

/-- a slice whose elements have s cells each: it reads as these rows, in blocks below B -/
def SlG (w : World) (B s : Nat) (v : Value) (rows : List (List Value)) : Prop :=
  ∃ oa cap, v = .slice oa rows.length cap ∧ rows.length ≤ cap ∧ cap ≤ maxLen ∧ (rows ≠ [] → ∃ bb bo, oa = some ⟨bb, bo, none⟩ ∧ bb < B ∧ RdG w bb bo s rows)

theorem SlG.below {w w' : World} {B B' s : Nat} {v : Value} {rows : List (List Value)} (h : SlG w B s v rows) (hb : Below B' w w') (hB : B ≤ B') : SlG w' B s v rows := by
  obtain ⟨oa, cap, rfl, h1, h2, h3⟩ := h
  refine ⟨oa, cap, rfl, h1, h2, fun hn => ?_⟩
  obtain ⟨bb, bo, rfl, hl, hr⟩ := h3 hn
  exact ⟨bb, bo, rfl, hl, hr.below hb (by omega)⟩

theorem SlG.mono {w : World} {B B' s : Nat} {v : Value} {rows : List (List Value)} (h : SlG w B s v rows) (hB : B ≤ B') : SlG w B' s v rows := by
  obtain ⟨oa, cap, rfl, h1, h2, h3⟩ := h
  refine ⟨oa, cap, rfl, h1, h2, fun hn => ?_⟩
  obtain ⟨bb, bo, rfl, hl, hr⟩ := h3 hn
  exact ⟨bb, bo, rfl, by omega, hr⟩

theorem SlG.nil (w : World) (B s : Nat) : SlG w B s (.slice none 0 0) [] := ⟨none, 0, rfl, by simp, by simp [maxLen], fun h => absurd rfl h⟩

theorem SlG.cut {w : World} {B n cap s : Nat} {oa : Option Addr} {rows : List (List Value)} (h : SlG w B s (.slice oa n cap) rows) (lo hi : Nat) (h1 : lo ≤ hi) (h2 : hi ≤ rows.length) : SlG w B s (sliced oa lo hi cap s) ((rows.take hi).drop lo) := by
  obtain ⟨oa', cap', he, hc, hm, hr⟩ := h
  cases he
  have hl : ((rows.take hi).drop lo).length = hi - lo := by simp; omega
  unfold sliced
  refine ⟨_, _, by rw [hl], by rw [hl]; omega, by omega, fun hn => ?_⟩
  have hlt : lo < hi := by
    rcases Nat.lt_or_ge lo hi with h | h
    · exact h
    · exact absurd (List.eq_nil_of_length_eq_zero (by rw [hl]; omega)) hn
  obtain ⟨bb, bo, rfl, hlb, hrd⟩ := hr (by rintro rfl; simp at h2; omega)
  refine ⟨bb, bo + lo * s, ?_, hlb, hrd.cut lo hi⟩
  rw [if_neg (by omega)]
  simp [Addr.add]

section
variable {w : World} {B s : Nat} {v : Value} {rows : List (List Value)} {P : Program} {t e : TypeId}

theorem SlG.len (h : SlG w B s v rows) {ty : TypeId} (ht : P.underlying t = some (.slice e)) (w' : World) :
    (Builtin.len_ #[t] ty #[v]).run P w' = .ok (.int .i64 rows.length) w' := by
  obtain ⟨oa', cap', rfl, _⟩ := h
  cases oa' <;> simp [Builtin.len_, run_underlying ht, go_sem]

/-- 'l[i]': its place, and what stands there -/
theorem SlG.addr (h : SlG w B s v rows) (ht : P.underlying t = some (.slice e)) (hs : ∀ w, (sizeOf e).run P w = .ok s w) (i : Nat) (hi : i < rows.length) :
    ∃ b o, b < B ∧ (∀ w' (k : IntKind), (Instr.indexAt t v (.int k (i : Int))).run P w' = .ok (.pointer (some ⟨b, o, none⟩)) w') ∧ ∀ j u, (rows.getD i [])[j]? = some u → w.cell? ⟨b, o + j, none⟩ = some u := by
  obtain ⟨oa', cap', rfl, hc, hm, hr⟩ := id h
  have ht' : P.underlying t = some (.slice (P.elem t)) := by rw [ht]; simp [Program.elem, ht]
  have hel : P.elem t = e := by simp [Program.elem, ht]
  obtain ⟨bb, bo, rfl, hlb, hrd⟩ := hr (by rintro rfl; simp at hi)
  refine ⟨bb, bo + i * s, hlb, fun w' k => ?_, hrd i hi⟩
  rw [run_indexAt_slice (h := ht'), if_pos (by omega), hel, hs]
  simp [Result.andThen, Addr.add]

/-- 'l[:hi]' -/
theorem SlG.to (h : SlG w B s v rows) (ht : P.underlying t = some (.slice e)) (hs : ∀ w, (sizeOf e).run P w = .ok s w) (hi : Nat) (h2 : hi ≤ rows.length) :
    ∃ v', SlG w B s v' (rows.take hi) ∧ ∀ w' (k : IntKind), (Instr.slice t v none (some (.int k (hi : Int))) none).run P w' = .ok v' w' := by
  obtain ⟨oa', cap', rfl, hc, hm, hr⟩ := id h
  have ht' : P.underlying t = some (.slice (P.elem t)) := by rw [ht]; simp [Program.elem, ht]
  have hel : P.elem t = e := by simp [Program.elem, ht]
  refine ⟨sliced oa' 0 hi cap' s, by simpa using h.cut 0 hi (Nat.zero_le _) h2, fun w' k => ?_⟩
  rw [run_slice_h (h := (hi : Int)) (ht := ht') (h0 := by omega) (h2 := by omega), hel, hs]
  simp [Result.andThen]

/-- 'l[lo:]' -/
theorem SlG.from (h : SlG w B s v rows) (ht : P.underlying t = some (.slice e)) (hs : ∀ w, (sizeOf e).run P w = .ok s w) (lo : Nat) (h2 : lo ≤ rows.length) :
    ∃ v', SlG w B s v' (rows.drop lo) ∧ ∀ w' (k : IntKind), (Instr.slice t v (some (.int k (lo : Int))) none none).run P w' = .ok v' w' := by
  obtain ⟨oa', cap', rfl, hc, hm, hr⟩ := id h
  have ht' : P.underlying t = some (.slice (P.elem t)) := by rw [ht]; simp [Program.elem, ht]
  have hel : P.elem t = e := by simp [Program.elem, ht]
  refine ⟨sliced oa' lo rows.length cap' s, by simpa using h.cut lo rows.length h2 (Nat.le_refl _), fun w' k => ?_⟩
  rw [run_slice_l (l := (lo : Int)) (ht := ht') (h0 := by omega) (h1 := by omega), hel, hs]
  simp [Result.andThen]

/-- 'l[lo:hi]' -/
theorem SlG.part (h : SlG w B s v rows) (ht : P.underlying t = some (.slice e)) (hs : ∀ w, (sizeOf e).run P w = .ok s w) (lo hi : Nat) (h1 : lo ≤ hi) (h2 : hi ≤ rows.length) :
    ∃ v', SlG w B s v' ((rows.take hi).drop lo) ∧ ∀ w' (k k' : IntKind), (Instr.slice t v (some (.int k (lo : Int))) (some (.int k' (hi : Int))) none).run P w' = .ok v' w' := by
  obtain ⟨oa', cap', rfl, hc, hm, hr⟩ := id h
  have ht' : P.underlying t = some (.slice (P.elem t)) := by rw [ht]; simp [Program.elem, ht]
  have hel : P.elem t = e := by simp [Program.elem, ht]
  refine ⟨sliced oa' lo hi cap' s, h.cut lo hi h1 h2, fun w' k k' => ?_⟩
  rw [run_slice_lh (l := (lo : Int)) (h := (hi : Int)) (ht := ht') (h0 := by omega) (h1 := by omega) (h2 := by omega), hel, hs]
  simp [Result.andThen]
end

/-- a slice of ints -/
def SlI (w : World) (B : Nat) (v : Value) (l : List Int) : Prop := SlG w B 1 v (l.map fun n => [.int .i64 n])

section
variable {w w' : World} {B B' : Nat} {v : Value} {l : List Int} {P : Program} {t e : TypeId}
theorem SlI.below (h : SlI w B v l) (hb : Below B' w w') (hB : B ≤ B') : SlI w' B v l := SlG.below h hb hB
theorem SlI.mono (h : SlI w B v l) (hB : B ≤ B') : SlI w B' v l := SlG.mono h hB
theorem SlI.nil (w : World) (B : Nat) : SlI w B (.slice none 0 0) [] := SlG.nil w B 1
theorem SlI.len (h : SlI w B v l) {ty : TypeId} (ht : P.underlying t = some (.slice e)) (w' : World) : (Builtin.len_ #[t] ty #[v]).run P w' = .ok (.int .i64 l.length) w' := by
  have := SlG.len (P := P) (ty := ty) h ht w'
  rwa [List.length_map] at this
theorem SlI.addr (h : SlI w B v l) (ht : P.underlying t = some (.slice e)) (hs : ∀ w, (sizeOf e).run P w = .ok 1 w) (i : Nat) (hi : i < l.length) :
    ∃ b o, b < B ∧ (∀ w' (k : IntKind), (Instr.indexAt t v (.int k (i : Int))).run P w' = .ok (.pointer (some ⟨b, o, none⟩)) w') ∧ w.cell? ⟨b, o, none⟩ = some (.int .i64 (l.getD i 0)) := by
  obtain ⟨b, o, hb, hi', hc⟩ := SlG.addr (P := P) h ht hs i (by simpa using hi)
  refine ⟨b, o, hb, hi', hc 0 _ ?_⟩
  simp [List.getD_eq_getElem?_getD, List.getElem?_map, List.getElem?_eq_getElem hi]
theorem SlI.to (h : SlI w B v l) (ht : P.underlying t = some (.slice e)) (hs : ∀ w, (sizeOf e).run P w = .ok 1 w) (hi : Nat) (h2 : hi ≤ l.length) :
    ∃ v', SlI w B v' (l.take hi) ∧ ∀ w' (k : IntKind), (Instr.slice t v none (some (.int k (hi : Int))) none).run P w' = .ok v' w' := by
  obtain ⟨v', h1, h3⟩ := SlG.to (P := P) h ht hs hi (by simpa using h2)
  exact ⟨v', by rw [← List.map_take] at h1; exact h1, h3⟩
end
end Go.Mx
