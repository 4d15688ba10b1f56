import Derived.Test.YtgkabcaodnofnaaGreatMS
import Derived.Test.YtgkabcaodnofnaaGreatGM
namespace Go.Mx
open Go.RowKit Go.Maps
set_option linter.unusedSimpArgs false
set_option linter.unusedVariables false
theorem flat_set1 {s : Nat} (u : Value) (t : Nat) (ht : t < s) : ∀ (rows : List (List Value)) (j : Nat), (∀ r ∈ rows, r.length = s) → j < rows.length → (rows.set j ((rows.getD j []).set t u)).flatten = rows.flatten.set (j * s + t) u
  | [], j, _, hj => by simp at hj
  | r :: rows, 0, h, _ => by
    have hr : r.length = s := h r (by simp)
    simp only [List.getD_cons_zero, List.set_cons_zero, List.flatten_cons, Nat.zero_mul, Nat.zero_add]
    rw [List.set_append, if_pos (by omega)]
  | r :: rows, j + 1, h, hj => by
    have hr : r.length = s := h r (by simp)
    simp only [List.getD_cons_succ, List.set_cons_succ, List.flatten_cons]
    rw [flat_set1 u t ht rows j (fun x hx => h x (by simp [hx])) (by simpa using hj), List.set_append, if_neg (by rw [hr, Nat.succ_mul]; omega)]
    congr 2
    rw [hr, Nat.succ_mul]; omega
theorem OwnG.setOne {w : World} {base : Nat} {e : TypeId} {g n c s : Nat} {rows : List (List Value)} (h : OwnG w base e s (.slice (some ⟨g, 0, none⟩) n c) rows) (j t : Nat) (u : Value) (hj : j < rows.length) (ht : t < s) :
    OwnG (w.setCell ⟨g, j * s + t, none⟩ u) base e s (.slice (some ⟨g, 0, none⟩) n c) (rows.set j ((rows.getD j []).set t u)) := by
  have hgm : rows.getD j [] ∈ rows := by rw [List.getD_eq_getElem?_getD, List.getElem?_eq_getElem hj]; exact List.getElem_mem _
  have hl : ∀ r ∈ rows.set j ((rows.getD j []).set t u), r.length = s := fun r hr => by
    rcases List.mem_or_eq_of_mem_set hr with h1 | h1
    · exact h.2 r h1
    · rw [h1, List.length_set]; exact h.2 _ hgm
  refine ⟨⟨?_, ?_⟩, hl⟩
  · rw [flat_set1 u t ht rows j h.2 hj]; have := h.1.1; simp only [List.length_set] at this ⊢; exact this
  · rcases h.1.2 with ⟨hv, _⟩ | ⟨g', cap, cur, hv, hb, hg, hn, hm, hs, ht'⟩
    · cases hv
    · cases hv
      refine .inr ⟨g, _, cur.setIfInBounds (j * s + t) u, by simp, hb, heap_setCell_at' w g _ _ cur e _ hg, by simpa using hn, hm, by simpa using hs, ?_⟩
      rw [flat_set1 u t ht rows j h.2 hj, Array.toList_setIfInBounds, List.take_set, List.length_set, ht']
theorem ownG_sh {w : World} {base : Nat} {e : TypeId} {s : Nat} {v : Value} {rows : List (List Value)} (h : OwnG w base e s v rows) : ∃ oa n c, v = .slice oa n c := by
  rcases h.shape with ⟨rfl, _⟩ | ⟨g, c, rfl, _⟩ <;> exact ⟨_, _, _, rfl⟩
theorem ownG_B {w : World} {base : Nat} {e : TypeId} {v : Value} {l : List UInt8} (h : OwnG w base e 1 v (l.map fun x => [u8 x])) : OwnB w base e v l := by
  have e1 : (l.map fun x => [u8 x]).flatten = l.map u8 := by
    clear h
    induction l with
    | nil => rfl
    | cons a l ih => simp [ih]
  have := h.1
  rw [e1, List.length_map] at this; exact this
theorem slB_G {w : World} {B : Nat} {v : Value} {l : List UInt8} (h : SlB w B v l) : SlG w B 1 v (l.map fun x => [u8 x]) := by
  obtain ⟨oa, cap, rfl, h1, h2, h3⟩ := h
  refine ⟨oa, cap, by simp, by simpa using h1, by simpa using h2, fun hn => ?_⟩
  obtain ⟨bb, bo, rfl, hl, hr⟩ := h3 (by rintro rfl; simp at hn)
  refine ⟨bb, bo, rfl, hl, fun i hi j u hj => ?_⟩
  rw [List.length_map] at hi
  have hg : (l.map fun x => [u8 x]).getD i [] = [u8 (l.getD i 0)] := by
    rw [List.getD_eq_getElem?_getD, List.getElem?_map, List.getElem?_eq_getElem hi, List.getD_eq_getElem?_getD, List.getElem?_eq_getElem hi]; rfl
  rw [hg] at hj
  match j, hj with
  | 0, hj => simp at hj; subst hj; have := hr i hi; rw [show bo + i * 1 + 0 = bo + i by omega]; exact this
  | j + 1, hj => simp at hj
theorem ownG_type {w : World} {base : Nat} {e : TypeId} {s : Nat} {v : Value} {rows : List (List Value)} (h : OwnG w base e s v rows) : ∀ k, v.ownBlock = some k → ∃ c f, w.heap[k]? = some (.cells c e f) := by
  intro k hk
  rcases h.1.2 with ⟨rfl, _⟩ | ⟨g, cap, cur, rfl, _, hg, _⟩
  · cases hk
  · cases hk; exact ⟨_, _, hg⟩
theorem ownB_type {w : World} {base : Nat} {v : Value} {l : List UInt8} (h : OwnB w base 5 v l) : ∀ k, v.ownBlock = some k → ∃ c f, w.heap[k]? = some (.cells c 5 f) := by
  intro k hk
  rcases h.2 with ⟨rfl, _⟩ | ⟨g, cap, cur, rfl, _, hg, _⟩
  · cases hk
  · cases hk; exact ⟨_, _, hg⟩
theorem KOwnG_not {w : World} {base s : Nat} {e t : TypeId} {v : Value} {rows : List (List Value)} (h : OwnG w base e s v rows) {q : Nat} {c : Array Value} {f : Nat × Nat} (hq : w.heap[q]? = some (.cells c t f)) (ht : t ≠ e) : v.ownBlock ≠ some q := fun he => by
  obtain ⟨c9, f9, h9⟩ := ownG_type h q he
  rw [hq] at h9; simp only [Option.some.injEq, Obj.cells.injEq] at h9; exact ht h9.2.1
end Go.Mx
