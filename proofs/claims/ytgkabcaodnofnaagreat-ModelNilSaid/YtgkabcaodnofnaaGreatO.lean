import Derived.Test.YtgkabcaodnofnaaGreatN
import Derived.OwnWalk
import Derived.Laws.OwnMore
set_option linter.unusedSimpArgs false
set_option linter.unusedVariables false
namespace Go.Mx
open Go.RowKit

theorem flatten_at {α} (s : Nat) : ∀ (rows : List (List α)) (i j : Nat) (u : α), (∀ r ∈ rows, r.length = s) → i < rows.length → (rows.getD i [])[j]? = some u → rows.flatten[i * s + j]? = some u
  | [], i, j, u, _, hi, _ => absurd hi (by simp)
  | r :: rows, 0, j, u, hr, _, hu => by
    simp only [List.getD_cons_zero] at hu
    have hj := (List.getElem?_eq_some_iff.1 hu).1
    simp only [List.flatten_cons, Nat.zero_mul, Nat.zero_add]
    rw [List.getElem?_append_left hj]; exact hu
  | r :: rows, i + 1, j, u, hr, hi, hu => by
    have hs : r.length = s := hr r (by simp)
    simp only [List.getD_cons_succ] at hu
    have := flatten_at s rows i j u (fun q hq => hr q (by simp [hq])) (by simpa using hi) hu
    simp only [List.flatten_cons]
    rw [List.getElem?_append_right (by rw [hs, Nat.add_mul]; omega), hs, ← this]
    congr 1
    rw [Nat.add_mul]; omega

/-- what a call owns reads as a slice -/
theorem ownsRow_slG {w : World} {base : Nat} {e : TypeId} {s : Nat} {v : Value} {rows : List (List Value)} (h : w.ownsRow base e s v rows.length rows.flatten) (hr : ∀ r ∈ rows, r.length = s) : SlG w w.heap.size s v rows := by
  have hc := fun g (hg : v.ownBlock = some g) => World.ownsRow.cells h hg
  have hl := World.ownsRow.lt h
  rcases h.2 with ⟨rfl, h0⟩ | ⟨g, cap, cur, rfl, hbg, hgg, hn, hm, hs, ht⟩
  · rw [List.eq_nil_of_length_eq_zero h0]; exact SlG.nil _ _ _
  · refine ⟨_, cap, rfl, hn, hm, fun _ => ⟨g, 0, rfl, (hl g rfl).2, fun i hi j u hu => ?_⟩⟩
    have := hc g rfl (i * s + j) u (flatten_at s rows i j u hr hi hu)
    have e : (⟨g, 0, none⟩ : Addr).add (i * s + j) = ⟨g, 0 + i * s + j, none⟩ := by unfold Addr.add; split <;> simp_all <;> omega
    rw [e] at this; exact this

/-- a slice of one-cell elements that the call itself has made -/
def OwnV (w : World) (base : Nat) (e : TypeId) (v : Value) (l : List Value) : Prop := w.ownsRow base e 1 v l.length l

theorem OwnV.nil (w : World) (base : Nat) (e : TypeId) : OwnV w base e (.slice none 0 0) [] := World.ownsRow_nil w base e 1

theorem OwnV.any_base {w : World} {base base' : Nat} {e : TypeId} {v : Value} {l : List Value} (h : OwnV w base e v l) (hb : base' ≤ base) : OwnV w base' e v l := by
  refine ⟨h.1, ?_⟩
  rcases h.2 with hn | ⟨g, cap, cur, rfl, hbg, rest⟩
  · exact .inl hn
  · exact .inr ⟨g, cap, cur, rfl, by omega, rest⟩

theorem OwnV.lt {w : World} {base : Nat} {e : TypeId} {v : Value} {l : List Value} (h : OwnV w base e v l) : ∀ k, v.ownBlock = some k → k < w.heap.size := fun k hk => (World.ownsRow.lt h k hk).2

theorem OwnV.below {w w' : World} {base B : Nat} {e : TypeId} {v : Value} {l : List Value} (h : OwnV w base e v l) (hb : Below B w w') (hB : w.heap.size ≤ B) : OwnV w' base e v l := by
  have hv := h.lt
  refine ⟨h.1, ?_⟩
  rcases h.2 with hn | ⟨g, cap, cur, rfl, hbg, hgg, rest⟩
  · exact .inl hn
  · exact .inr ⟨g, cap, cur, rfl, hbg, by rw [hb.block g (by have := hv g rfl; omega)]; exact hgg, rest⟩

theorem heap_setCell_at' (w : World) (g i : Nat) (u : Value) (cur : Array Value) (e : TypeId) (fr : Nat × Nat) (h : w.heap[g]? = some (.cells cur e fr)) :
    (w.setCell ⟨g, i, none⟩ u).heap[g]? = some (.cells (cur.setIfInBounds i u) e fr) := by
  unfold World.setCell
  simp [Array.getElem?_modify, h]

theorem OwnV.store {w : World} {base : Nat} {e : TypeId} {g n c : Nat} {l : List Value} (h : OwnV w base e (.slice (some ⟨g, 0, none⟩) n c) l) (i : Nat) (u : Value) (hi : i < l.length) :
    OwnV (w.setCell ⟨g, i, none⟩ u) base e (.slice (some ⟨g, 0, none⟩) n c) (l.set i u) := by
  rcases h with ⟨h1, h2 | ⟨g', cap, cur, hv, hb, hg, hn, hm, hs, ht⟩⟩
  · obtain ⟨hv, _⟩ := h2; cases hv
  · cases hv
    refine ⟨by simp, .inr ⟨g, _, cur.setIfInBounds i u, by simp, hb, heap_setCell_at' w g i _ cur e _ hg, by simpa using hn, hm, by simpa using hs, ?_⟩⟩
    rw [Array.toList_setIfInBounds, List.take_set, List.length_set, ht]

theorem OwnV.fz {w : World} {base : Nat} {e : TypeId} {g n c : Nat} {l : List Value} (h : OwnV w base e (.slice (some ⟨g, 0, none⟩) n c) l) (i : Nat) : w.frozen? ⟨g, i, none⟩ = false := by
  rcases h with ⟨h1, h2 | ⟨g', cap, cur, hv, hb, hg, _⟩⟩
  · obtain ⟨hv, _⟩ := h2; cases hv
  · cases hv
    simp [World.frozen?, hg]

theorem OwnV.cellAt {w : World} {base : Nat} {e : TypeId} {g n c : Nat} {l : List Value} (h : OwnV w base e (.slice (some ⟨g, 0, none⟩) n c) l) (i : Nat) (u : Value) (hi : l[i]? = some u) : w.cell? ⟨g, i, none⟩ = some u := by
  have := World.ownsRow.cells h (by rfl : (Value.slice (some ⟨g, 0, none⟩) n c).ownBlock = some g) i u hi
  have e : (⟨g, 0, none⟩ : Addr).add i = ⟨g, i, none⟩ := by unfold Addr.add; split <;> simp_all
  rw [e] at this; exact this

/-- the ints that a call owns -/
def OwnI (w : World) (base : Nat) (v : Value) (l : List Int) : Prop := OwnV w base 3 v (l.map (.int .i64))

theorem OwnI.slI {w : World} {base : Nat} {v : Value} {l : List Int} (h : OwnI w base v l) : SlI w w.heap.size v l := by
  refine ownsRow_slG (rows := l.map fun n => [.int .i64 n]) (e := 3) (base := base) ?_ (by simp)
  have : ∀ l : List Int, (l.map fun n => [Value.int .i64 n]).flatten = l.map (.int .i64) := fun l => by induction l <;> simp_all
  rw [this]
  simpa [OwnI, OwnV] using h

theorem OwnI.at {w : World} {base : Nat} {g n c : Nat} {l : List Int} (h : OwnI w base (.slice (some ⟨g, 0, none⟩) n c) l) (i : Nat) (hi : i < l.length) : w.cell? ⟨g, i, none⟩ = some (.int .i64 (l.getD i 0)) :=
  OwnV.cellAt h i _ (by simp [List.getElem?_map, List.getD_eq_getElem?_getD, List.getElem?_eq_getElem hi])

theorem OwnI.set {w : World} {base : Nat} {g n c : Nat} {l : List Int} (h : OwnI w base (.slice (some ⟨g, 0, none⟩) n c) l) (i : Nat) (x : Int) (hi : i < l.length) : OwnI (w.setCell ⟨g, i, none⟩ (.int .i64 x)) base (.slice (some ⟨g, 0, none⟩) n c) (l.set i x) := by
  have := OwnV.store h i (.int .i64 x) (by simpa using hi)
  rw [← List.map_set] at this; exact this

/-- 'make([]int, n)' -/
theorem make_ints {P : Program} (w : World) {ops : Array Oper} {rest : List Oper} {o : Oper} {a : Act} {Q : Exit → Act → World → Prop} (hg : o.guard = none) (l c : Operand) (t : TypeId)
    (hop : o.op = Op.makeSlice t l c) (ht : P.underlying t = some (.slice 3)) (hi : (P.info? 3).map (fun i => (i.zero, i.size, i.bytes)) = some (some (.int .i64 0), 1, 8))
    (base : Nat) (kl kc : IntKind) (L C : Int) (n : Nat) (hl : a.eval l = .int kl L) (hc : a.eval c = .int kc C) (hL : L = (n : Int)) (hC : C = (n : Int)) (hn : n ≤ 1000000000) (hB : base ≤ w.heap.size)
    (h : ∀ v w', OwnI w' base v (List.replicate n 0) → Below w.heap.size w w' → v = .slice (some ⟨w.heap.size, 0, none⟩) n n → wpList P ops Q rest (a.put o.dst v) w') : wpList P ops Q (o :: rest) a w := by
  obtain ⟨i0, hi0, hz0, hz1, hz2⟩ := info_parts hi
  refine wpList_make_full w hg l c t hop base 3 i0 _ 1 ht hi0 hz0 hz1 kl kc L C n hl hc hL hC (by rw [hz2]; omega) (by unfold maxLen; omega) hB ?_
  intro w' ho hgr
  refine h _ w' ?_ ⟨hgr.os, hgr.tape, hgr.output, hgr.size, fun k hk => hgr.block k hk (by simp)⟩ rfl
  unfold OwnI OwnV
  have e1 : (madeCells (Value.int .i64 0).cells (n * 1)).toList = (List.replicate n (0 : Int)).map (.int .i64) := by
    rw [show (Value.int .i64 0).cells = #[Value.int .i64 0] from rfl, toList_madeCells_one]
    simp
  rw [e1] at ho
  simpa using ho
end Go.Mx
