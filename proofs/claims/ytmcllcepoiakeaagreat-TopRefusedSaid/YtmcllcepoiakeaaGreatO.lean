import Derived.WalkKit
import Derived.WalkSpells
import Derived.WalkLawsBesides
import Derived.Laws.Slices
import Derived.Below
import Derived.OwnWalk
import Derived.Laws.OwnMore
set_option linter.unusedSimpArgs false
set_option linter.unusedVariables false
namespace Go.Mx
open Go.RowKit
/-- rows of s cells each, from place o of block b on -/
def RdG (w : World) (b o s : Nat) (rows : List (List Value)) : Prop :=
  ∀ i, i < rows.length → ∀ j v, (rows.getD i [])[j]? = some v → w.cell? ⟨b, o + i * s + j, none⟩ = some v
theorem RdG.below {w w' : World} {B b o s : Nat} {rows : List (List Value)} (h : RdG w b o s rows) (hb : Below B w w') (hB : b < B) : RdG w' b o s rows :=
  fun i hi j v hv => by rw [hb.cell (p := ⟨b, _, none⟩) hB]; exact h i hi j v hv
theorem RdG.setCell {w : World} {b o s : Nat} {rows : List (List Value)} (h : RdG w b o s rows) {p q : Nat} {v : Value} (hp : p ≠ b) : RdG (w.setCell ⟨p, q, none⟩ v) b o s rows :=
  fun i hi j u hu => by rw [World.cell?_setCell_other w _ _ _ (by simp [hp])]; exact h i hi j u hu
theorem getD_cut {α} (l : List α) (lo hi i : Nat) (d : α) (h : lo + i < hi) : ((l.take hi).drop lo).getD i d = l.getD (lo + i) d := by
  simp only [List.getD_eq_getElem?_getD, List.getElem?_drop, List.getElem?_take]
  rw [if_pos (by omega)]
theorem RdG.cut {w : World} {b o s : Nat} {rows : List (List Value)} (h : RdG w b o s rows) (lo hi : Nat) : RdG w b (o + lo * s) s ((rows.take hi).drop lo) := by
  intro i hi' j v hv
  simp only [List.length_drop, List.length_take] at hi'
  rw [getD_cut _ _ _ _ _ (by omega)] at hv
  have := h (lo + i) (by omega) j v hv
  rwa [Nat.add_mul, ← Nat.add_assoc] at this
/-- a slice whose elements have s cells each: it reads as these rows, in blocks below B -/
def SlG (w : World) (B s : Nat) (v : Value) (rows : List (List Value)) : Prop :=
  ∃ oa cap, v = .slice oa rows.length cap ∧ rows.length ≤ cap ∧ cap ≤ maxLen ∧ (rows ≠ [] → ∃ bb bo, oa = some ⟨bb, bo, none⟩ ∧ bb < B ∧ RdG w bb bo s rows)
theorem SlG.below {w w' : World} {B B' s : Nat} {v : Value} {rows : List (List Value)} (h : SlG w B s v rows) (hb : Below B' w w') (hB : B ≤ B') : SlG w' B s v rows := by
  obtain ⟨oa, cap, rfl, h1, h2, h3⟩ := h
  refine ⟨oa, cap, rfl, h1, h2, fun hn => ?_⟩
  obtain ⟨bb, bo, rfl, hl, hr⟩ := h3 hn
  exact ⟨bb, bo, rfl, hl, hr.below hb (by omega)⟩
theorem SlG.mono {w : World} {B B' s : Nat} {v : Value} {rows : List (List Value)} (h : SlG w B s v rows) (hB : B ≤ B') : SlG w B' s v rows := by
  obtain ⟨oa, cap, rfl, h1, h2, h3⟩ := h
  refine ⟨oa, cap, rfl, h1, h2, fun hn => ?_⟩
  obtain ⟨bb, bo, rfl, hl, hr⟩ := h3 hn
  exact ⟨bb, bo, rfl, by omega, hr⟩
theorem SlG.nil (w : World) (B s : Nat) : SlG w B s (.slice none 0 0) [] := ⟨none, 0, rfl, by simp, by simp [maxLen], fun h => absurd rfl h⟩
theorem SlG.cut {w : World} {B n cap s : Nat} {oa : Option Addr} {rows : List (List Value)} (h : SlG w B s (.slice oa n cap) rows) (lo hi : Nat) (h1 : lo ≤ hi) (h2 : hi ≤ rows.length) : SlG w B s (sliced oa lo hi cap s) ((rows.take hi).drop lo) := by
  obtain ⟨oa', cap', he, hc, hm, hr⟩ := h
  cases he
  have hl : ((rows.take hi).drop lo).length = hi - lo := by simp; omega
  unfold sliced
  refine ⟨_, _, by rw [hl], by rw [hl]; omega, by omega, fun hn => ?_⟩
  have hlt : lo < hi := by
    rcases Nat.lt_or_ge lo hi with h | h
    · exact h
    · exact absurd (List.eq_nil_of_length_eq_zero (by rw [hl]; omega)) hn
  obtain ⟨bb, bo, rfl, hlb, hrd⟩ := hr (by rintro rfl; simp at h2; omega)
  refine ⟨bb, bo + lo * s, ?_, hlb, hrd.cut lo hi⟩
  rw [if_neg (by omega)]
  simp [Addr.add]
section
variable {w : World} {B s : Nat} {v : Value} {rows : List (List Value)} {P : Program} {t e : TypeId}
theorem SlG.len (h : SlG w B s v rows) {ty : TypeId} (ht : P.underlying t = some (.slice e)) (w' : World) :
    (Builtin.len_ #[t] ty #[v]).run P w' = .ok (.int .i64 rows.length) w' := by
  obtain ⟨oa', cap', rfl, _⟩ := h
  cases oa' <;> simp [Builtin.len_, run_underlying ht, go_sem]
/-- 'l[i]': its place, and what stands there -/
theorem SlG.addr (h : SlG w B s v rows) (ht : P.underlying t = some (.slice e)) (hs : ∀ w, (sizeOf e).run P w = .ok s w) (i : Nat) (hi : i < rows.length) :
    ∃ b o, b < B ∧ (∀ w' (k : IntKind), (Instr.indexAt t v (.int k (i : Int))).run P w' = .ok (.pointer (some ⟨b, o, none⟩)) w') ∧ ∀ j u, (rows.getD i [])[j]? = some u → w.cell? ⟨b, o + j, none⟩ = some u := by
  obtain ⟨oa', cap', rfl, hc, hm, hr⟩ := id h
  have ht' : P.underlying t = some (.slice (P.elem t)) := by rw [ht]; simp [Program.elem, ht]
  have hel : P.elem t = e := by simp [Program.elem, ht]
  obtain ⟨bb, bo, rfl, hlb, hrd⟩ := hr (by rintro rfl; simp at hi)
  refine ⟨bb, bo + i * s, hlb, fun w' k => ?_, hrd i hi⟩
  rw [run_indexAt_slice (h := ht'), if_pos (by omega), hel, hs]
  simp [Result.andThen, Addr.add]
/-- 'l[:hi]' -/
theorem SlG.to (h : SlG w B s v rows) (ht : P.underlying t = some (.slice e)) (hs : ∀ w, (sizeOf e).run P w = .ok s w) (hi : Nat) (h2 : hi ≤ rows.length) :
    ∃ v', SlG w B s v' (rows.take hi) ∧ ∀ w' (k : IntKind), (Instr.slice t v none (some (.int k (hi : Int))) none).run P w' = .ok v' w' := by
  obtain ⟨oa', cap', rfl, hc, hm, hr⟩ := id h
  have ht' : P.underlying t = some (.slice (P.elem t)) := by rw [ht]; simp [Program.elem, ht]
  have hel : P.elem t = e := by simp [Program.elem, ht]
  refine ⟨sliced oa' 0 hi cap' s, by simpa using h.cut 0 hi (Nat.zero_le _) h2, fun w' k => ?_⟩
  rw [run_slice_h (h := (hi : Int)) (ht := ht') (h0 := by omega) (h2 := by omega), hel, hs]
  simp [Result.andThen]
/-- 'l[lo:]' -/
theorem SlG.from (h : SlG w B s v rows) (ht : P.underlying t = some (.slice e)) (hs : ∀ w, (sizeOf e).run P w = .ok s w) (lo : Nat) (h2 : lo ≤ rows.length) :
    ∃ v', SlG w B s v' (rows.drop lo) ∧ ∀ w' (k : IntKind), (Instr.slice t v (some (.int k (lo : Int))) none none).run P w' = .ok v' w' := by
  obtain ⟨oa', cap', rfl, hc, hm, hr⟩ := id h
  have ht' : P.underlying t = some (.slice (P.elem t)) := by rw [ht]; simp [Program.elem, ht]
  have hel : P.elem t = e := by simp [Program.elem, ht]
  refine ⟨sliced oa' lo rows.length cap' s, by simpa using h.cut lo rows.length h2 (Nat.le_refl _), fun w' k => ?_⟩
  rw [run_slice_l (l := (lo : Int)) (ht := ht') (h0 := by omega) (h1 := by omega), hel, hs]
  simp [Result.andThen]
/-- 'l[lo:hi]' -/
theorem SlG.part (h : SlG w B s v rows) (ht : P.underlying t = some (.slice e)) (hs : ∀ w, (sizeOf e).run P w = .ok s w) (lo hi : Nat) (h1 : lo ≤ hi) (h2 : hi ≤ rows.length) :
    ∃ v', SlG w B s v' ((rows.take hi).drop lo) ∧ ∀ w' (k k' : IntKind), (Instr.slice t v (some (.int k (lo : Int))) (some (.int k' (hi : Int))) none).run P w' = .ok v' w' := by
  obtain ⟨oa', cap', rfl, hc, hm, hr⟩ := id h
  have ht' : P.underlying t = some (.slice (P.elem t)) := by rw [ht]; simp [Program.elem, ht]
  have hel : P.elem t = e := by simp [Program.elem, ht]
  refine ⟨sliced oa' lo hi cap' s, h.cut lo hi h1 h2, fun w' k k' => ?_⟩
  rw [run_slice_lh (l := (lo : Int)) (h := (hi : Int)) (ht := ht') (h0 := by omega) (h1 := by omega) (h2 := by omega), hel, hs]
  simp [Result.andThen]
end
/-- a slice of ints -/
def SlI (w : World) (B : Nat) (v : Value) (l : List Int) : Prop := SlG w B 1 v (l.map fun n => [.int .i64 n])
section
variable {w w' : World} {B B' : Nat} {v : Value} {l : List Int} {P : Program} {t e : TypeId}
theorem SlI.below (h : SlI w B v l) (hb : Below B' w w') (hB : B ≤ B') : SlI w' B v l := SlG.below h hb hB
theorem SlI.mono (h : SlI w B v l) (hB : B ≤ B') : SlI w B' v l := SlG.mono h hB
theorem SlI.nil (w : World) (B : Nat) : SlI w B (.slice none 0 0) [] := SlG.nil w B 1
theorem SlI.len (h : SlI w B v l) {ty : TypeId} (ht : P.underlying t = some (.slice e)) (w' : World) : (Builtin.len_ #[t] ty #[v]).run P w' = .ok (.int .i64 l.length) w' := by
  have := SlG.len (P := P) (ty := ty) h ht w'
  rwa [List.length_map] at this
theorem SlI.addr (h : SlI w B v l) (ht : P.underlying t = some (.slice e)) (hs : ∀ w, (sizeOf e).run P w = .ok 1 w) (i : Nat) (hi : i < l.length) :
    ∃ b o, b < B ∧ (∀ w' (k : IntKind), (Instr.indexAt t v (.int k (i : Int))).run P w' = .ok (.pointer (some ⟨b, o, none⟩)) w') ∧ w.cell? ⟨b, o, none⟩ = some (.int .i64 (l.getD i 0)) := by
  obtain ⟨b, o, hb, hi', hc⟩ := SlG.addr (P := P) h ht hs i (by simpa using hi)
  refine ⟨b, o, hb, hi', hc 0 _ ?_⟩
  simp [List.getD_eq_getElem?_getD, List.getElem?_map, List.getElem?_eq_getElem hi]
theorem SlI.to (h : SlI w B v l) (ht : P.underlying t = some (.slice e)) (hs : ∀ w, (sizeOf e).run P w = .ok 1 w) (hi : Nat) (h2 : hi ≤ l.length) :
    ∃ v', SlI w B v' (l.take hi) ∧ ∀ w' (k : IntKind), (Instr.slice t v none (some (.int k (hi : Int))) none).run P w' = .ok v' w' := by
  obtain ⟨v', h1, h3⟩ := SlG.to (P := P) h ht hs hi (by simpa using h2)
  exact ⟨v', by rw [← List.map_take] at h1; exact h1, h3⟩
end
theorem flatten_at {α} (s : Nat) : ∀ (rows : List (List α)) (i j : Nat) (u : α), (∀ r ∈ rows, r.length = s) → i < rows.length → (rows.getD i [])[j]? = some u → rows.flatten[i * s + j]? = some u
  | [], i, j, u, _, hi, _ => absurd hi (by simp)
  | r :: rows, 0, j, u, hr, _, hu => by
    simp only [List.getD_cons_zero] at hu
    have hj := (List.getElem?_eq_some_iff.1 hu).1
    simp only [List.flatten_cons, Nat.zero_mul, Nat.zero_add]
    rw [List.getElem?_append_left hj]; exact hu
  | r :: rows, i + 1, j, u, hr, hi, hu => by
    have hs : r.length = s := hr r (by simp)
    simp only [List.getD_cons_succ] at hu
    have := flatten_at s rows i j u (fun q hq => hr q (by simp [hq])) (by simpa using hi) hu
    simp only [List.flatten_cons]
    rw [List.getElem?_append_right (by rw [hs, Nat.add_mul]; omega), hs, ← this]
    congr 1
    rw [Nat.add_mul]; omega
/-- what a call owns reads as a slice -/
theorem ownsRow_slG {w : World} {base : Nat} {e : TypeId} {s : Nat} {v : Value} {rows : List (List Value)} (h : w.ownsRow base e s v rows.length rows.flatten) (hr : ∀ r ∈ rows, r.length = s) : SlG w w.heap.size s v rows := by
  have hc := fun g (hg : v.ownBlock = some g) => World.ownsRow.cells h hg
  have hl := World.ownsRow.lt h
  rcases h.2 with ⟨rfl, h0⟩ | ⟨g, cap, cur, rfl, hbg, hgg, hn, hm, hs, ht⟩
  · rw [List.eq_nil_of_length_eq_zero h0]; exact SlG.nil _ _ _
  · refine ⟨_, cap, rfl, hn, hm, fun _ => ⟨g, 0, rfl, (hl g rfl).2, fun i hi j u hu => ?_⟩⟩
    have := hc g rfl (i * s + j) u (flatten_at s rows i j u hr hi hu)
    have e : (⟨g, 0, none⟩ : Addr).add (i * s + j) = ⟨g, 0 + i * s + j, none⟩ := by unfold Addr.add; split <;> simp_all <;> omega
    rw [e] at this; exact this
/-- a slice of one-cell elements that the call itself has made -/
def OwnV (w : World) (base : Nat) (e : TypeId) (v : Value) (l : List Value) : Prop := w.ownsRow base e 1 v l.length l
theorem OwnV.nil (w : World) (base : Nat) (e : TypeId) : OwnV w base e (.slice none 0 0) [] := World.ownsRow_nil w base e 1
theorem OwnV.any_base {w : World} {base base' : Nat} {e : TypeId} {v : Value} {l : List Value} (h : OwnV w base e v l) (hb : base' ≤ base) : OwnV w base' e v l := by
  refine ⟨h.1, ?_⟩
  rcases h.2 with hn | ⟨g, cap, cur, rfl, hbg, rest⟩
  · exact .inl hn
  · exact .inr ⟨g, cap, cur, rfl, by omega, rest⟩
theorem OwnV.lt {w : World} {base : Nat} {e : TypeId} {v : Value} {l : List Value} (h : OwnV w base e v l) : ∀ k, v.ownBlock = some k → k < w.heap.size := fun k hk => (World.ownsRow.lt h k hk).2
theorem OwnV.below {w w' : World} {base B : Nat} {e : TypeId} {v : Value} {l : List Value} (h : OwnV w base e v l) (hb : Below B w w') (hB : w.heap.size ≤ B) : OwnV w' base e v l := by
  have hv := h.lt
  refine ⟨h.1, ?_⟩
  rcases h.2 with hn | ⟨g, cap, cur, rfl, hbg, hgg, rest⟩
  · exact .inl hn
  · exact .inr ⟨g, cap, cur, rfl, hbg, by rw [hb.block g (by have := hv g rfl; omega)]; exact hgg, rest⟩
theorem heap_setCell_at' (w : World) (g i : Nat) (u : Value) (cur : Array Value) (e : TypeId) (fr : Nat × Nat) (h : w.heap[g]? = some (.cells cur e fr)) :
    (w.setCell ⟨g, i, none⟩ u).heap[g]? = some (.cells (cur.setIfInBounds i u) e fr) := by
  unfold World.setCell
  simp [Array.getElem?_modify, h]
theorem OwnV.store {w : World} {base : Nat} {e : TypeId} {g n c : Nat} {l : List Value} (h : OwnV w base e (.slice (some ⟨g, 0, none⟩) n c) l) (i : Nat) (u : Value) (hi : i < l.length) :
    OwnV (w.setCell ⟨g, i, none⟩ u) base e (.slice (some ⟨g, 0, none⟩) n c) (l.set i u) := by
  rcases h with ⟨h1, h2 | ⟨g', cap, cur, hv, hb, hg, hn, hm, hs, ht⟩⟩
  · obtain ⟨hv, _⟩ := h2; cases hv
  · cases hv
    refine ⟨by simp, .inr ⟨g, _, cur.setIfInBounds i u, by simp, hb, heap_setCell_at' w g i _ cur e _ hg, by simpa using hn, hm, by simpa using hs, ?_⟩⟩
    rw [Array.toList_setIfInBounds, List.take_set, List.length_set, ht]
theorem OwnV.fz {w : World} {base : Nat} {e : TypeId} {g n c : Nat} {l : List Value} (h : OwnV w base e (.slice (some ⟨g, 0, none⟩) n c) l) (i : Nat) : w.frozen? ⟨g, i, none⟩ = false := by
  rcases h with ⟨h1, h2 | ⟨g', cap, cur, hv, hb, hg, _⟩⟩
  · obtain ⟨hv, _⟩ := h2; cases hv
  · cases hv
    simp [World.frozen?, hg]
theorem OwnV.cellAt {w : World} {base : Nat} {e : TypeId} {g n c : Nat} {l : List Value} (h : OwnV w base e (.slice (some ⟨g, 0, none⟩) n c) l) (i : Nat) (u : Value) (hi : l[i]? = some u) : w.cell? ⟨g, i, none⟩ = some u := by
  have := World.ownsRow.cells h (by rfl : (Value.slice (some ⟨g, 0, none⟩) n c).ownBlock = some g) i u hi
  have e : (⟨g, 0, none⟩ : Addr).add i = ⟨g, i, none⟩ := by unfold Addr.add; split <;> simp_all
  rw [e] at this; exact this
/-- the ints that a call owns -/
def OwnI (w : World) (base : Nat) (v : Value) (l : List Int) : Prop := OwnV w base 3 v (l.map (.int .i64))
theorem OwnI.slI {w : World} {base : Nat} {v : Value} {l : List Int} (h : OwnI w base v l) : SlI w w.heap.size v l := by
  refine ownsRow_slG (rows := l.map fun n => [.int .i64 n]) (e := 3) (base := base) ?_ (by simp)
  have : ∀ l : List Int, (l.map fun n => [Value.int .i64 n]).flatten = l.map (.int .i64) := fun l => by induction l <;> simp_all
  rw [this]
  simpa [OwnI, OwnV] using h
theorem OwnI.at {w : World} {base : Nat} {g n c : Nat} {l : List Int} (h : OwnI w base (.slice (some ⟨g, 0, none⟩) n c) l) (i : Nat) (hi : i < l.length) : w.cell? ⟨g, i, none⟩ = some (.int .i64 (l.getD i 0)) :=
  OwnV.cellAt h i _ (by simp [List.getElem?_map, List.getD_eq_getElem?_getD, List.getElem?_eq_getElem hi])
theorem OwnI.set {w : World} {base : Nat} {g n c : Nat} {l : List Int} (h : OwnI w base (.slice (some ⟨g, 0, none⟩) n c) l) (i : Nat) (x : Int) (hi : i < l.length) : OwnI (w.setCell ⟨g, i, none⟩ (.int .i64 x)) base (.slice (some ⟨g, 0, none⟩) n c) (l.set i x) := by
  have := OwnV.store h i (.int .i64 x) (by simpa using hi)
  rw [← List.map_set] at this; exact this
/-- 'make([]int, n)' -/
theorem make_ints {P : Program} (w : World) {ops : Array Oper} {rest : List Oper} {o : Oper} {a : Act} {Q : Exit → Act → World → Prop} (hg : o.guard = none) (l c : Operand) (t : TypeId)
    (hop : o.op = Op.makeSlice t l c) (ht : P.underlying t = some (.slice 3)) (hi : (P.info? 3).map (fun i => (i.zero, i.size, i.bytes)) = some (some (.int .i64 0), 1, 8))
    (base : Nat) (kl kc : IntKind) (L C : Int) (n : Nat) (hl : a.eval l = .int kl L) (hc : a.eval c = .int kc C) (hL : L = (n : Int)) (hC : C = (n : Int)) (hn : n ≤ 1000000000) (hB : base ≤ w.heap.size)
    (h : ∀ v w', OwnI w' base v (List.replicate n 0) → Below w.heap.size w w' → v = .slice (some ⟨w.heap.size, 0, none⟩) n n → wpList P ops Q rest (a.put o.dst v) w') : wpList P ops Q (o :: rest) a w := by
  obtain ⟨i0, hi0, hz0, hz1, hz2⟩ := info_parts hi
  refine wpList_make_full w hg l c t hop base 3 i0 _ 1 ht hi0 hz0 hz1 kl kc L C n hl hc hL hC (by rw [hz2]; omega) (by unfold maxLen; omega) hB ?_
  intro w' ho hgr
  refine h _ w' ?_ ⟨hgr.os, hgr.tape, hgr.output, hgr.size, fun k hk => hgr.block k hk (by simp)⟩ rfl
  unfold OwnI OwnV
  have e1 : (madeCells (Value.int .i64 0).cells (n * 1)).toList = (List.replicate n (0 : Int)).map (.int .i64) := by
    rw [show (Value.int .i64 0).cells = #[Value.int .i64 0] from rfl, toList_madeCells_one]
    simp
  rw [e1] at ho
  simpa using ho
end Go.Mx
