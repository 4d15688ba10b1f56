import Derived.Test.YtgkabcaodnofnaaGreatMK
import Derived.Laws.CopyOwn
import Derived.Laws.OwnMore
import Derived.Deep.MidRow
import Derived.Deep.Upon
import Derived.Deep.Grids
namespace Go.Mx
open Go.RowKit
set_option linter.unusedSimpArgs false
set_option linter.unusedVariables false
theorem OwnG.empty (w : World) (e : TypeId) (s : Nat) : OwnG (w.alloc (.cells #[] e)) w.heap.size e s (.slice (some ⟨w.heap.size, 0, none⟩) 0 0) [] :=
  ⟨World.ownsRow_made w #[] 0 (Nat.le_refl _) (by simp [maxLen]) (by simp), by simp⟩
theorem flat_len {s : Nat} : ∀ (l : List (List Value)), (∀ r ∈ l, r.length = s) → l.flatten.length = l.length * s
  | [], _ => by simp
  | r :: l, h => by rw [List.flatten_cons, List.length_append, h r (by simp), flat_len l fun x hx => h x (by simp [hx]), List.length_cons, Nat.succ_mul]; omega
/-- 'append(out, xs...)' of rows that are one's own -/
theorem append_gs {P : Program} (w : World) {ops : Array Oper} {rest : List Oper} {o : Oper} {a : Act} {Q : Exit → Act → World → Prop} (hgd : o.guard = none) (s x : Operand) (t e : TypeId) (z : Value) (sz bytes : Nat)
    (ho : o.op = .call { callee := .builtin .append, args := #[s, x], argTypes := #[t, t] })
    (ht : P.underlying t = some (.slice e)) (hi : (P.info? e).map (fun i => (i.zero, i.size, i.bytes)) = some (some z, sz, bytes)) (hz : z.cells.size = sz) (hsz : 0 < sz)
    (base : Nat) (v : Value) (rows : List (List Value)) (hs : a.eval s = v) (hown : OwnG w base e sz v rows) (base2 : Nat) (e2 : TypeId) (v2 : Value) (rows2 : List (List Value)) (hx : a.eval x = v2) (hown2 : OwnG w base2 e2 sz v2 rows2)
    (hone : ∀ r ∈ rows2, ∀ u ∈ r, u.oneCell' = true)
    (hlen : (rows.length + rows2.length) * bytes ≤ 140737488355328) (hlen2 : rows.length + rows2.length ≤ 140737488355328) (hB : base ≤ w.heap.size)
    (h : ∀ v' w', OwnG w' base e sz v' (rows ++ rows2) → w.grownBy w' v.ownBlock → Below base w w' → wpList P ops Q rest (a.put o.dst v') w') : wpList P ops Q (o :: rest) a w := by
  obtain ⟨i0, hi0, hz0, hz1, hz2⟩ := info_parts hi
  rcases hown2.shape with ⟨rfl, rfl⟩ | ⟨g, c, rfl, hg1, hg2⟩
  · refine wpList_plain hgd fun K hK => ?_
    have hrun := run_append_nosrc (P := P) (w := w) (ty := o.type) ht hi0 hown.1 0
    unfold Oper.wp
    simp [execOp, ho, resolve, invoke, builtin, hs, hx, hrun, Result.andThen]
    exact hK _ _ (h v w (by simpa using hown) (World.grownBy.refl w _) (Below.refl _ _))
  · refine wpList_append_own w hgd s x t ho base e i0 _ sz bytes ht hi0 hz0 hz1 hz2 hz hsz v rows.length _ hs hown.1 ⟨g, 0, none⟩ rows2.length c rows2.flatten hx (flat_len _ hown2.2) ?_ ?_ ?_ hlen hB ?_
    · intro j u hj
      exact World.ownsRow.cells hown2.1 rfl j u hj
    · intro u hu
      obtain ⟨r, hr, hu⟩ := List.mem_flatten.1 hu
      exact hone r hr u hu
    · unfold maxLen; omega
    · intro v' w' ho' hg' _
      refine h v' w' ⟨by simpa using ho', ?_⟩ hg' ((Below.refl base w).grown hg' hB (fun k hk => (World.ownsRow.lt hown.1 k hk).1))
      intro r hr
      rcases List.mem_append.1 hr with hr | hr
      · exact hown.2 r hr
      · exact hown2.2 r hr

theorem toList_set {α : Type} (a : Array α) (i : Nat) (x : α) : (a.setIfInBounds i x).toList = a.toList.set i x := by simp
theorem heap_setCells_at : ∀ (vs : List Value) (w : World) (g o : Nat) (cur : Array Value) (e : TypeId) (fr : Nat × Nat), w.heap[g]? = some (.cells cur e fr) → o + vs.length ≤ cur.size →
    ∃ cur' : Array Value, (w.setCells g o vs).heap[g]? = some (.cells cur' e fr) ∧ cur'.toList = cur.toList.take o ++ (vs ++ cur.toList.drop (o + vs.length))
  | [], w, g, o, cur, e, fr, h, _ => ⟨cur, h, by simp⟩
  | v :: r, w, g, o, cur, e, fr, h, hl => by
    simp only [List.length_cons] at hl
    obtain ⟨cur', h1, h2⟩ := heap_setCells_at r (w.setCell ⟨g, o, none⟩ v) g (o + 1) (cur.setIfInBounds o v) e fr (heap_setCell_at' w g o v cur e fr h) (by simp; omega)
    refine ⟨cur', h1, ?_⟩
    have hol : o < cur.toList.length := by simp; omega
    have e1 : (cur.toList.set o v).take (o + 1) = cur.toList.take o ++ [v] := by
      rw [List.take_add_one, List.take_set_of_le (Nat.le_refl _), List.getElem?_set_self (by omega)]; rfl
    have e2 : (cur.toList.set o v).drop (o + 1 + r.length) = cur.toList.drop (o + 1 + r.length) := by
      rw [List.drop_set]; rw [if_pos (by omega)]
    rw [h2, toList_set, e1, e2, List.length_cons, show o + (r.length + 1) = o + 1 + r.length by omega]
    simp
theorem Below.setCells {B : Nat} {w0 : World} : ∀ (vs : List Value) {w : World} (h : Below B w0 w) {g o : Nat} (hg : B ≤ g), Below B w0 (w.setCells g o vs)
  | [], _, h, _, _, _ => h
  | v :: r, w, h, g, o, hg => Below.setCells r (h.setCell (p := ⟨g, o, none⟩) hg v) hg
theorem size_setCells : ∀ (vs : List Value) (w : World) (g o : Nat), (w.setCells g o vs).heap.size = w.heap.size
  | [], _, _, _ => rfl
  | v :: r, w, g, o => (size_setCells r _ g (o + 1)).trans (by simp)
theorem Kept.setCells (w : World) (g o : Nat) (vs : List Value) {N : Nat → Prop} (hn : ¬ N g) : Kept w (w.setCells g o vs) N :=
  ⟨Nat.le_of_eq (size_setCells vs w g o).symm, fun k hk hN => World.heap_setCells_other w g o vs hk fun e => hn (e ▸ hN), (Below.setCells vs (Below.refl 0 w) (g := g) (o := o) (Nat.zero_le _)).os, (Below.setCells vs (Below.refl 0 w) (g := g) (o := o) (Nat.zero_le _)).tape, (Below.setCells vs (Below.refl 0 w) (g := g) (o := o) (Nat.zero_le _)).output⟩

theorem flat_take {s : Nat} : ∀ (rows : List (List Value)) (m : Nat), (∀ r ∈ rows, r.length = s) → rows.flatten.take (m * s) = (rows.take m).flatten
  | [], m, _ => by simp
  | r :: rows, 0, _ => by simp
  | r :: rows, m + 1, h => by
    have hr : r.length = s := h r (by simp)
    rw [List.flatten_cons, Nat.succ_mul, List.take_succ_cons, List.flatten_cons, ← flat_take rows m fun x hx => h x (by simp [hx]), List.take_append, List.take_of_length_le (by omega), hr]
    congr 2; omega
theorem flat_drop {s : Nat} : ∀ (rows : List (List Value)) (m : Nat), (∀ r ∈ rows, r.length = s) → rows.flatten.drop (m * s) = (rows.drop m).flatten
  | [], m, _ => by simp
  | r :: rows, 0, _ => by simp
  | r :: rows, m + 1, h => by
    have hr : r.length = s := h r (by simp)
    rw [List.flatten_cons, Nat.succ_mul, List.drop_succ_cons, ← flat_drop rows m fun x hx => h x (by simp [hx]), List.drop_append, List.drop_of_length_le (by omega), hr]
    simp
theorem flat_set {s : Nat} (rows : List (List Value)) (j : Nat) (row : List Value) (hj : j < rows.length) (h : ∀ r ∈ rows, r.length = s) : (rows.set j row).flatten = rows.flatten.take (j * s) ++ (row ++ rows.flatten.drop (j * s + s)) := by
  rw [flat_take rows j h, show j * s + s = (j + 1) * s by rw [Nat.succ_mul], flat_drop rows (j + 1) h]
  rw [List.set_eq_take_append_cons_drop, if_pos hj]
  simp

theorem splice_take {α : Type} (L : List α) (a s N : Nat) (row : List α) (hr : row.length = s) (h : a + s ≤ N) (hN : N ≤ L.length) : (L.take a ++ (row ++ L.drop (a + s))).take N = (L.take N).take a ++ (row ++ (L.take N).drop (a + s)) := by
  have h1 : min N a = a := by omega
  have h2 : min a N = a := by omega
  have h3 : min a L.length = a := by omega
  rw [List.take_append, List.take_take, List.take_append, List.take_take, List.drop_take, List.length_take, h1, h2, h3, List.take_of_length_le (by omega : row.length ≤ N - a), hr, show N - a - s = N - (a + s) by omega]

section
variable {w : World} {base : Nat} {e : TypeId} {s g n c : Nat} {rows : List (List Value)}
theorem OwnG.parts (h : OwnG w base e s (.slice (some ⟨g, 0, none⟩) n c) rows) : n = rows.length ∧ base ≤ g ∧ rows.length ≤ c ∧ c ≤ maxLen ∧ ∃ cur : Array Value, w.heap[g]? = some (.cells cur e (0, 0)) ∧ cur.size = c * s ∧ cur.toList.take (rows.length * s) = rows.flatten := by
  have hf := flat_len rows h.2
  rcases h.1.2 with ⟨hv, _⟩ | ⟨g', cap, cur, hv, hb, hg, hn, hm, hs, ht⟩
  · cases hv
  · cases hv
    exact ⟨rfl, hb, hn, hm, cur, hg, hs, ht⟩
theorem OwnG.make (hb : base ≤ g) (hn : rows.length ≤ c) (hm : c ≤ maxLen) {cur : Array Value} (hg : w.heap[g]? = some (.cells cur e (0, 0))) (hs : cur.size = c * s) (ht : cur.toList.take (rows.length * s) = rows.flatten) (hr : ∀ r ∈ rows, r.length = s) :
    OwnG w base e s (.slice (some ⟨g, 0, none⟩) rows.length c) rows :=
  ⟨⟨flat_len rows hr, .inr ⟨g, c, cur, rfl, hb, hg, hn, hm, hs, ht⟩⟩, hr⟩
/-- a store of one row -/
theorem OwnG.setAt (h : OwnG w base e s (.slice (some ⟨g, 0, none⟩) n c) rows) (j : Nat) (row : List Value) (hj : j < rows.length) (hl : row.length = s) : OwnG (w.setCells g (j * s) row) base e s (.slice (some ⟨g, 0, none⟩) n c) (rows.set j row) := by
  obtain ⟨rfl, hb, hn, hm, cur, hg, hs, ht⟩ := h.parts
  have hjs : j * s + s ≤ rows.length * s := by rw [← Nat.succ_mul]; exact Nat.mul_le_mul_right _ hj
  have hcs : rows.length * s ≤ c * s := Nat.mul_le_mul_right _ hn
  obtain ⟨cur', hg', ht'⟩ := heap_setCells_at row w g (j * s) cur e (0, 0) hg (by omega)
  have hr' : ∀ r ∈ rows.set j row, r.length = s := fun r hr => by
    rcases List.mem_or_eq_of_mem_set hr with h1 | h1
    · exact h.2 r h1
    · rw [h1]; exact hl
  have hsz : cur'.size = c * s := by
    have := congrArg List.length ht'
    simp only [List.length_append, List.length_take, List.length_drop, Array.length_toList] at this
    omega
  have := OwnG.make (w := w.setCells g (j * s) row) (rows := rows.set j row) hb (by simpa using hn) hm hg' hsz ?_ hr'
  · simpa using this
  · rw [ht', List.length_set, flat_set rows j row hj h.2, ← ht, hl]
    exact splice_take cur.toList (j * s) s (rows.length * s) row hl hjs (by have := Array.length_toList (xs := cur); omega)
/-- fewer rows, whatever stands behind them -/
theorem OwnG.tail (h : OwnG w base e s (.slice (some ⟨g, 0, none⟩) n c) rows) (m : Nat) (hm' : m ≤ rows.length) (zs : List Value) (hz : m * s + zs.length ≤ c * s) : OwnG (w.setCells g (m * s) zs) base e s (.slice (some ⟨g, 0, none⟩) m c) (rows.take m) := by
  obtain ⟨rfl, hb, hn, hm, cur, hg, hs, ht⟩ := h.parts
  have hms : m * s ≤ rows.length * s := Nat.mul_le_mul_right _ hm'
  obtain ⟨cur', hg', ht'⟩ := heap_setCells_at zs w g (m * s) cur e (0, 0) hg (by omega)
  have hsz : cur'.size = c * s := by
    have := congrArg List.length ht'
    simp only [List.length_append, List.length_take, List.length_drop, Array.length_toList] at this
    omega
  have hl : (rows.take m).length = m := by simp; omega
  have := OwnG.make (w := w.setCells g (m * s) zs) (rows := rows.take m) hb (by omega) hm hg' hsz ?_ (fun r hr => h.2 r (List.mem_of_mem_take hr))
  · rwa [hl] at this
  · rw [hl, ht', ← flat_take rows m h.2, ← ht, List.take_take, Nat.min_eq_left hms, List.take_append, List.take_take, Nat.min_self, List.length_take, Array.length_toList, Nat.min_eq_left (by omega), Nat.sub_self]
    simp
theorem OwnG.prefix (h : OwnG w base e s (.slice (some ⟨g, 0, none⟩) n c) rows) (m : Nat) (hm' : m ≤ rows.length) : OwnG w base e s (.slice (some ⟨g, 0, none⟩) m c) (rows.take m) := by
  obtain ⟨rfl, hb, hn, hm, cur, hg, hs, ht⟩ := h.parts
  have := Nat.mul_le_mul_right s hn
  exact h.tail m hm' [] (by have := Nat.mul_le_mul_right s hm'; simp only [List.length_nil]; omega)
theorem OwnG.rangeAt (h : OwnG w base e s (.slice (some ⟨g, 0, none⟩) n c) rows) (j : Nat) (hj : j < rows.length) : w.rangeAt g (j * s) (rows.getD j []) := by
  intro i v hv
  have h1 := World.ownsRow.cells h.1 (g := g) rfl (j * s + i) v (flatten_at s rows j i v h.2 hj hv)
  rwa [addr_add] at h1
theorem OwnG.there (h : OwnG w base e s (.slice (some ⟨g, 0, none⟩) n c) rows) (o m : Nat) (hm : o + m ≤ c * s) : w.there g o m := by
  obtain ⟨rfl, hb, hn, _, cur, hg, hs, ht⟩ := h.parts
  intro i hi
  have hlt : o + i < cur.size := by omega
  refine ⟨?_, ?_⟩
  · simp [World.cell?, hg, hlt]
  · simp [World.frozen?, hg]
end

theorem zero_cells_mem (zc : Array Value) (n : Nat) (h : ∀ k, k < zc.size → (zc[k]!).oneCell' = true) : ∀ v ∈ (Builtin.zeroCells zc n).toList, v.oneCell' = true := by
  intro v hv
  unfold Builtin.zeroCells at hv
  simp only [Array.toList_map, List.mem_map, Array.mem_toList_iff, Array.mem_range] at hv
  obtain ⟨i, hi, rfl⟩ := hv
  refine h _ (Nat.mod_lt _ ?_)
  rcases Nat.eq_zero_or_pos zc.size with h0 | h0
  · rw [h0] at hi; simp at hi
  · exact h0
theorem zero_cells_len (zc : Array Value) (n : Nat) : (Builtin.zeroCells zc n).toList.length = n * zc.size := by simp [Builtin.zeroCells]
/-- 'clear(s)' of rows -/
theorem run_clear_rows {P : Program} (w : World) (t e ty : TypeId) (z : Value) (ht : P.underlying t = some (.slice e)) (hv : ∀ w, (zeroValue e).run P w = .ok z w) (h1 : ∀ k, k < z.cells.size → (z.cells[k]!).oneCell' = true) (b o n c : Nat) (hn : 0 < n)
    (hth : w.there b o (n * z.cells.size)) :
    (Builtin.clear_ #[t] ty #[.slice (some ⟨b, o, none⟩) n c]).run P w = .ok (.tuple #[]) (w.setCells b o (Builtin.zeroCells z.cells n).toList) := by
  have hl := zero_cells_len z.cells n
  have hst := run_storeCells_cells (P := P) b o (Builtin.zeroCells z.cells n).toList 0 w (fun j hj => by simpa using (hth j (by omega)).1) (fun j hj => by simpa using (hth j (by omega)).2) (zero_cells_mem _ _ h1)
  simp only [Nat.add_zero] at hst
  obtain ⟨m, rfl⟩ : ∃ m, n = m + 1 := ⟨n - 1, by omega⟩
  simp [Builtin.clear_, run_underlying ht, hv, hst]
theorem alloc_setCells (w : World) (Z : Array Value) (e : TypeId) (vs : List Value) (h : vs.length = Z.size) : (w.alloc (.cells Z e)).setCells w.heap.size 0 vs = w.alloc (.cells vs.toArray e) := by
  have key : ∀ (vs : List Value) (o : Nat) (Z : Array Value), o + vs.length = Z.size → (w.alloc (.cells Z e)).setCells w.heap.size o vs = w.alloc (.cells (Z.toList.take o ++ vs).toArray e) := by
    intro vs
    induction vs with
    | nil => intro o Z h; simp at h; rw [h]; show _ = _; simp only [World.setCells]; congr 2; simp; rw [List.take_of_length_le (by simp)]
    | cons v r ih =>
      intro o Z h
      simp only [List.length_cons] at h
      have e0 : (w.alloc (.cells Z e)).setCell ⟨w.heap.size, o, none⟩ v = w.alloc (.cells (Z.setIfInBounds o v) e) := by
        unfold World.setCell World.alloc
        simp only [World.mk.injEq, and_true]
        apply Array.ext_getElem?
        intro i
        rw [Array.getElem?_modify]
        by_cases hi : w.heap.size = i
        · subst hi; simp
        · rw [if_neg hi]
          rw [Array.getElem?_push, Array.getElem?_push, if_neg (Ne.symm hi), if_neg (Ne.symm hi)]
      show ((w.alloc (.cells Z e)).setCell ⟨w.heap.size, o, none⟩ v).setCells w.heap.size (o + 1) r = _
      rw [e0, ih (o + 1) _ (by simp; omega)]
      congr 3
      rw [toList_set, List.take_add_one, List.take_set_of_le (Nat.le_refl _), List.getElem?_set_self (by simp; omega)]
      simp
  have := key vs 0 Z (by omega)
  simpa using this
theorem OwnG.addr {P : Program} {t e : TypeId} {w : World} {base s g n c : Nat} {rows : List (List Value)} (h : OwnG w base e s (.slice (some ⟨g, 0, none⟩) n c) rows) (ht : P.underlying t = some (.slice e)) (hs : ∀ w, (sizeOf e).run P w = .ok s w) (j : Nat) (hj : j < rows.length) :
    ∀ w' (k : IntKind), (Instr.indexAt t (.slice (some ⟨g, 0, none⟩) n c) (.int k (j : Int))).run P w' = .ok (.pointer (some ⟨g, j * s, none⟩)) w' := by
  intro w' k
  have ht' : P.underlying t = some (.slice (P.elem t)) := by rw [ht]; simp [Program.elem, ht]
  have hel : P.elem t = e := by simp [Program.elem, ht]
  have := h.parts.1
  rw [run_indexAt_slice (h := ht'), if_pos (by omega), hel, hs]
  simp [Result.andThen, Addr.add]
  exact fun h => h.symm
theorem OwnG.from {P : Program} {t e : TypeId} {w : World} {base s g n c : Nat} {rows : List (List Value)} (h : OwnG w base e s (.slice (some ⟨g, 0, none⟩) n c) rows) (ht : P.underlying t = some (.slice e)) (hs : ∀ w, (sizeOf e).run P w = .ok s w) (lo : Nat) (hl : lo < rows.length) :
    ∀ w' (k : IntKind), (Instr.slice t (.slice (some ⟨g, 0, none⟩) n c) (some (.int k (lo : Int))) none none).run P w' = .ok (.slice (some ⟨g, lo * s, none⟩) (n - lo) (c - lo)) w' := by
  intro w' k
  have ht' : P.underlying t = some (.slice (P.elem t)) := by rw [ht]; simp [Program.elem, ht]
  have hel : P.elem t = e := by simp [Program.elem, ht]
  obtain ⟨h1, _, h2, _⟩ := h.parts
  rw [run_slice_l (l := (lo : Int)) (ht := ht') (h0 := by omega) (h1 := by omega), hel, hs]
  simp only [Result.andThen, sliced, Int.toNat_natCast]
  rw [if_neg (by omega)]
  simp [Addr.add]
  exact fun h => h.symm
theorem OwnG.to {P : Program} {t e : TypeId} {w : World} {base s g n c : Nat} {rows : List (List Value)} (h : OwnG w base e s (.slice (some ⟨g, 0, none⟩) n c) rows) (ht : P.underlying t = some (.slice e)) (hs : ∀ w, (sizeOf e).run P w = .ok s w) (hi : Nat) (hl : hi ≤ rows.length) :
    ∀ w' (k : IntKind), (Instr.slice t (.slice (some ⟨g, 0, none⟩) n c) none (some (.int k (hi : Int))) none).run P w' = .ok (.slice (some ⟨g, 0, none⟩) hi c) w' := by
  intro w' k
  have ht' : P.underlying t = some (.slice (P.elem t)) := by rw [ht]; simp [Program.elem, ht]
  have hel : P.elem t = e := by simp [Program.elem, ht]
  obtain ⟨h1, _, h2, _⟩ := h.parts
  rw [run_slice_h (h := (hi : Int)) (ht := ht') (h0 := by omega) (h2 := by omega), hel, hs]
  simp [Result.andThen, sliced, Addr.add]
/-- a store of a row given as a list -/
theorem wpList_store_list {P : Program} {ops : Array Oper} {rest : List Oper} {op : Oper} {a : Act} {w : World} {Q : Exit → Act → World → Prop} (hgd : op.guard = none) (ty : TypeId) (x y : Operand) (ho : op.op = .store ty x y)
    (b o : Nat) (cs : List Value) (hx : a.eval x = .pointer (some ⟨b, o, none⟩)) (hy : a.eval y = .agg cs.toArray) (ht : w.there b o cs.length) (hi : (P.info? ty).map (·.size) = some cs.length) (h1 : ∀ v ∈ cs, v.oneCell' = true)
    (h : wpList P ops Q rest (a.put op.dst undef) (w.setCells b o cs)) : wpList P ops Q (op :: rest) a w := by
  refine wpList_store_mid hgd ty x y ho b o cs.toArray hx hy (by simpa using ht) (by simpa using hi) (all_oneCell_toArray h1) ?_
  rw [show cs.toArray.toList = cs by simp]; exact h
/-- a store into a block just made -/
theorem wpList_store_new {P : Program} {ops : Array Oper} {rest : List Oper} {op : Oper} {a : Act} (w : World) {Q : Exit → Act → World → Prop} (hgd : op.guard = none) (ty : TypeId) (x y : Operand) (ho : op.op = .store ty x y) (Z : Array Value) (e : TypeId)
    (cs : List Value) (hx : a.eval x = .pointer (some ⟨w.heap.size, 0, none⟩)) (hy : a.eval y = .agg cs.toArray) (hZ : cs.length = Z.size) (hi : (P.info? ty).map (·.size) = some cs.length) (h1 : ∀ v ∈ cs, v.oneCell' = true)
    (h : wpList P ops Q rest (a.put op.dst undef) (w.alloc (.cells cs.toArray e))) : wpList P ops Q (op :: rest) a (w.alloc (.cells Z e)) := by
  refine wpList_store_mid hgd ty x y ho w.heap.size 0 cs.toArray hx hy ?_ (by simpa using hi) (all_oneCell_toArray h1) ?_
  · intro j hj
    have hj' : j < Z.size := by simpa [hZ] using hj
    have hn := alloc_new w (.cells Z e)
    refine ⟨?_, ?_⟩
    · rw [World.cell?_alloc_at Z e w.heap.size (0 + j) rfl]; simp [hj']
    · simp only [World.frozen?, hn]; simp
  · rw [show cs.toArray.toList = cs by simp, alloc_setCells w Z e cs hZ]; exact h
end Go.Mx
