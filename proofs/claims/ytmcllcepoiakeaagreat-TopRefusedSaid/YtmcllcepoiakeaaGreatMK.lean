import Derived.Test.YtmcllcepoiakeaaGreatMM
import Derived.Test.YtmcllcepoiakeaaGreatO
import Derived.Below
import Derived.Deep.RegionHeld3
set_option linter.unusedSimpArgs false
set_option linter.unusedVariables false
namespace Go.Mx
open Go.RowKit
/-- all old blocks of a kind are as they were -/
structure Kept (w w' : World) (N : Nat → Prop) : Prop where
  size : w.heap.size ≤ w'.heap.size
  block : ∀ k, k < w.heap.size → N k → w'.heap[k]? = w.heap[k]?
theorem Kept.cell {w w' : World} {N : Nat → Prop} (h : Kept w w' N) {b o : Nat} (hb : b < w.heap.size) (hn : N b) : w'.cell? ⟨b, o, none⟩ = w.cell? ⟨b, o, none⟩ :=
  World.cell?_of_block (h.block b hb hn)
theorem Kept.trans {a b c : World} {N : Nat → Prop} (h : Kept a b N) (k : Kept b c N) : Kept a c N :=
  ⟨Nat.le_trans h.size k.size, fun i hi hn => (k.block i (Nat.lt_of_lt_of_le hi h.size) hn).trans (h.block i hi hn)⟩
theorem Kept.of_below {w w' : World} {B : Nat} {N : Nat → Prop} (h : Below B w w') (hN : ∀ k, k < w.heap.size → N k → k < B) : Kept w w' N := ⟨h.size, fun k hk hn => h.block k (hN k hk hn)⟩
theorem Kept.set (w : World) (b o : Nat) (v : Value) {N : Nat → Prop} (hn : ¬ N b) : Kept w (w.setCell ⟨b, o, none⟩ v) N :=
  ⟨by simp, fun k _ hk => Below.heap_setCell w ⟨b, o, none⟩ v k (fun e => hn (by subst e; exact hk))⟩
theorem Kept.grown {w w' : World} {r : Option Nat} {N : Nat → Prop} (h : w.grownBy w' r) (hn : ∀ k, r = some k → ¬ N k) : Kept w w' N :=
  ⟨h.size, fun k hk hN => h.block k hk (fun e => hn k e.symm hN)⟩
theorem Kept.drew (w : World) (N : Nat → Prop) : Kept w w.drew N := ⟨Nat.le_refl _, fun _ _ _ => rfl⟩
theorem Kept.alloc (w : World) (o : Obj) (N : Nat → Prop) : Kept w (w.alloc o) N := .of_below ((Below.refl w.heap.size w).alloc (Nat.le_refl _) o) fun _ h _ => h
/-- 'append(out, xs...)' as append_sl, and which block alone is written -/
theorem append_slg {P : Program} (w : World) {ops : Array Oper} {rest : List Oper} {o : Oper} {a : Act} {Q : Exit → Act → World → Prop} (hgd : o.guard = none) (s x : Operand) (t e : TypeId)
    (ho : o.op = .call { callee := .builtin .append, args := #[s, x], argTypes := #[t, t] })
    (ht : P.underlying t = some (.slice e)) (hi : (P.info? e).map (fun i => (i.zero, i.size, i.bytes)) = some (some (.int .u8 0), 1, 1))
    (base : Nat) (v : Value) (l : List UInt8) (hs : a.eval s = v) (hown : OwnB w base e v l) (xv : Value) (bs : List UInt8) (B : Nat) (hx : a.eval x = xv) (hsl : SlB w B xv bs)
    (hlen : l.length + bs.length ≤ 140737488355328) (hB : base ≤ w.heap.size)
    (h : ∀ v' w', OwnB w' base e v' (l ++ bs) → w.grownBy w' v.ownBlock → wpList P ops Q rest (a.put o.dst v') w') : wpList P ops Q (o :: rest) a w := by
  obtain ⟨i0, hi0, hz0, hz1, hz2⟩ := info_parts hi
  obtain ⟨oa, cap, rfl, h1, h2, h3⟩ := hsl
  cases oa with
  | none =>
    have hb : bs = [] := by
      cases bs with
      | nil => rfl
      | cons y r => obtain ⟨_, _, hh, _⟩ := h3 (by simp); cases hh
    subst hb
    refine wpList_plain hgd fun K hK => ?_
    have hrun := run_append_nosrc (P := P) (w := w) (ty := o.type) ht hi0 hown cap
    unfold Oper.wp
    simp [execOp, ho, resolve, invoke, builtin, hs, hx, hrun, Result.andThen]
    exact hK _ _ (h v w (by simpa using hown) (World.grownBy.refl w _))
  | some ad =>
    refine wpList_append_own w hgd s x t ho base e i0 _ 1 1 ht hi0 hz0 hz1 hz2 rfl (by decide) v l.length _ hs hown ad bs.length cap (bs.map u8) hx (by simp) ?_ ?_ ?_ ?_ hB ?_
    · intro j u hj
      simp only [List.getElem?_map] at hj
      cases hb : bs[j]? with
      | none => rw [hb] at hj; cases hj
      | some y =>
        rw [hb] at hj
        simp only [Option.map_some, Option.some.injEq] at hj
        subst hj
        have hjl : j < bs.length := (List.getElem?_eq_some_iff.1 hb).1
        obtain ⟨bb, bo, hh, _, hr⟩ := h3 (by rintro rfl; simp at hjl)
        cases hh
        have e : (⟨bb, bo, none⟩ : Addr).add j = ⟨bb, bo + j, none⟩ := by unfold Addr.add; split <;> simp_all
        rw [e, hr j hjl, List.getD_eq_getElem?_getD, hb]
        rfl
    · intro u hu; simp at hu; obtain ⟨y, _, rfl⟩ := hu; rfl
    · unfold maxLen; omega
    · omega
    · intro v' w' ho' hg' _
      exact h v' w' (by unfold OwnB; simpa using ho') hg'
theorem SlB.kept {w w' : World} {N : Nat → Prop} {B : Nat} {v : Value} {bs : List UInt8} (h : SlB w B v bs) (hB : B ≤ w.heap.size) (hk : Kept w w' N) (hN : ∀ k, k < B → N k) : SlB w' B v bs := by
  obtain ⟨oa, cap, rfl, h1, h2, h3⟩ := h
  refine ⟨oa, cap, rfl, h1, h2, fun hn => ?_⟩
  obtain ⟨bb, bo, rfl, hl, hr⟩ := h3 hn
  exact ⟨bb, bo, rfl, hl, fun i hi => (hk.cell (by omega) (hN bb hl)).trans (hr i hi)⟩
theorem OwnB.sl_kept {w w' : World} {N : Nat → Prop} {base : Nat} {e : TypeId} {v : Value} {bs : List UInt8} (h : OwnB w base e v bs) (hk : Kept w w' N) (hN : ∀ k, base ≤ k → k < w.heap.size → N k) : SlB w' w.heap.size v bs := by
  rcases h.shape with ⟨rfl, rfl⟩ | ⟨g, cap, rfl, h1, h2, h3, h4, h5⟩
  · exact SlB.nil _ _
  · exact ⟨_, cap, rfl, h3, h4, fun _ => ⟨g, 0, rfl, h2, fun i hi => (hk.cell h2 (hN g h1 h2)).trans (h5 i hi)⟩⟩
theorem OwnB.kept {w w' : World} {N : Nat → Prop} {base : Nat} {e : TypeId} {v : Value} {l : List UInt8} (h : OwnB w base e v l) (hk : Kept w w' N) (hv : ∀ k, v.ownBlock = some k → N k) : OwnB w' base e v l := by
  have hlt := h.lt
  refine ⟨h.1, ?_⟩
  rcases h.2 with hn | ⟨g, cap, cur, rfl, hbg, hgg, rest⟩
  · exact .inl hn
  · exact .inr ⟨g, cap, cur, rfl, hbg, by rw [hk.block g (hlt g rfl) (hv g rfl)]; exact hgg, rest⟩
theorem OwnB.not_block {w : World} {base : Nat} {e t : TypeId} {v : Value} {l : List UInt8} (h : OwnB w base e v l) {q : Nat} {c : Array Value} {f : Nat × Nat} (hq : w.heap[q]? = some (.cells c t f)) (ht : t ≠ e) : v.ownBlock ≠ some q := by
  intro hv
  rcases h.2 with ⟨rfl, _⟩ | ⟨g, cap, cur, rfl, hbg, hgg, rest⟩
  · cases hv
  · cases hv
    rw [hgg] at hq
    simp only [Option.some.injEq, Obj.cells.injEq] at hq
    exact ht hq.2.1.symm
theorem ownsRow_kept {w w' : World} {N : Nat → Prop} {base s n : Nat} {e : TypeId} {v : Value} {xs : List Value} (h : w.ownsRow base e s v n xs) (hk : Kept w w' N) (hv : ∀ k, v.ownBlock = some k → N k) : w'.ownsRow base e s v n xs := by
  have hlt := fun k hk => (World.ownsRow.lt h k hk).2
  refine ⟨h.1, ?_⟩
  rcases h.2 with hn | ⟨g, cap, cur, rfl, hbg, hgg, rest⟩
  · exact .inl hn
  · exact .inr ⟨g, cap, cur, rfl, hbg, by rw [hk.block g (hlt g rfl) (hv g rfl)]; exact hgg, rest⟩
theorem ownsRow_not {w : World} {base s n : Nat} {e t : TypeId} {v : Value} {xs : List Value} (h : w.ownsRow base e s v n xs) {q : Nat} {c : Array Value} {f : Nat × Nat} (hq : w.heap[q]? = some (.cells c t f)) (ht : t ≠ e) : v.ownBlock ≠ some q := by
  intro hv
  rcases h.2 with ⟨rfl, _⟩ | ⟨g, cap, cur, rfl, hbg, hgg, rest⟩
  · cases hv
  · cases hv
    rw [hgg] at hq
    simp only [Option.some.injEq, Obj.cells.injEq] at hq
    exact ht hq.2.1.symm
theorem ownsRow_apart {w : World} {b1 b2 s1 s2 n1 n2 : Nat} {e1 e2 : TypeId} {v1 v2 : Value} {xs1 xs2 : List Value} (h1 : w.ownsRow b1 e1 s1 v1 n1 xs1) (h2 : w.ownsRow b2 e2 s2 v2 n2 xs2) (ht : e1 ≠ e2) : ∀ k, v1.ownBlock = some k → v2.ownBlock ≠ some k := by
  intro k hk
  rcases h1.2 with ⟨rfl, _⟩ | ⟨g, cap, cur, rfl, hbg, hgg, rest⟩
  · cases hk
  · cases hk
    exact ownsRow_not h2 hgg ht
/-- 'append(out, x)' of one int, and which block alone is written -/
theorem append_intg {P : Program} (w : World) {ops : Array Oper} {rest : List Oper} {o : Oper} {a : Act} {Q : Exit → Act → World → Prop} (hgd : o.guard = none) (s x : Operand) (t : TypeId)
    (ho : o.op = .call { callee := .builtin .append, args := #[s, x], argTypes := #[t, t] })
    (ht : P.underlying t = some (.slice 3)) (hi : (P.info? 3).map (fun i => (i.zero, i.size, i.bytes)) = some (some (.int .i64 0), 1, 8))
    (base : Nat) (v : Value) (l : List Int) (n : Int) (hs : a.eval s = v) (hown : OwnI w base v l) (g c : Nat) (hx : a.eval x = .slice (some ⟨g, 0, none⟩) 1 c)
    (hcell : w.cell? ⟨g, 0, none⟩ = some (.int .i64 n)) (hlen : l.length ≤ 1000000000) (hB : base ≤ w.heap.size)
    (h : ∀ v' w', OwnI w' base v' (l ++ [n]) → w.grownBy w' v.ownBlock → wpList P ops Q rest (a.put o.dst v') w') : wpList P ops Q (o :: rest) a w := by
  obtain ⟨i0, hi0, hz0, hz1, hz2⟩ := info_parts hi
  have hown' : w.ownsRow base 3 1 v l.length (l.map (.int .i64)) := by have := hown; unfold OwnI OwnV at this; simpa using this
  refine wpList_append_own w hgd s x t ho base 3 i0 _ 1 8 ht hi0 hz0 hz1 hz2 rfl (by decide) v l.length _ hs hown' ⟨g, 0, none⟩ 1 c [.int .i64 n] hx rfl ?_ ?_ ?_ ?_ hB ?_
  · intro j y hj
    match j, hj with
    | 0, hj => simp at hj; subst hj; simpa [Addr.add] using hcell
  · intro y hy; simp at hy; subst hy; rfl
  · unfold maxLen; omega
  · omega
  · intro v' w' ho' hg' _
    exact h v' w' (by unfold OwnI OwnV; simpa using ho') hg'
/-- rows of s cells each that the call owns, in a block at or above base -/
def OwnG (w : World) (base : Nat) (e : TypeId) (s : Nat) (v : Value) (rows : List (List Value)) : Prop := w.ownsRow base e s v rows.length rows.flatten ∧ ∀ r ∈ rows, r.length = s
theorem OwnG.nil (w : World) (base : Nat) (e : TypeId) (s : Nat) : OwnG w base e s (.slice none 0 0) [] := ⟨World.ownsRow_nil w base e s, by simp⟩
section
variable {w w' : World} {base : Nat} {e : TypeId} {s : Nat} {v : Value} {rows : List (List Value)}
theorem OwnG.slG (h : OwnG w base e s v rows) : SlG w w.heap.size s v rows := ownsRow_slG h.1 h.2
theorem OwnG.lt (h : OwnG w base e s v rows) : ∀ k, v.ownBlock = some k → k < w.heap.size := fun k hk => (World.ownsRow.lt h.1 k hk).2
theorem OwnG.ge (h : OwnG w base e s v rows) : ∀ k, v.ownBlock = some k → base ≤ k := fun k hk => (World.ownsRow.lt h.1 k hk).1
theorem OwnG.kept {N : Nat → Prop} (h : OwnG w base e s v rows) (hk : Kept w w' N) (hv : ∀ k, v.ownBlock = some k → N k) : OwnG w' base e s v rows := ⟨ownsRow_kept h.1 hk hv, h.2⟩
theorem OwnG.below {B : Nat} (h : OwnG w base e s v rows) (hb : Below B w w') (hB : w.heap.size ≤ B) : OwnG w' base e s v rows :=
  h.kept (.of_below hb fun k hk _ => Nat.lt_of_lt_of_le hk hB : Kept w w' fun _ => True) fun _ _ => trivial
theorem OwnG.any_base {base' : Nat} (h : OwnG w base e s v rows) (hb : base' ≤ base) : OwnG w base' e s v rows := by
  refine ⟨⟨h.1.1, ?_⟩, h.2⟩
  rcases h.1.2 with hn | ⟨g, cap, cur, rfl, hbg, rest⟩
  · exact .inl hn
  · exact .inr ⟨g, cap, cur, rfl, by omega, rest⟩
theorem OwnG.shape (h : OwnG w base e s v rows) : (v = .slice none 0 0 ∧ rows = []) ∨ ∃ g cap, v = .slice (some ⟨g, 0, none⟩) rows.length cap ∧ base ≤ g ∧ g < w.heap.size := by
  have hl := h.lt
  rcases h.1.2 with ⟨h1, h2⟩ | ⟨g, cap, cur, rfl, hbg, rest⟩
  · exact .inl ⟨h1, List.eq_nil_of_length_eq_zero h2⟩
  · exact .inr ⟨g, cap, rfl, hbg, hl g rfl⟩
end
theorem addr_add (g j : Nat) : (⟨g, 0, none⟩ : Addr).add j = ⟨g, j, none⟩ := by unfold Addr.add; split <;> simp_all
/-- 'append(out, x)' of one row -/
theorem append_g {P : Program} (w : World) {ops : Array Oper} {rest : List Oper} {o : Oper} {a : Act} {Q : Exit → Act → World → Prop} (hgd : o.guard = none) (s x : Operand) (t e : TypeId) (z : Value) (sz bytes : Nat)
    (ho : o.op = .call { callee := .builtin .append, args := #[s, x], argTypes := #[t, t] })
    (ht : P.underlying t = some (.slice e)) (hi : (P.info? e).map (fun i => (i.zero, i.size, i.bytes)) = some (some z, sz, bytes)) (hz : z.cells.size = sz) (hsz : 0 < sz)
    (base : Nat) (v : Value) (rows : List (List Value)) (hs : a.eval s = v) (hown : OwnG w base e sz v rows) (g c : Nat) (row : List Value) (hx : a.eval x = .slice (some ⟨g, 0, none⟩) 1 c)
    (hl : row.length = sz) (hcell : ∀ j u, row[j]? = some u → w.cell? ⟨g, j, none⟩ = some u) (hone : ∀ u ∈ row, u.oneCell' = true)
    (hlen : (rows.length + 1) * bytes ≤ 140737488355328) (hlen2 : rows.length + 1 ≤ 140737488355328) (hB : base ≤ w.heap.size)
    (h : ∀ v' w', OwnG w' base e sz v' (rows ++ [row]) → w.grownBy w' v.ownBlock → Below base w w' → wpList P ops Q rest (a.put o.dst v') w') : wpList P ops Q (o :: rest) a w := by
  obtain ⟨i0, hi0, hz0, hz1, hz2⟩ := info_parts hi
  refine wpList_append_own w hgd s x t ho base e i0 _ sz bytes ht hi0 hz0 hz1 hz2 hz hsz v rows.length _ hs hown.1 ⟨g, 0, none⟩ 1 c row hx (by omega) ?_ hone ?_ hlen hB ?_
  · intro j u hj
    rw [addr_add]; exact hcell j u hj
  · unfold maxLen; omega
  · intro v' w' ho' hg' _
    refine h v' w' ⟨by simpa using ho', ?_⟩ hg' ((Below.refl base w).grown hg' hB (fun k hk => (World.ownsRow.lt hown.1 k hk).1))
    intro r hr
    rcases List.mem_append.1 hr with hr | hr
    · exact hown.2 r hr
    · simp at hr; rw [hr]; exact hl
/-- the same at one operation (for drawn regions) -/
theorem op_append_g {P : Program} (w : World) {o : Oper} {a : Act} {K : Act → World → Prop} {Q : Exit → Act → World → Prop} (s x : Operand) (t e : TypeId) (z : Value) (sz bytes : Nat)
    (ho : o.op = .call { callee := .builtin .append, args := #[s, x], argTypes := #[t, t] })
    (ht : P.underlying t = some (.slice e)) (hi : (P.info? e).map (fun i => (i.zero, i.size, i.bytes)) = some (some z, sz, bytes)) (hz : z.cells.size = sz) (hsz : 0 < sz)
    (base : Nat) (v : Value) (rows : List (List Value)) (hs : a.eval s = v) (hown : OwnG w base e sz v rows) (g c : Nat) (row : List Value) (hx : a.eval x = .slice (some ⟨g, 0, none⟩) 1 c)
    (hl : row.length = sz) (hcell : ∀ j u, row[j]? = some u → w.cell? ⟨g, j, none⟩ = some u) (hone : ∀ u ∈ row, u.oneCell' = true)
    (hlen : (rows.length + 1) * bytes ≤ 140737488355328) (hlen2 : rows.length + 1 ≤ 140737488355328) (hB : base ≤ w.heap.size)
    (h : ∀ v' w', OwnG w' base e sz v' (rows ++ [row]) → w.grownBy w' v.ownBlock → Below base w w' → K (a.put o.dst v') w') : o.wp P a w K Q := by
  obtain ⟨i0, hi0, hz0, hz1, hz2⟩ := info_parts hi
  refine wp_append_own w s x t ho base e i0 _ sz bytes ht hi0 hz0 hz1 hz2 hz hsz v rows.length _ hs hown.1 ⟨g, 0, none⟩ 1 c row hx (by omega) ?_ hone ?_ hlen hB ?_
  · intro j u hj
    rw [addr_add]; exact hcell j u hj
  · unfold maxLen; omega
  · intro v' w' ho' hg' _
    refine h v' w' ⟨by simpa using ho', ?_⟩ hg' ((Below.refl base w).grown hg' hB (fun k hk => (World.ownsRow.lt hown.1 k hk).1))
    intro r hr
    rcases List.mem_append.1 hr with hr | hr
    · exact hown.2 r hr
    · simp at hr; rw [hr]; exact hl
/-- the same in a drawn region walked by go_region_held3 -/
theorem step_append_g {P : Program} (w : World) {ops : Array Oper} {o : Oper} {a : Act} {K : Act → World → Prop} {Q : Exit → Act → World → Prop} {E : Prop} (hgd : o.guard = none) (s x : Operand) (t e : TypeId) (z : Value) (sz bytes : Nat)
    (ho : o.op = .call { callee := .builtin .append, args := #[s, x], argTypes := #[t, t] })
    (ht : P.underlying t = some (.slice e)) (hi : (P.info? e).map (fun i => (i.zero, i.size, i.bytes)) = some (some z, sz, bytes)) (hz : z.cells.size = sz) (hsz : 0 < sz)
    (base : Nat) (v : Value) (rows : List (List Value)) (hs : a.eval s = v) (hown : OwnG w base e sz v rows) (g c : Nat) (row : List Value) (hx : a.eval x = .slice (some ⟨g, 0, none⟩) 1 c)
    (hl : row.length = sz) (hcell : ∀ j u, row[j]? = some u → w.cell? ⟨g, j, none⟩ = some u) (hone : ∀ u ∈ row, u.oneCell' = true)
    (hlen : (rows.length + 1) * bytes ≤ 140737488355328) (hlen2 : rows.length + 1 ≤ 140737488355328) (hB : base ≤ w.heap.size)
    (h : ∀ v' w', OwnG w' base e sz v' (rows ++ [row]) → w.grownBy w' v.ownBlock → Below base w w' → K (a.put o.dst v') w') : if Region.wanted o (yielded ops a.tmps) = true then Oper.wp P o a w K Q else E := by
  have hw : Region.wanted o (yielded ops a.tmps) = true := by simp [Region.wanted, hgd]
  rw [if_pos hw]
  exact op_append_g w s x t e z sz bytes ho ht hi hz hsz base v rows hs hown g c row hx hl hcell hone hlen hlen2 hB h
theorem alloc_new (w : World) (o : Obj) : (w.alloc o).heap[w.heap.size]? = some o := by show (w.heap.push o)[w.heap.size]? = some o; simp
theorem blk_lt {w : World} {b : Nat} {o : Obj} (h : w.heap[b]? = some o) : b < w.heap.size := (Array.getElem?_eq_some_iff.1 h).1
theorem blk_ne {w : World} {b b' : Nat} {c c' : Array Value} {t t' : TypeId} {fr fr' : Nat × Nat} (h : w.heap[b]? = some (.cells c t fr)) (h' : w.heap[b']? = some (.cells c' t' fr')) (ht : t ≠ t') : b ≠ b' := by
  rintro rfl; rw [h] at h'; simp only [Option.some.injEq, Obj.cells.injEq] at h'; exact ht h'.2.1
theorem slB_shape {w : World} {B : Nat} {v : Value} {bs : List UInt8} (h : SlB w B v bs) : ∃ oa n c, v = .slice oa n c := by obtain ⟨oa, c, rfl, _⟩ := h; exact ⟨_, _, _, rfl⟩
theorem row_cells (w : World) (row : List Value) (e : TypeId) : ∀ j u, row[j]? = some u → (w.alloc (.cells row.toArray e)).cell? ⟨w.heap.size, j, none⟩ = some u := by
  intro j u hj
  have := alloc_new w (.cells row.toArray e)
  simp only [World.cell?, this]; simpa using hj
end Go.Mx
