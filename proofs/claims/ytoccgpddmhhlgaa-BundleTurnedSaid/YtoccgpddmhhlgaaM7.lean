import Derived.Test.YtoccgpddmhhlgaaS
import Derived.Deep.RegionHeld3
namespace Go.Mx
open Go.RowKit
set_option linter.unusedSimpArgs false
set_option linter.unusedVariables false

/-- rows of s cells each that the call owns, in a block at or above base -/
def OwnG (w : World) (base : Nat) (e : TypeId) (s : Nat) (v : Value) (rows : List (List Value)) : Prop := w.ownsRow base e s v rows.length rows.flatten ∧ ∀ r ∈ rows, r.length = s

theorem OwnG.nil (w : World) (base : Nat) (e : TypeId) (s : Nat) : OwnG w base e s (.slice none 0 0) [] := ⟨World.ownsRow_nil w base e s, by simp⟩
section
variable {w w' : World} {base : Nat} {e : TypeId} {s : Nat} {v : Value} {rows : List (List Value)}
theorem OwnG.slG (h : OwnG w base e s v rows) : SlG w w.heap.size s v rows := ownsRow_slG h.1 h.2
theorem OwnG.lt (h : OwnG w base e s v rows) : ∀ k, v.ownBlock = some k → k < w.heap.size := fun k hk => (World.ownsRow.lt h.1 k hk).2
theorem OwnG.ge (h : OwnG w base e s v rows) : ∀ k, v.ownBlock = some k → base ≤ k := fun k hk => (World.ownsRow.lt h.1 k hk).1
theorem OwnG.kept {N : Nat → Prop} (h : OwnG w base e s v rows) (hk : Kept w w' N) (hv : ∀ k, v.ownBlock = some k → N k) : OwnG w' base e s v rows := ⟨ownsRow_kept h.1 hk hv, h.2⟩
theorem OwnG.below {B : Nat} (h : OwnG w base e s v rows) (hb : Below B w w') (hB : w.heap.size ≤ B) : OwnG w' base e s v rows :=
  h.kept (.of_below hb fun k hk _ => Nat.lt_of_lt_of_le hk hB : Kept w w' fun _ => True) fun _ _ => trivial
theorem OwnG.any_base {base' : Nat} (h : OwnG w base e s v rows) (hb : base' ≤ base) : OwnG w base' e s v rows := by
  refine ⟨⟨h.1.1, ?_⟩, h.2⟩
  rcases h.1.2 with hn | ⟨g, cap, cur, rfl, hbg, rest⟩
  · exact .inl hn
  · exact .inr ⟨g, cap, cur, rfl, by omega, rest⟩
theorem OwnG.shape (h : OwnG w base e s v rows) : (v = .slice none 0 0 ∧ rows = []) ∨ ∃ g cap, v = .slice (some ⟨g, 0, none⟩) rows.length cap ∧ base ≤ g ∧ g < w.heap.size := by
  have hl := h.lt
  rcases h.1.2 with ⟨h1, h2⟩ | ⟨g, cap, cur, rfl, hbg, rest⟩
  · exact .inl ⟨h1, List.eq_nil_of_length_eq_zero h2⟩
  · exact .inr ⟨g, cap, rfl, hbg, hl g rfl⟩
end
theorem addr_add (g j : Nat) : (⟨g, 0, none⟩ : Addr).add j = ⟨g, j, none⟩ := by unfold Addr.add; split <;> simp_all
/-- 'append(out, x)' of one row -/
theorem append_g {P : Program} (w : World) {ops : Array Oper} {rest : List Oper} {o : Oper} {a : Act} {Q : Exit → Act → World → Prop} (hgd : o.guard = none) (s x : Operand) (t e : TypeId) (z : Value) (sz bytes : Nat)
    (ho : o.op = .call { callee := .builtin .append, args := #[s, x], argTypes := #[t, t] })
    (ht : P.underlying t = some (.slice e)) (hi : (P.info? e).map (fun i => (i.zero, i.size, i.bytes)) = some (some z, sz, bytes)) (hz : z.cells.size = sz) (hsz : 0 < sz)
    (base : Nat) (v : Value) (rows : List (List Value)) (hs : a.eval s = v) (hown : OwnG w base e sz v rows) (g c : Nat) (row : List Value) (hx : a.eval x = .slice (some ⟨g, 0, none⟩) 1 c)
    (hl : row.length = sz) (hcell : ∀ j u, row[j]? = some u → w.cell? ⟨g, j, none⟩ = some u) (hone : ∀ u ∈ row, u.oneCell' = true)
    (hlen : (rows.length + 1) * bytes ≤ 140737488355328) (hlen2 : rows.length + 1 ≤ 140737488355328) (hB : base ≤ w.heap.size)
    (h : ∀ v' w', OwnG w' base e sz v' (rows ++ [row]) → w.grownBy w' v.ownBlock → Below base w w' → wpList P ops Q rest (a.put o.dst v') w') : wpList P ops Q (o :: rest) a w := by
  obtain ⟨i0, hi0, hz0, hz1, hz2⟩ := info_parts hi
  refine wpList_append_own w hgd s x t ho base e i0 _ sz bytes ht hi0 hz0 hz1 hz2 hz hsz v rows.length _ hs hown.1 ⟨g, 0, none⟩ 1 c row hx (by omega) ?_ hone ?_ hlen hB ?_
  · intro j u hj
    rw [addr_add]; exact hcell j u hj
  · unfold maxLen; omega
  · intro v' w' ho' hg' _
    refine h v' w' ⟨by simpa using ho', ?_⟩ hg' ((Below.refl base w).grown hg' hB (fun k hk => (World.ownsRow.lt hown.1 k hk).1))
    intro r hr
    rcases List.mem_append.1 hr with hr | hr
    · exact hown.2 r hr
    · simp at hr; rw [hr]; exact hl
/-- the same at one operation (for drawn regions) -/
theorem op_append_g {P : Program} (w : World) {o : Oper} {a : Act} {K : Act → World → Prop} {Q : Exit → Act → World → Prop} (s x : Operand) (t e : TypeId) (z : Value) (sz bytes : Nat)
    (ho : o.op = .call { callee := .builtin .append, args := #[s, x], argTypes := #[t, t] })
    (ht : P.underlying t = some (.slice e)) (hi : (P.info? e).map (fun i => (i.zero, i.size, i.bytes)) = some (some z, sz, bytes)) (hz : z.cells.size = sz) (hsz : 0 < sz)
    (base : Nat) (v : Value) (rows : List (List Value)) (hs : a.eval s = v) (hown : OwnG w base e sz v rows) (g c : Nat) (row : List Value) (hx : a.eval x = .slice (some ⟨g, 0, none⟩) 1 c)
    (hl : row.length = sz) (hcell : ∀ j u, row[j]? = some u → w.cell? ⟨g, j, none⟩ = some u) (hone : ∀ u ∈ row, u.oneCell' = true)
    (hlen : (rows.length + 1) * bytes ≤ 140737488355328) (hlen2 : rows.length + 1 ≤ 140737488355328) (hB : base ≤ w.heap.size)
    (h : ∀ v' w', OwnG w' base e sz v' (rows ++ [row]) → w.grownBy w' v.ownBlock → Below base w w' → K (a.put o.dst v') w') : o.wp P a w K Q := by
  obtain ⟨i0, hi0, hz0, hz1, hz2⟩ := info_parts hi
  refine wp_append_own w s x t ho base e i0 _ sz bytes ht hi0 hz0 hz1 hz2 hz hsz v rows.length _ hs hown.1 ⟨g, 0, none⟩ 1 c row hx (by omega) ?_ hone ?_ hlen hB ?_
  · intro j u hj
    rw [addr_add]; exact hcell j u hj
  · unfold maxLen; omega
  · intro v' w' ho' hg' _
    refine h v' w' ⟨by simpa using ho', ?_⟩ hg' ((Below.refl base w).grown hg' hB (fun k hk => (World.ownsRow.lt hown.1 k hk).1))
    intro r hr
    rcases List.mem_append.1 hr with hr | hr
    · exact hown.2 r hr
    · simp at hr; rw [hr]; exact hl
/-- the same in a drawn region walked by go_region_held3 -/
theorem step_append_g {P : Program} (w : World) {ops : Array Oper} {o : Oper} {a : Act} {K : Act → World → Prop} {Q : Exit → Act → World → Prop} {E : Prop} (hgd : o.guard = none) (s x : Operand) (t e : TypeId) (z : Value) (sz bytes : Nat)
    (ho : o.op = .call { callee := .builtin .append, args := #[s, x], argTypes := #[t, t] })
    (ht : P.underlying t = some (.slice e)) (hi : (P.info? e).map (fun i => (i.zero, i.size, i.bytes)) = some (some z, sz, bytes)) (hz : z.cells.size = sz) (hsz : 0 < sz)
    (base : Nat) (v : Value) (rows : List (List Value)) (hs : a.eval s = v) (hown : OwnG w base e sz v rows) (g c : Nat) (row : List Value) (hx : a.eval x = .slice (some ⟨g, 0, none⟩) 1 c)
    (hl : row.length = sz) (hcell : ∀ j u, row[j]? = some u → w.cell? ⟨g, j, none⟩ = some u) (hone : ∀ u ∈ row, u.oneCell' = true)
    (hlen : (rows.length + 1) * bytes ≤ 140737488355328) (hlen2 : rows.length + 1 ≤ 140737488355328) (hB : base ≤ w.heap.size)
    (h : ∀ v' w', OwnG w' base e sz v' (rows ++ [row]) → w.grownBy w' v.ownBlock → Below base w w' → K (a.put o.dst v') w') : if Region.wanted o (yielded ops a.tmps) = true then Oper.wp P o a w K Q else E := by
  have hw : Region.wanted o (yielded ops a.tmps) = true := by simp [Region.wanted, hgd]
  rw [if_pos hw]
  exact op_append_g w s x t e z sz bytes ho ht hi hz hsz base v rows hs hown g c row hx hl hcell hone hlen hlen2 hB h
end Go.Mx
