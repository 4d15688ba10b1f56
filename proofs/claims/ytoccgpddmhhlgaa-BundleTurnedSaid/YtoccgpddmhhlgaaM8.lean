import Derived.Test.YtoccgpddmhhlgaaM7
namespace Go.Mx
open Go.RowKit
set_option linter.unusedSimpArgs false
set_option linter.unusedVariables false

/-- bytes that may be appended to: one's own, or a full slice that is only read -/
def AppB (w : World) (base : Nat) (e : TypeId) (v : Value) (l : List UInt8) : Prop := OwnB w base e v l ∨ ((∃ a, v = .slice (some a) l.length l.length) ∧ l ≠ [] ∧ SlB w w.heap.size v l)
section
variable {w w' : World} {base : Nat} {e : TypeId} {v : Value} {l : List UInt8}
theorem AppB.slB (h : AppB w base e v l) : SlB w w.heap.size v l := by
  rcases h with h | ⟨_, _, h⟩
  · exact h.slB
  · exact h
theorem AppB.below (h : AppB w base e v l) (hb : Below w.heap.size w w') : AppB w' base e v l := by
  rcases h with h | ⟨h1, h2, h3⟩
  · exact .inl (h.below hb h.lt)
  · exact .inr ⟨h1, h2, (h3.below hb (Nat.le_refl _)).mono hb.size⟩
theorem AppB.lt (h : AppB w base e v l) : ∀ k, v.ownBlock = some k → k < w.heap.size := by
  rcases h with h | ⟨⟨a, rfl⟩, h2, h3⟩
  · exact h.lt
  · intro k hk
    obtain ⟨oa, c, he, _, _, h4⟩ := h3
    obtain ⟨bb, bo, rfl, hlt, _⟩ := h4 h2
    cases he; cases hk; exact hlt
theorem AppB.shape (h : AppB w base e v l) : ∃ oa n c, v = .slice oa n c := by
  obtain ⟨oa, c, rfl, _⟩ := h.slB
  exact ⟨_, _, _, rfl⟩

theorem run_append_full {P : Program} (w : World) (base : Nat) (t ty e : TypeId) (i : TypeInfo) (ht : P.underlying t = some (.slice e)) (hi : P.info? e = some i) (hz : i.zero = some (.int .u8 0)) (hsize : i.size = 1) (hby : i.bytes = 1)
    (b : Addr) (l : List UInt8) (hl0 : l ≠ []) (hsl : SlB w w.heap.size (.slice (some b) l.length l.length) l) (oa : Option Addr) (bs : List UInt8) (c : Nat) (B : Nat) (hx : SlB w B (.slice oa bs.length c) bs)
    (hlen : l.length + bs.length ≤ 140737488355328) (hB : base ≤ w.heap.size) :
    ∃ v' w', (Builtin.append_ #[t, t] ty #[.slice (some b) l.length l.length, .slice oa bs.length c]).run P w = .ok v' w' ∧ (bs = [] → v' = .slice (some b) l.length l.length ∧ w' = w) ∧ (bs ≠ [] → OwnB w' base e v' (l ++ bs)) ∧ Below w.heap.size w w' := by
  by_cases hb : bs = []
  · subst hb
    refine ⟨.slice (some b) l.length l.length, w, ?_, fun _ => ⟨rfl, rfl⟩, fun h => absurd rfl h, Below.refl _ _⟩
    cases oa <;> simp [Builtin.append_, run_underlying ht, sizeOf, typeInfo, hi, Builtin.lenOf, Builtin.firstCells, loadCells, loadCellsFrom, storeCells]
  · obtain ⟨oa', cap, he, h1, h2, h3⟩ := hx
    cases he
    obtain ⟨bb, bo, rfl, hlt, hr⟩ := h3 hb
    have hbp : 0 < bs.length := List.length_pos_iff.2 hb
    obtain ⟨ob, cap2, he2, g1, g2, g3⟩ := hsl
    cases he2
    obtain ⟨qb, qo, hq, _, hqr⟩ := g3 hl0
    cases hq
    have rd : ∀ (blk o : Nat) (m : List UInt8), RdB w blk o m → ∀ j u, (m.map u8)[j]? = some u → w.cell? ((⟨blk, o, none⟩ : Addr).add j) = some u := by
      intro blk o m hm j u hj
      rw [List.getElem?_map] at hj
      cases hmj : m[j]? with
      | none => rw [hmj] at hj; cases hj
      | some x =>
        rw [hmj] at hj
        simp only [Option.map_some, Option.some.injEq] at hj
        subst hj
        have e1 : (⟨blk, o, none⟩ : Addr).add j = ⟨blk, o + j, none⟩ := by unfold Addr.add; split <;> simp_all
        have := hm j (List.getElem?_eq_some_iff.1 hmj).1
        rw [e1, this, List.getD_eq_getElem?_getD, hmj]; rfl
    have hrun := run_append_grow (P := P) w t ty e i (.int .u8 0) ht hi hz ⟨qb, qo, none⟩ l.length l.length (l.map u8) (by rw [hsize]; simp) (rd _ _ _ hqr) ⟨bb, bo, none⟩ bs.length c (bs.map u8) (by rw [hsize]; simp) (rd _ _ _ hr) (by omega) (by omega) (by
      rw [hby]; exact growslice_fits (by omega) (by omega))
    refine ⟨_, _, hrun, fun h => absurd h hb, fun _ => ?_, ?_⟩
    · have hge := grownCap_ge w (l.length + bs.length) l.length e
      have hcm : grownCap w (l.length + bs.length) l.length e ≤ maxLen := grownCap_le_maxLen w _ _ e (by unfold maxLen; omega)
      unfold OwnB
      refine ⟨by simp, .inr ⟨w.heap.size, _, _, by rw [List.length_append], hB, heap_alloc_new w.drew _, by rw [List.length_append]; exact hge, hcm, ?_, ?_⟩⟩
      · simp [size_zeroCells, Value.cells]; omega
      · simp only [Array.toList_append, List.append_assoc, List.map_append, List.length_append]
        rw [← List.append_assoc]
        rw [show (l.length + bs.length) * 1 = (l.map u8 ++ bs.map u8).length by simp]
        exact List.take_left
    · exact ⟨rfl, rfl, rfl, by simp, fun k hk => heap_alloc_old w.drew _ hk⟩

/-- 'append(b, xs...)' -/
theorem append_app {P : Program} (w : World) {ops : Array Oper} {rest : List Oper} {o : Oper} {a : Act} {Q : Exit → Act → World → Prop} (hgd : o.guard = none) (s x : Operand) (t e : TypeId)
    (ho : o.op = .call { callee := .builtin .append, args := #[s, x], argTypes := #[t, t] })
    (ht : P.underlying t = some (.slice e)) (hi : (P.info? e).map (fun i => (i.zero, i.size, i.bytes)) = some (some (.int .u8 0), 1, 1))
    (base : Nat) (v : Value) (l : List UInt8) (hs : a.eval s = v) (hown : AppB w base e v l) (xv : Value) (bs : List UInt8) (B : Nat) (hx : a.eval x = xv) (hsl : SlB w B xv bs)
    (hlen : l.length + bs.length ≤ 140737488355328) (hB : base ≤ w.heap.size)
    (h : ∀ v' w', AppB w' base e v' (l ++ bs) → (bs ≠ [] → OwnB w' base e v' (l ++ bs)) → Kept w w' (fun k => v.ownBlock ≠ some k) → Below base w w' → wpList P ops Q rest (a.put o.dst v') w') : wpList P ops Q (o :: rest) a w := by
  rcases hown with hown | ⟨⟨b, rfl⟩, hl0, hsl2⟩
  · refine append_slg w hgd s x t e ho ht hi base v l hs hown xv bs B hx hsl hlen hB ?_
    intro v' w' h1 h2
    exact h v' w' (.inl h1) (fun _ => h1) (Kept.grown h2 fun k hk hn => hn hk) ((Below.refl base w).grown h2 hB (fun k hk => (World.ownsRow.lt hown k hk).1))
  · obtain ⟨i0, hi0, hz0, hz1, hz2⟩ := info_parts hi
    have hxs := hsl
    obtain ⟨oa, c, rfl, _⟩ := hxs
    obtain ⟨v', w', hrun, h0, h1, hb⟩ := run_append_full (P := P) w base t o.type e i0 ht hi0 hz0 hz1 hz2 b l hl0 hsl2 oa bs c B hsl hlen hB
    refine wpList_plain hgd fun K hK => ?_
    unfold Oper.wp execOp
    simp only [ho, resolve, invoke, builtin, Sem.run_bind, Sem.run_pure, Result.andThen_ok, List.map_toArray, List.map_cons, List.map_nil, hs, hx, hrun]
    refine hK _ _ (h v' w' ?_ h1 (.of_below hb fun k hk _ => hk) (hb.mono hB))
    by_cases hbs : bs = []
    · obtain ⟨rfl, rfl⟩ := h0 hbs
      subst hbs
      rw [List.append_nil]
      exact .inr ⟨⟨b, rfl⟩, hl0, hsl2⟩
    · exact .inl (h1 hbs)
end
end Go.Mx
