import Derived.Test.YtgkabcaodnofnaaGreatB
namespace Go.Proofs.YtgkabcaodnofnaaGreat
open Go.RowKit Go.Mx Go.Md Go.Shelf
set_option linter.unusedVariables false
set_option linter.unusedSimpArgs false
attribute [local go_sem] Oper.semAt_some
/-- 'append(out, rows..)' within a fence -/
theorem append_gi {F : Fence} {n : Nat} {P : Program} (w : World) {ops : Array Oper} {rest : List Oper} {o : Oper} {a : Act} {Q : Exit → Act → World → Prop} (hgd : o.guard = none) (s x : Operand) (t e : TypeId) (z : Value) (sz bytes : Nat)
    (ho : o.op = .call { callee := .builtin .append, args := #[s, x], argTypes := #[t, t] })
    (ht : P.underlying t = some (.slice e)) (hi : (P.info? e).map (fun i => (i.zero, i.size, i.bytes)) = some (some z, sz, bytes)) (hz : z.cells.size = sz) (hsz : 0 < sz)
    (base : Nat) (v : Value) (rows : List (List Value)) (hs : a.eval s = v) (hown : OwnG w base e sz v rows) (g m c : Nat) (news : List (List Value)) (hx : a.eval x = .slice (some ⟨g, 0, none⟩) m c) (hm : news.length = m)
    (hl : ∀ r ∈ news, r.length = sz) (hcell : ∀ j u, news.flatten[j]? = some u → w.cell? ⟨g, j, none⟩ = some u) (hone : ∀ u ∈ news.flatten, u.oneCell' = true)
    (hlen : (rows.length + m) * bytes ≤ 140737488355328) (hlen2 : rows.length + m ≤ 140737488355328) (hB : base ≤ w.heap.size)
    (h : ∀ v' w', OwnG w' base e sz v' (rows ++ news) → w.grownBy w' v.ownBlock → Below base w w' → wpListIn F n P ops Q rest (a.put o.dst v') w') : wpListIn F n P ops Q (o :: rest) a w := by
  obtain ⟨i0, hi0, hz0, hz1, hz2⟩ := info_parts hi
  have hfl : news.flatten.length = m * sz := by
    subst hm; clear hcell hone hlen hlen2 hx h
    induction news with
    | nil => simp
    | cons r t ih => rw [List.flatten_cons, List.length_append, ih (fun r hr => hl r (List.mem_cons_of_mem _ hr)), hl r List.mem_cons_self, List.length_cons, Nat.succ_mul, Nat.add_comm]
  refine wpListIn_append_own w hgd s x t ho base e i0 _ sz bytes ht hi0 hz0 hz1 hz2 hz hsz v rows.length _ hs hown.1 ⟨g, 0, none⟩ m c news.flatten hx hfl ?_ hone ?_ hlen hB ?_
  · intro j u hj
    rw [addr_add]; exact hcell j u hj
  · unfold maxLen; omega
  · intro v' w' ho' hg' _
    refine h v' w' ⟨by rw [List.length_append, List.flatten_append, hm]; exact ho', ?_⟩ hg' ((Below.refl base w).grown hg' hB (fun k hk => (World.ownsRow.lt hown.1 k hk).1))
    intro r hr
    rcases List.mem_append.1 hr with hr | hr
    · exact hown.2 r hr
    · exact hl r hr
abbrev Bx := Nat × Array Value × TypeId
/-- spans so far in a slice of the call's own, boxes, and what the iterator reads -/
def IQ (base1 base2 Bt : Nat) (w : World) (out : List Sp) (bx : Value → List Bx) (W : World) : Prop :=
  ∃ v, OwnG W base2 111 2 v (out.map spC) ∧ (∀ p ∈ bx v, p.1 < base2 ∧ W.heap[p.1]? = some (.cells p.2.1 p.2.2 (0, 0))) ∧ W.heap[Bt]? = w.heap[Bt]? ∧ Below base1 w W ∧ base2 ≤ W.heap.size
theorem cells_kept {X Y : World} {row : Option Nat} (hg : X.grownBy Y row) (hr : ∀ r, row = some r → ∃ o : Obj, X.heap[r]? = some o ∧ o.isCells = false) {b : Nat} {c : Array Value} {t : TypeId} {f : Nat × Nat} (hb : X.heap[b]? = some (.cells c t f)) : Y.heap[b]? = some (.cells c t f) := by
  refine (hg.block b (blk_lt hb) (fun e => ?_)).trans hb
  obtain ⟨o, ho, hc⟩ := hr b e.symm
  rw [hb] at ho; cases ho; cases hc
theorem ownG_from {X Y : World} {row : Option Nat} (hg : X.grownBy Y row) (hr : ∀ r, row = some r → ∃ o : Obj, X.heap[r]? = some o ∧ o.isCells = false) {base s : Nat} {e : TypeId} {v : Value} {rows : List (List Value)} (h : OwnG X base e s v rows) : OwnG Y base e s v rows := by
  refine ⟨h.1.kept hg ?_, h.2⟩
  rcases h.1.2 with ⟨rfl, _⟩ | ⟨g, cap, cur, rfl, _, hgb, _⟩
  · exact .inl rfl
  · refine .inr fun e' => ?_
    obtain ⟨o, ho, hc⟩ := hr g (by simpa [Value.ownBlock] using e'.symm)
    rw [hgb] at ho; cases ho; cases hc
theorem iq_from {σ : Type} {base1 base2 Bt B : Nat} {w : World} {out : σ → List Sp} {bx : σ → Value → List Bx} {cb : Array Value} {tb : TypeId} (hBt : w.heap[Bt]? = some (.cells cb tb (0, 0))) (h1 : base1 ≤ w.heap.size) (h2 : base1 ≤ B) : OwnFrom B (fun (s : σ) W => IQ base1 base2 Bt w (out s) (bx s) W) := by
  rintro s X Y row ⟨v, ho, hb, ht, hw, hs⟩ hg hr
  have hr2 := fun r e => (hr r e).2
  exact ⟨v, ownG_from hg hr2 ho, fun p hp => ⟨(hb p hp).1, cells_kept hg hr2 (hb p hp).2⟩, (cells_kept hg hr2 (ht.trans hBt)).trans hBt.symm,
    hw.grown hg (Nat.le_trans h1 hw.size) (fun k e => Nat.le_trans h2 (hr k e).1), Nat.le_trans hs hg.size⟩
/-- behind an append, and its store -/
theorem iq_app {base1 base2 Bt t5 : Nat} {w W w1 : World} {out news : List Sp} {bx bx' : Value → List Bx} {v v' : Value} {tmp : Obj} {cb : Array Value} {tb : TypeId} (hBt : w.heap[Bt]? = some (.cells cb tb (0, 0))) (h12 : base1 ≤ base2) (hB5 : base1 ≤ t5) (hBb : Bt < base2) (hB : Bt ≠ t5)
    (ho : OwnG W base2 111 2 v (out.map spC)) (hb : ∀ p ∈ bx v, p.1 < base2 ∧ W.heap[p.1]? = some (.cells p.2.1 p.2.2 (0, 0))) (ht : W.heap[Bt]? = w.heap[Bt]?) (hw : Below base1 w W) (hs : base2 ≤ W.heap.size)
    (h5 : (t5, #[v], (32 : TypeId)) ∈ bx v) (hv' : OwnG w1 base2 111 2 v' (out.map spC ++ news.map spC)) (hg : (W.alloc tmp).grownBy w1 v.ownBlock) (hbb : Below base2 (W.alloc tmp) w1)
    (hbx : ∀ p ∈ bx' v', p = (t5, #[v'], (32 : TypeId)) ∨ (p.1 ≠ t5 ∧ p ∈ bx v)) :
    w1.cell? ⟨t5, 0, none⟩ = some v ∧ w1.frozen? ⟨t5, 0, none⟩ = false ∧ KeepsOthers W (w1.setCell ⟨t5, 0, none⟩ v') ∧ KpA base1 [Bt] W (w1.setCell ⟨t5, 0, none⟩ v') ∧ IQ base1 base2 Bt w (out ++ news) bx' (w1.setCell ⟨t5, 0, none⟩ v') := by
  have hA : Below base2 W (W.alloc tmp) := (Below.refl _ _).alloc hs _
  have hW1 : Below base2 W w1 := hA.trans hbb
  obtain ⟨h5l, h5b⟩ := hb _ h5
  have h51 : w1.heap[t5]? = some (.cells #[v] 32 (0, 0)) := (hW1.block t5 h5l).trans h5b
  have hset : ∀ k, k ≠ t5 → (w1.setCell ⟨t5, 0, none⟩ v').heap[k]? = w1.heap[k]? := fun k hk => Below.heap_setCell _ _ _ k hk
  have h52 : (w1.setCell ⟨t5, 0, none⟩ v').heap[t5]? = some (.cells #[v'] 32 (0, 0)) := Boxed.set v' h51
  have hsz : (w1.setCell ⟨t5, 0, none⟩ v').heap.size = w1.heap.size := by simp
  refine ⟨Boxed.cell h51, Boxed.frozen h51, ?_, ⟨(hW1.mono h12).setCell hB5 _, fun b hb9 => ?_⟩, v', ?_, fun p hp => ?_, ?_, hw.trans ((hW1.mono h12).setCell hB5 _), by rw [hsz]; exact Nat.le_trans hs hW1.size⟩
  · refine ((KeepsOthers.alloc W tmp).trans (KeepsOthers.of_grownBy hg fun j o ej hj => ?_)).trans (KeepsOthers.setCell _ _ _)
    rcases ho.1.2 with ⟨rfl, _⟩ | ⟨g, cap, cur, rfl, _, hgb, _⟩
    · simp [Value.ownBlock] at ej
    · obtain rfl : g = j := by simpa [Value.ownBlock] using ej
      have : (W.alloc tmp).heap[g]? = W.heap[g]? := Below.heap_alloc W tmp g (blk_lt hgb)
      rw [this, hgb] at hj; cases hj; rfl
  · simp at hb9; subst hb9
    exact (hset b hB).trans (hW1.block b hBb)
  · rw [List.map_append]
    refine hv'.kept (Kept.set w1 t5 0 v' (N := fun k => k ≠ t5) (by simp)) fun k hk e => ?_
    have := hv'.ge k hk; omega
  · rcases hbx p hp with rfl | ⟨hne, hp2⟩
    · exact ⟨h5l, h52⟩
    · exact ⟨(hb p hp2).1, ((hset _ hne).trans (hW1.block _ (hb p hp2).1)).trans (hb p hp2).2⟩
  · exact ((hset Bt hB).trans (hW1.block Bt hBb)).trans ht
end Go.Proofs.YtgkabcaodnofnaaGreat
