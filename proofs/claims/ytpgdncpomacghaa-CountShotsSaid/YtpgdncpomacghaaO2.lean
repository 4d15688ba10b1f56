import Derived.Test.YtpgdncpomacghaaO
namespace Go.Mx
open Go.RowKit

/-- 'append(out, x)' of one one-cell element onto a slice of the call's own -/
theorem append_v {P : Program} (w : World) {ops : Array Oper} {rest : List Oper} {o : Oper} {a : Act} {Q : Exit → Act → World → Prop} (hgd : o.guard = none) (s x : Operand) (t e : TypeId) (z : Value) (bytes : Nat)
    (ho : o.op = .call { callee := .builtin .append, args := #[s, x], argTypes := #[t, t] })
    (ht : P.underlying t = some (.slice e)) (hi : (P.info? e).map (fun i => (i.zero, i.size, i.bytes)) = some (some z, 1, bytes)) (hz : z.cells.size = 1)
    (base : Nat) (v : Value) (l : List Value) (u : Value) (hs : a.eval s = v) (hown : OwnV w base e v l) (g c : Nat) (hx : a.eval x = .slice (some ⟨g, 0, none⟩) 1 c)
    (hcell : w.cell? ⟨g, 0, none⟩ = some u) (hone : u.oneCell' = true) (hlen : (l.length + 1) * bytes ≤ 140737488355328) (hlen2 : l.length + 1 ≤ 140737488355328) (hB : base ≤ w.heap.size)
    (h : ∀ v' w', OwnV w' base e v' (l ++ [u]) → Below base w w' → wpList P ops Q rest (a.put o.dst v') w') : wpList P ops Q (o :: rest) a w := by
  obtain ⟨i0, hi0, hz0, hz1, hz2⟩ := info_parts hi
  refine wpList_append_own w hgd s x t ho base e i0 _ 1 bytes ht hi0 hz0 hz1 hz2 hz (by decide) v l.length _ hs hown ⟨g, 0, none⟩ 1 c [u] hx rfl ?_ ?_ ?_ ?_ hB ?_
  · intro j y hj
    match j, hj with
    | 0, hj => simp at hj; subst hj; simpa [Addr.add] using hcell
  · intro y hy; simp at hy; subst hy; exact hone
  · unfold maxLen; omega
  · exact hlen
  · intro v' w' ho' hg' _
    refine h v' w' ?_ ?_
    · unfold OwnV; simpa using ho'
    · exact (Below.refl base w).grown hg' hB (fun k hk => (World.ownsRow.lt hown k hk).1)

theorem append_int {P : Program} (w : World) {ops : Array Oper} {rest : List Oper} {o : Oper} {a : Act} {Q : Exit → Act → World → Prop} (hgd : o.guard = none) (s x : Operand) (t : TypeId)
    (ho : o.op = .call { callee := .builtin .append, args := #[s, x], argTypes := #[t, t] })
    (ht : P.underlying t = some (.slice 3)) (hi : (P.info? 3).map (fun i => (i.zero, i.size, i.bytes)) = some (some (.int .i64 0), 1, 8))
    (base : Nat) (v : Value) (l : List Int) (n : Int) (hs : a.eval s = v) (hown : OwnI w base v l) (g c : Nat) (hx : a.eval x = .slice (some ⟨g, 0, none⟩) 1 c)
    (hcell : w.cell? ⟨g, 0, none⟩ = some (.int .i64 n)) (hlen : l.length ≤ 1000000000) (hB : base ≤ w.heap.size)
    (h : ∀ v' w', OwnI w' base v' (l ++ [n]) → Below base w w' → wpList P ops Q rest (a.put o.dst v') w') : wpList P ops Q (o :: rest) a w := by
  refine append_v w hgd s x t 3 _ 8 ho ht hi rfl base v (l.map (.int .i64)) (.int .i64 n) hs hown g c hx hcell rfl (by simp; omega) (by simp; omega) hB ?_
  intro v' w' h1 h2
  exact h v' w' (by unfold OwnI; simpa using h1) h2
end Go.Mx
