import Derived.Test.YtgkabcaodnofnaaGreatMR
import Derived.Deep.RegionLaw
namespace Go.Mx
open Go.RowKit
set_option linter.unusedSimpArgs false
set_option linter.unusedVariables false
theorem flatten_inv {α} (s : Nat) (hs : 0 < s) : ∀ (rows : List (List α)) (j : Nat) (u : α), (∀ r ∈ rows, r.length = s) → rows.flatten[j]? = some u → j / s < rows.length ∧ (rows.getD (j / s) [])[j % s]? = some u
  | [], j, u, _, h => by simp at h
  | r :: rows, j, u, hr, h => by
    have h1 : r.length = s := hr r (by simp)
    rw [List.flatten_cons] at h
    by_cases hj : j < s
    · rw [List.getElem?_append_left (by omega)] at h
      rw [Nat.div_eq_of_lt hj, Nat.mod_eq_of_lt hj]
      exact ⟨by simp, by simpa using h⟩
    · rw [List.getElem?_append_right (by omega), h1] at h
      have ih := flatten_inv s hs rows (j - s) u (fun q hq => hr q (by simp [hq])) h
      have e1 : j / s = (j - s) / s + 1 := by
        have h9 : j - s + s = j := by omega
        have h8 := Nat.add_div_right (j - s) hs
        rw [h9] at h8; exact h8
      have e2 : j % s = (j - s) % s := by
        have h9 : j - s + s = j := by omega
        have h8 := Nat.add_mod_right (j - s) s
        rw [h9] at h8; exact h8
      rw [e1, e2]
      exact ⟨by simpa using ih.1, by simpa using ih.2⟩
/-- 'append(out, xs...)' of rows that can be read, at one operation of a drawn region -/
theorem step_append_sg {P : Program} (w : World) {ops : Array Oper} {o : Oper} {a : Act} {K : Act → World → Prop} {Q : Exit → Act → World → Prop} {E : Prop} (hgd : o.guard = none) (s x : Operand) (t e : TypeId) (z : Value) (sz bytes : Nat)
    (ho : o.op = .call { callee := .builtin .append, args := #[s, x], argTypes := #[t, t] })
    (ht : P.underlying t = some (.slice e)) (hi : (P.info? e).map (fun i => (i.zero, i.size, i.bytes)) = some (some z, sz, bytes)) (hz : z.cells.size = sz) (hsz : 0 < sz)
    (base : Nat) (v : Value) (rows : List (List Value)) (hs : a.eval s = v) (hown : OwnG w base e sz v rows) (B : Nat) (v2 : Value) (rows2 : List (List Value)) (hx : a.eval x = v2) (hsl : SlG w B sz v2 rows2) (hrl : ∀ r ∈ rows2, r.length = sz)
    (hone : ∀ r ∈ rows2, ∀ u ∈ r, u.oneCell' = true)
    (hlen : (rows.length + rows2.length) * bytes ≤ 140737488355328) (hlen2 : rows.length + rows2.length ≤ 140737488355328) (hB : base ≤ w.heap.size)
    (h : ∀ v' w', OwnG w' base e sz v' (rows ++ rows2) → w.grownBy w' v.ownBlock → Below base w w' → K (a.put o.dst v') w') : if Region.wanted o (yielded ops a.tmps) = true then Oper.wp P o a w K Q else E := by
  have hw : Region.wanted o (yielded ops a.tmps) = true := by simp [Region.wanted, hgd]
  rw [if_pos hw]
  obtain ⟨i0, hi0, hz0, hz1, hz2⟩ := info_parts hi
  obtain ⟨oa, cap, rfl, h1, h2, h3⟩ := hsl
  cases oa with
  | none =>
    have hb : rows2 = [] := by
      cases rows2 with
      | nil => rfl
      | cons y r => obtain ⟨_, _, hh, _⟩ := h3 (by simp); cases hh
    subst hb
    have hrun := run_append_nosrc (P := P) (w := w) (ty := o.type) ht hi0 hown.1 cap
    unfold Oper.wp
    simp [execOp, ho, resolve, invoke, builtin, hs, hx, hrun, Result.andThen]
    exact h v w (by simpa using hown) (World.grownBy.refl w _) (Below.refl _ _)
  | some ad =>
    refine wp_append_own w s x t ho base e i0 _ sz bytes ht hi0 hz0 hz1 hz2 hz hsz v rows.length _ hs hown.1 ad rows2.length cap rows2.flatten hx (flat_len _ hrl) ?_ ?_ ?_ hlen hB ?_
    · intro j u hj
      obtain ⟨k1, k2⟩ := flatten_inv sz hsz rows2 j u hrl hj
      obtain ⟨bb, bo, hh, _, hrd⟩ := h3 (by rintro rfl; simp at k1)
      cases hh
      have := hrd (j / sz) k1 (j % sz) u k2
      have e : (⟨bb, bo, none⟩ : Addr).add j = ⟨bb, bo + (j / sz) * sz + j % sz, none⟩ := by
        have h9 := Nat.div_add_mod j sz
        rw [Nat.mul_comm] at h9
        unfold Addr.add
        split <;> simp_all <;> omega
      rw [e]; exact this
    · intro u hu
      obtain ⟨r, hr, hu⟩ := List.mem_flatten.1 hu
      exact hone r hr u hu
    · unfold maxLen; omega
    · intro v' w' ho' hg' _
      refine h v' w' ⟨by simpa using ho', ?_⟩ hg' ((Below.refl base w).grown hg' hB (fun k hk => (World.ownsRow.lt hown.1 k hk).1))
      intro r hr
      rcases List.mem_append.1 hr with hr | hr
      · exact hown.2 r hr
      · exact hrl r hr
/-- 'append(out, xs...)' of rows that can be read -/
theorem append_sg {P : Program} (w : World) {ops : Array Oper} {rest : List Oper} {o : Oper} {a : Act} {Q : Exit → Act → World → Prop} (hgd : o.guard = none) (s x : Operand) (t e : TypeId) (z : Value) (sz bytes : Nat)
    (ho : o.op = .call { callee := .builtin .append, args := #[s, x], argTypes := #[t, t] })
    (ht : P.underlying t = some (.slice e)) (hi : (P.info? e).map (fun i => (i.zero, i.size, i.bytes)) = some (some z, sz, bytes)) (hz : z.cells.size = sz) (hsz : 0 < sz)
    (base : Nat) (v : Value) (rows : List (List Value)) (hs : a.eval s = v) (hown : OwnG w base e sz v rows) (B : Nat) (v2 : Value) (rows2 : List (List Value)) (hx : a.eval x = v2) (hsl : SlG w B sz v2 rows2) (hrl : ∀ r ∈ rows2, r.length = sz)
    (hone : ∀ r ∈ rows2, ∀ u ∈ r, u.oneCell' = true)
    (hlen : (rows.length + rows2.length) * bytes ≤ 140737488355328) (hlen2 : rows.length + rows2.length ≤ 140737488355328) (hB : base ≤ w.heap.size)
    (h : ∀ v' w', OwnG w' base e sz v' (rows ++ rows2) → w.grownBy w' v.ownBlock → Below base w w' → wpList P ops Q rest (a.put o.dst v') w') : wpList P ops Q (o :: rest) a w := by
  refine wpList_plain hgd fun K hK => ?_
  have := step_append_sg (P := P) (ops := #[]) (E := True) (Q := Q) w (o := o) (a := a) (K := K) hgd s x t e z sz bytes ho ht hi hz hsz base v rows hs hown B v2 rows2 hx hsl hrl hone hlen hlen2 hB (fun v' w' h1 h2 h3 => hK _ _ (h v' w' h1 h2 h3))
  rwa [if_pos (show Region.wanted o (yielded #[] a.tmps) = true by simp [Region.wanted, hgd])] at this
end Go.Mx
