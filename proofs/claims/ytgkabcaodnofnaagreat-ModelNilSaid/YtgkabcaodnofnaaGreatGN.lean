import Derived.Test.YtgkabcaodnofnaaGreatMV
import Derived.Laws.CopyOwn
import Derived.Deep.RegionLaw
namespace Go.Mx
open Go.RowKit
set_option linter.unusedSimpArgs false
set_option linter.unusedVariables false
/-- 'append(out, x)' of one row, and where it may lie -/
theorem append_gn {P : Program} (w : World) {ops : Array Oper} {rest : List Oper} {o : Oper} {a : Act} {Q : Exit → Act → World → Prop} (hgd : o.guard = none) (s x : Operand) (t e : TypeId) (z : Value) (sz bytes : Nat)
    (ho : o.op = .call { callee := .builtin .append, args := #[s, x], argTypes := #[t, t] })
    (ht : P.underlying t = some (.slice e)) (hi : (P.info? e).map (fun i => (i.zero, i.size, i.bytes)) = some (some z, sz, bytes)) (hz : z.cells.size = sz) (hsz : 0 < sz)
    (base : Nat) (v : Value) (rows : List (List Value)) (hs : a.eval s = v) (hown : OwnG w base e sz v rows) (g c : Nat) (row : List Value) (hx : a.eval x = .slice (some ⟨g, 0, none⟩) 1 c)
    (hl : row.length = sz) (hcell : ∀ j u, row[j]? = some u → w.cell? ⟨g, j, none⟩ = some u) (hone : ∀ u ∈ row, u.oneCell' = true)
    (hlen : (rows.length + 1) * bytes ≤ 140737488355328) (hlen2 : rows.length + 1 ≤ 140737488355328) (hB : base ≤ w.heap.size)
    (h : ∀ v' w', OwnG w' base e sz v' (rows ++ [row]) → w.grownBy w' v.ownBlock → Below base w w' → (∀ q, v'.ownBlock = some q → v.ownBlock = some q ∨ w.heap.size ≤ q) → wpList P ops Q rest (a.put o.dst v') w') : wpList P ops Q (o :: rest) a w := by
  obtain ⟨i0, hi0, hz0, hz1, hz2⟩ := info_parts hi
  have hcell' : ∀ j u, row[j]? = some u → w.cell? ((⟨g, 0, none⟩ : Addr).add j) = some u := fun j u hj => by rw [addr_add]; exact hcell j u hj
  have hml : rows.length + 1 ≤ maxLen := by unfold maxLen; omega
  obtain ⟨v', w', hr, h2, h3, h4⟩ := run_append_own (P := P) w base t o.type e i0 z sz bytes ht hi0 hz0 hz1 hz2 hz hsz v rows.length _ hown.1 ⟨g, 0, none⟩ 1 c row (by omega) hcell' hone hml hlen hB
  have hbk : ∀ q, v'.ownBlock = some q → v.ownBlock = some q ∨ w.heap.size ≤ q := by
    have hfl := flat_len rows hown.2
    rcases hown.1.2 with ⟨rfl, hn0⟩ | ⟨g', cap, cur, rfl, hbg, hgg, hn, hm, hcs, htk⟩
    · have hr2 := run_append_nil (P := P) w t o.type e i0 z ht hi0 hz0 ⟨g, 0, none⟩ 1 c row (by omega) hcell' (by omega) (by omega) (by rw [hz2]; have := Nat.mul_le_mul_right bytes (show 1 ≤ rows.length + 1 by omega); omega)
      rw [hr] at hr2
      intro q hq
      simp only [Result.ok.injEq] at hr2
      rw [hr2.1] at hq
      simp only [Value.ownBlock, Option.some.injEq] at hq
      exact .inr (by omega)
    · by_cases hroom : rows.length + 1 ≤ cap
      · have hr2 := run_append_room (P := P) w t o.type e i0 ht hi0 g' rows.length cap cur hgg ⟨g, 0, none⟩ 1 c row (by omega) hcell' hone hroom (by
          rw [hz1, hl, hcs, ← Nat.succ_mul]; exact Nat.mul_le_mul_right _ hroom)
        rw [hr] at hr2
        intro q hq
        simp only [Result.ok.injEq] at hr2
        rw [hr2.1] at hq
        exact .inl hq
      · have holds : ∀ j u, rows.flatten[j]? = some u → w.cell? ((⟨g', 0, none⟩ : Addr).add j) = some u := World.ownsRow.cells hown.1 (g := g') rfl
        have hr2 := run_append_grow (P := P) w t o.type e i0 z ht hi0 hz0 ⟨g', 0, none⟩ rows.length cap rows.flatten (by rw [hfl, hz1]) holds ⟨g, 0, none⟩ 1 c row (by omega) hcell' (by omega) (by omega) (by
          rw [hz2]; exact growslice_fits (by omega) hlen)
        rw [hr] at hr2
        intro q hq
        simp only [Result.ok.injEq] at hr2
        rw [hr2.1] at hq
        simp only [Value.ownBlock, Option.some.injEq] at hq
        exact .inr (by omega)
  refine wpList_plain hgd fun K hK => ?_
  unfold Oper.wp
  simp [execOp, ho, resolve, invoke, builtin, hs, hx, hr, Result.andThen]
  refine hK _ _ (h v' w' ⟨by simpa using h2, ?_⟩ h3 ((Below.refl base w).grown h3 hB (fun k hk => (World.ownsRow.lt hown.1 k hk).1)) hbk)
  intro r hr
  rcases List.mem_append.1 hr with hr | hr
  · exact hown.2 r hr
  · simp at hr; rw [hr]; exact hl
/-- the same as a step of a drawn region -/
theorem step_append_gn {P : Program} (w : World) {ops : Array Oper} {o : Oper} {a : Act} {K : Act → World → Prop} {Q : Exit → Act → World → Prop} {E : Prop} (hgd : o.guard = none) (s x : Operand) (t e : TypeId) (z : Value) (sz bytes : Nat)
    (ho : o.op = .call { callee := .builtin .append, args := #[s, x], argTypes := #[t, t] })
    (ht : P.underlying t = some (.slice e)) (hi : (P.info? e).map (fun i => (i.zero, i.size, i.bytes)) = some (some z, sz, bytes)) (hz : z.cells.size = sz) (hsz : 0 < sz)
    (base : Nat) (v : Value) (rows : List (List Value)) (hs : a.eval s = v) (hown : OwnG w base e sz v rows) (g c : Nat) (row : List Value) (hx : a.eval x = .slice (some ⟨g, 0, none⟩) 1 c)
    (hl : row.length = sz) (hcell : ∀ j u, row[j]? = some u → w.cell? ⟨g, j, none⟩ = some u) (hone : ∀ u ∈ row, u.oneCell' = true)
    (hlen : (rows.length + 1) * bytes ≤ 140737488355328) (hlen2 : rows.length + 1 ≤ 140737488355328) (hB : base ≤ w.heap.size)
    (h : ∀ v' w', OwnG w' base e sz v' (rows ++ [row]) → w.grownBy w' v.ownBlock → Below base w w' → (∀ q, v'.ownBlock = some q → v.ownBlock = some q ∨ w.heap.size ≤ q) → K (a.put o.dst v') w') : if Region.wanted o (yielded ops a.tmps) = true then Oper.wp P o a w K Q else E := by
  have hw : Region.wanted o (yielded ops a.tmps) = true := by simp [Region.wanted, hgd]
  rw [if_pos hw]
  obtain ⟨i0, hi0, hz0, hz1, hz2⟩ := info_parts hi
  have hcell' : ∀ j u, row[j]? = some u → w.cell? ((⟨g, 0, none⟩ : Addr).add j) = some u := fun j u hj => by rw [addr_add]; exact hcell j u hj
  have hml : rows.length + 1 ≤ maxLen := by unfold maxLen; omega
  obtain ⟨v', w', hr, h2, h3, h4⟩ := run_append_own (P := P) w base t o.type e i0 z sz bytes ht hi0 hz0 hz1 hz2 hz hsz v rows.length _ hown.1 ⟨g, 0, none⟩ 1 c row (by omega) hcell' hone hml hlen hB
  have hbk : ∀ q, v'.ownBlock = some q → v.ownBlock = some q ∨ w.heap.size ≤ q := by
    have hfl := flat_len rows hown.2
    rcases hown.1.2 with ⟨rfl, hn0⟩ | ⟨g', cap, cur, rfl, hbg, hgg, hn, hm, hcs, htk⟩
    · have hr2 := run_append_nil (P := P) w t o.type e i0 z ht hi0 hz0 ⟨g, 0, none⟩ 1 c row (by omega) hcell' (by omega) (by omega) (by rw [hz2]; have := Nat.mul_le_mul_right bytes (show 1 ≤ rows.length + 1 by omega); omega)
      rw [hr] at hr2
      intro q hq
      simp only [Result.ok.injEq] at hr2
      rw [hr2.1] at hq
      simp only [Value.ownBlock, Option.some.injEq] at hq
      exact .inr (by omega)
    · by_cases hroom : rows.length + 1 ≤ cap
      · have hr2 := run_append_room (P := P) w t o.type e i0 ht hi0 g' rows.length cap cur hgg ⟨g, 0, none⟩ 1 c row (by omega) hcell' hone hroom (by
          rw [hz1, hl, hcs, ← Nat.succ_mul]; exact Nat.mul_le_mul_right _ hroom)
        rw [hr] at hr2
        intro q hq
        simp only [Result.ok.injEq] at hr2
        rw [hr2.1] at hq
        exact .inl hq
      · have holds : ∀ j u, rows.flatten[j]? = some u → w.cell? ((⟨g', 0, none⟩ : Addr).add j) = some u := World.ownsRow.cells hown.1 (g := g') rfl
        have hr2 := run_append_grow (P := P) w t o.type e i0 z ht hi0 hz0 ⟨g', 0, none⟩ rows.length cap rows.flatten (by rw [hfl, hz1]) holds ⟨g, 0, none⟩ 1 c row (by omega) hcell' (by omega) (by omega) (by
          rw [hz2]; exact growslice_fits (by omega) hlen)
        rw [hr] at hr2
        intro q hq
        simp only [Result.ok.injEq] at hr2
        rw [hr2.1] at hq
        simp only [Value.ownBlock, Option.some.injEq] at hq
        exact .inr (by omega)
  unfold Oper.wp
  simp [execOp, ho, resolve, invoke, builtin, hs, hx, hr, Result.andThen]
  refine h v' w' ⟨by simpa using h2, ?_⟩ h3 ((Below.refl base w).grown h3 hB (fun k hk => (World.ownsRow.lt hown.1 k hk).1)) hbk
  intro r hr
  rcases List.mem_append.1 hr with hr | hr
  · exact hown.2 r hr
  · simp at hr; rw [hr]; exact hl
end Go.Mx
