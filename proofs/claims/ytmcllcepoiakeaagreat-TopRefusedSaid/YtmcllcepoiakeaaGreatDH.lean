import Derived.Test.YtmcllcepoiakeaaGreatDG
import Derived.Laws.CopyOwn
import Derived.Deep.RegionLaw
set_option linter.unusedSimpArgs false
set_option linter.unusedVariables false
namespace Go.Mx
open Go.RowKit
/-- 'append(out, x)' of one row, and where it may lie -/
theorem append_gn {P : Program} (w : World) {ops : Array Oper} {rest : List Oper} {o : Oper} {a : Act} {Q : Exit → Act → World → Prop} (hgd : o.guard = none) (s x : Operand) (t e : TypeId) (z : Value) (sz bytes : Nat)
    (ho : o.op = .call { callee := .builtin .append, args := #[s, x], argTypes := #[t, t] })
    (ht : P.underlying t = some (.slice e)) (hi : (P.info? e).map (fun i => (i.zero, i.size, i.bytes)) = some (some z, sz, bytes)) (hz : z.cells.size = sz) (hsz : 0 < sz)
    (base : Nat) (v : Value) (rows : List (List Value)) (hs : a.eval s = v) (hown : OwnG w base e sz v rows) (g c : Nat) (row : List Value) (hx : a.eval x = .slice (some ⟨g, 0, none⟩) 1 c)
    (hl : row.length = sz) (hcell : ∀ j u, row[j]? = some u → w.cell? ⟨g, j, none⟩ = some u) (hone : ∀ u ∈ row, u.oneCell' = true)
    (hlen : (rows.length + 1) * bytes ≤ 140737488355328) (hlen2 : rows.length + 1 ≤ 140737488355328) (hB : base ≤ w.heap.size)
    (h : ∀ v' w', OwnG w' base e sz v' (rows ++ [row]) → w.grownBy w' v.ownBlock → Below base w w' → (∀ q, v'.ownBlock = some q → v.ownBlock = some q ∨ w.heap.size ≤ q) → wpList P ops Q rest (a.put o.dst v') w') : wpList P ops Q (o :: rest) a w := by
  obtain ⟨i0, hi0, hz0, hz1, hz2⟩ := info_parts hi
  have hcell' : ∀ j u, row[j]? = some u → w.cell? ((⟨g, 0, none⟩ : Addr).add j) = some u := fun j u hj => by rw [addr_add]; exact hcell j u hj
  have hml : rows.length + 1 ≤ maxLen := by unfold maxLen; omega
  obtain ⟨v', w', hr, h2, h3, h4⟩ := run_append_own (P := P) w base t o.type e i0 z sz bytes ht hi0 hz0 hz1 hz2 hz hsz v rows.length _ hown.1 ⟨g, 0, none⟩ 1 c row (by omega) hcell' hone hml hlen hB
  have hbk : ∀ q, v'.ownBlock = some q → v.ownBlock = some q ∨ w.heap.size ≤ q := by
    have hfl := flat_len rows hown.2
    rcases hown.1.2 with ⟨rfl, hn0⟩ | ⟨g', cap, cur, rfl, hbg, hgg, hn, hm, hcs, htk⟩
    · have hr2 := run_append_nil (P := P) w t o.type e i0 z ht hi0 hz0 ⟨g, 0, none⟩ 1 c row (by omega) hcell' (by omega) (by omega) (by rw [hz2]; have := Nat.mul_le_mul_right bytes (show 1 ≤ rows.length + 1 by omega); omega)
      rw [hr] at hr2
      intro q hq
      simp only [Result.ok.injEq] at hr2
      rw [hr2.1] at hq
      simp only [Value.ownBlock, Option.some.injEq] at hq
      exact .inr (by omega)
    · by_cases hroom : rows.length + 1 ≤ cap
      · have hr2 := run_append_room (P := P) w t o.type e i0 ht hi0 g' rows.length cap cur hgg ⟨g, 0, none⟩ 1 c row (by omega) hcell' hone hroom (by
          rw [hz1, hl, hcs, ← Nat.succ_mul]; exact Nat.mul_le_mul_right _ hroom)
        rw [hr] at hr2
        intro q hq
        simp only [Result.ok.injEq] at hr2
        rw [hr2.1] at hq
        exact .inl hq
      · have holds : ∀ j u, rows.flatten[j]? = some u → w.cell? ((⟨g', 0, none⟩ : Addr).add j) = some u := World.ownsRow.cells hown.1 (g := g') rfl
        have hr2 := run_append_grow (P := P) w t o.type e i0 z ht hi0 hz0 ⟨g', 0, none⟩ rows.length cap rows.flatten (by rw [hfl, hz1]) holds ⟨g, 0, none⟩ 1 c row (by omega) hcell' (by omega) (by omega) (by
          rw [hz2]; exact growslice_fits (by omega) hlen)
        rw [hr] at hr2
        intro q hq
        simp only [Result.ok.injEq] at hr2
        rw [hr2.1] at hq
        simp only [Value.ownBlock, Option.some.injEq] at hq
        exact .inr (by omega)
  refine wpList_plain hgd fun K hK => ?_
  unfold Oper.wp
  simp [execOp, ho, resolve, invoke, builtin, hs, hx, hr, Result.andThen]
  refine hK _ _ (h v' w' ⟨by simpa using h2, ?_⟩ h3 ((Below.refl base w).grown h3 hB (fun k hk => (World.ownsRow.lt hown.1 k hk).1)) hbk)
  intro r hr
  rcases List.mem_append.1 hr with hr | hr
  · exact hown.2 r hr
  · simp at hr; rw [hr]; exact hl
/-- the same as a step of a drawn region -/
theorem step_append_gn {P : Program} (w : World) {ops : Array Oper} {o : Oper} {a : Act} {K : Act → World → Prop} {Q : Exit → Act → World → Prop} {E : Prop} (hgd : o.guard = none) (s x : Operand) (t e : TypeId) (z : Value) (sz bytes : Nat)
    (ho : o.op = .call { callee := .builtin .append, args := #[s, x], argTypes := #[t, t] })
    (ht : P.underlying t = some (.slice e)) (hi : (P.info? e).map (fun i => (i.zero, i.size, i.bytes)) = some (some z, sz, bytes)) (hz : z.cells.size = sz) (hsz : 0 < sz)
    (base : Nat) (v : Value) (rows : List (List Value)) (hs : a.eval s = v) (hown : OwnG w base e sz v rows) (g c : Nat) (row : List Value) (hx : a.eval x = .slice (some ⟨g, 0, none⟩) 1 c)
    (hl : row.length = sz) (hcell : ∀ j u, row[j]? = some u → w.cell? ⟨g, j, none⟩ = some u) (hone : ∀ u ∈ row, u.oneCell' = true)
    (hlen : (rows.length + 1) * bytes ≤ 140737488355328) (hlen2 : rows.length + 1 ≤ 140737488355328) (hB : base ≤ w.heap.size)
    (h : ∀ v' w', OwnG w' base e sz v' (rows ++ [row]) → w.grownBy w' v.ownBlock → Below base w w' → (∀ q, v'.ownBlock = some q → v.ownBlock = some q ∨ w.heap.size ≤ q) → K (a.put o.dst v') w') : if Region.wanted o (yielded ops a.tmps) = true then Oper.wp P o a w K Q else E := by
  have hw : Region.wanted o (yielded ops a.tmps) = true := by simp [Region.wanted, hgd]
  rw [if_pos hw]
  obtain ⟨i0, hi0, hz0, hz1, hz2⟩ := info_parts hi
  have hcell' : ∀ j u, row[j]? = some u → w.cell? ((⟨g, 0, none⟩ : Addr).add j) = some u := fun j u hj => by rw [addr_add]; exact hcell j u hj
  have hml : rows.length + 1 ≤ maxLen := by unfold maxLen; omega
  obtain ⟨v', w', hr, h2, h3, h4⟩ := run_append_own (P := P) w base t o.type e i0 z sz bytes ht hi0 hz0 hz1 hz2 hz hsz v rows.length _ hown.1 ⟨g, 0, none⟩ 1 c row (by omega) hcell' hone hml hlen hB
  have hbk : ∀ q, v'.ownBlock = some q → v.ownBlock = some q ∨ w.heap.size ≤ q := by
    have hfl := flat_len rows hown.2
    rcases hown.1.2 with ⟨rfl, hn0⟩ | ⟨g', cap, cur, rfl, hbg, hgg, hn, hm, hcs, htk⟩
    · have hr2 := run_append_nil (P := P) w t o.type e i0 z ht hi0 hz0 ⟨g, 0, none⟩ 1 c row (by omega) hcell' (by omega) (by omega) (by rw [hz2]; have := Nat.mul_le_mul_right bytes (show 1 ≤ rows.length + 1 by omega); omega)
      rw [hr] at hr2
      intro q hq
      simp only [Result.ok.injEq] at hr2
      rw [hr2.1] at hq
      simp only [Value.ownBlock, Option.some.injEq] at hq
      exact .inr (by omega)
    · by_cases hroom : rows.length + 1 ≤ cap
      · have hr2 := run_append_room (P := P) w t o.type e i0 ht hi0 g' rows.length cap cur hgg ⟨g, 0, none⟩ 1 c row (by omega) hcell' hone hroom (by
          rw [hz1, hl, hcs, ← Nat.succ_mul]; exact Nat.mul_le_mul_right _ hroom)
        rw [hr] at hr2
        intro q hq
        simp only [Result.ok.injEq] at hr2
        rw [hr2.1] at hq
        exact .inl hq
      · have holds : ∀ j u, rows.flatten[j]? = some u → w.cell? ((⟨g', 0, none⟩ : Addr).add j) = some u := World.ownsRow.cells hown.1 (g := g') rfl
        have hr2 := run_append_grow (P := P) w t o.type e i0 z ht hi0 hz0 ⟨g', 0, none⟩ rows.length cap rows.flatten (by rw [hfl, hz1]) holds ⟨g, 0, none⟩ 1 c row (by omega) hcell' (by omega) (by omega) (by
          rw [hz2]; exact growslice_fits (by omega) hlen)
        rw [hr] at hr2
        intro q hq
        simp only [Result.ok.injEq] at hr2
        rw [hr2.1] at hq
        simp only [Value.ownBlock, Option.some.injEq] at hq
        exact .inr (by omega)
  unfold Oper.wp
  simp [execOp, ho, resolve, invoke, builtin, hs, hx, hr, Result.andThen]
  refine h v' w' ⟨by simpa using h2, ?_⟩ h3 ((Below.refl base w).grown h3 hB (fun k hk => (World.ownsRow.lt hown.1 k hk).1)) hbk
  intro r hr
  rcases List.mem_append.1 hr with hr | hr
  · exact hown.2 r hr
  · simp at hr; rw [hr]; exact hl
end Go.Mx
namespace Go.Proofs.YtmcllcepoiakeaaGreat.Dx
open Go.RowKit Go.Mx Go.Mp Go.Dk
def upF (f : FR) (b0 : Bool) (v : Value) (l : List Sec) : FR := if b0 then { f with nv := v, fm := { f.fm with now := l } } else { f with kv := v, fm := { f.fm with kept := l } }
theorem upF_same (f : FR) (b0 : Bool) (v : Value) (l : List Sec) : sl (upF f b0 v l) b0 = v ∧ rws (upF f b0 v l) b0 = l := by cases b0 <;> exact ⟨rfl, rfl⟩
theorem upF_else (f : FR) (b0 b : Bool) (v : Value) (l : List Sec) (h : b ≠ b0) : sl (upF f b0 v l) b = sl f b ∧ rws (upF f b0 v l) b = rws f b := by
  cases b0 <;> cases b <;> first | exact absurd rfl h | exact ⟨rfl, rfl⟩
theorem upF_fb (f : FR) (b0 : Bool) (v : Value) (l : List Sec) : (upF f b0 v l).fb = f.fb ∧ (upF f b0 v l).fm.name = f.fm.name := by cases b0 <;> exact ⟨rfl, rfl⟩
def offB (b0 : Bool) : Nat := if b0 then 0 else 1
theorem upF_cells (f : FR) (b0 : Bool) (v : Value) (l : List Sec) : (#[f.nv, f.kv] : Array Value).setIfInBounds (offB b0) v = #[(upF f b0 v l).nv, (upF f b0 v l).kv] := by cases b0 <;> rfl
section
variable {w w' : World} {base p : Nat} {d : DM} {fs : List FR} {m : Nat} {lv : Value} {x : Int} {V : Nat → Bool → Prop}
theorem DK.foreign_file (h : DK w base p d fs m lv x V) {i : Nat} {f : FR} (hi : fs[i]? = some f) {q : Nat} (hq : Foreign m w q) : q ≠ f.fb ∧ ∀ b, V i b → (sl f b).ownBlock ≠ some q := by
  refine ⟨by rintro rfl; exact (hq.2 _ _ _ (h.fc i f hi).1).2.1 rfl, fun b hv e => ?_⟩
  obtain ⟨c, f', g⟩ := (h.ow i f b hi hv).type e
  exact (hq.2 _ _ _ g).2.2.1 rfl
/-- one of a file's slices is another one now -/
theorem DK.newSl (h : DK w base p d fs m lv x V) {i : Nat} {f : FR} (hi : fs[i]? = some f) (b0 : Bool) (V' : Nat → Bool → Prop) (hV : ∀ j b, (j ≠ i ∨ b ≠ b0) → V' j b → V j b) {N : Nat → Prop} (hk : Kept w w' N) (hN : ∀ q, (V i b0 → (sl f b0).ownBlock ≠ some q) → N q) (hb : Below base w w')
    (v' : Value) (l' : List Sec) (ho : V' i b0 → OwnG w' base 131 16 v' (l'.map srow)) (hblk : V' i b0 → ∀ q, v'.ownBlock = some q → (∃ a, V i a ∧ (sl f a).ownBlock = some q) ∨ w.heap.size ≤ q)
    (hap : V' i true → V' i false → ∀ k, v'.ownBlock = some k → (sl f (!b0)).ownBlock ≠ some k) (hsh : ∃ oa n c, v' = .slice oa n c) :
    DK (w'.setCell ⟨f.fb, offB b0, none⟩ v') base p { d with files := (fs.set i (upF f b0 v' l')).map (·.fm) } (fs.set i (upF f b0 v' l')) m lv x V' ∧ Fr base m w (w'.setCell ⟨f.fb, offB b0, none⟩ v') := by
  have hfc := (h.fc i f hi).1
  have hNf : ∀ q c t fr, w.heap[q]? = some (.cells c t fr) → t ≠ 131 → N q := fun q c t fr hq ht => hN q fun hv => (h.ow i f b0 hi hv).not hq ht
  have hf' : w'.heap[f.fb]? = some (.cells #[f.nv, f.kv] 68 (0, 0)) := (hk.block _ (blk_lt hfc) (hNf _ _ _ _ hfc (by decide))).trans hfc
  have hset := heap_setCell_at' w' f.fb (offB b0) v' _ 68 (0, 0) hf'
  rw [upF_cells f b0 v' l'] at hset
  have hks : Kept w' (w'.setCell ⟨f.fb, offB b0, none⟩ v') (fun q => q ≠ f.fb) := Kept.set w' f.fb (offB b0) v' fun hn => hn rfl
  have hkk : Kept w (w'.setCell ⟨f.fb, offB b0, none⟩ v') (fun q => q ≠ f.fb ∧ N q) := (hk.imp fun q _ hq => hq.2).trans (hks.imp fun q _ hq => hq.1)
  obtain ⟨hs1, hs2⟩ := upF_same f b0 v' l'
  obtain ⟨hu1, hu2⟩ := upF_fb f b0 v' l'
  have helse := fun b hb => upF_else f b0 b v' l' hb
  refine ⟨?_, hb.setCell (p := ⟨f.fb, offB b0, none⟩) (h.fc i f hi).2 v', hkk.imp fun q _ hq => ⟨(h.foreign_file hi hq).1, hN q fun hv => (h.foreign_file hi hq).2 b0 hv⟩⟩
  refine h.file hi (upF f b0 v' l') hu2 hu1 hkk (fun k h1 h2 => ⟨h1, hN k fun hv => h2 b0 hv⟩) hset V' (fun j b hji hv => hV j b (.inl hji) hv) ?_ ?_ ?_ ?_
  · intro b hv
    by_cases e : b = b0
    · subst e
      rw [hs1, hs2]
      exact (ho hv).kept hks fun k e => by rintro rfl; exact (ho hv).not hf' (by decide) e
    · rw [(helse b e).1, (helse b e).2]
      have hv2 := hV i b (.inr e) hv
      refine (h.ow i f b hi hv2).kept hkk fun k e2 => ⟨by rintro rfl; exact (h.ow i f b hi hv2).not hfc (by decide) e2, hN k fun hv3 e3 => ?_⟩
      exact h.as_ i i b0 b f f hi hi hv3 hv2 (.inr (Ne.symm e)) k e3 e2
  · intro b hv k hk'
    by_cases e : b = b0
    · subst e
      rw [hs1] at hk'
      exact hblk hv k hk'
    · rw [(helse b e).1] at hk'
      exact .inl ⟨b, hV i b (.inr e) hv, hk'⟩
  · intro h1 h2 k hk1 hk2
    cases b0
    · exact hap h1 h2 k hk2 hk1
    · exact hap h1 h2 k hk1 hk2
  · intro b
    by_cases e : b = b0
    · subst e; rw [hs1]; exact hsh
    · rw [(helse b e).1]; exact h.sh i f b hi
end
end Go.Proofs.YtmcllcepoiakeaaGreat.Dx
