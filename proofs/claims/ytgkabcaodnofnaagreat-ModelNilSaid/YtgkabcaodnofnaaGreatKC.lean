import Derived.Test.YtgkabcaodnofnaaGreatJ
namespace Go.Mx
open Go.RowKit
set_option linter.unusedVariables false
set_option linter.unusedSimpArgs false
theorem setRow_kept (w : World) (g : Nat) (cs : Array Value) : Kept w (w.setRow g cs) (· ≠ g) := ⟨by simp [World.setRow], fun k _ hk => setRow_other w g k cs hk, rfl, rfl, rfl⟩
theorem map_splice (L : List UInt8) (off : Nat) (bs : List UInt8) : (splice L off bs).map u8 = splice (L.map u8) off (bs.map u8) := by
  unfold splice; simp [List.map_take, List.map_drop]
/-- 'copy' of bytes into a row of bytes that is known whole -/
theorem run_copy_b {P : Program} (w : World) (dT sT ty e : TypeId) (hu : P.underlying dT = some (.slice e)) (hsz : (P.info? e).map (·.size) = some 1) (g off dLen dCap : Nat) (sv : Value) (bs L : List UInt8) (B : Nat) (t : TypeId)
    (hsl : SlB w B sv bs) (hg : w.heap[g]? = some (.cells (L.map u8).toArray t (0, 0))) (hl : bs.length ≤ dLen) (hfit : off + bs.length ≤ L.length) :
    ∃ w', (Builtin.copy_ #[dT, sT] ty #[.slice (some ⟨g, off, none⟩) dLen dCap, sv]).run P w = .ok (goInt bs.length) w' ∧ w'.heap[g]? = some (.cells ((splice L off bs).map u8).toArray t (0, 0)) ∧ Kept w w' (· ≠ g) ∧ (∀ B w0, Below B w0 w → B ≤ g → Below B w0 w') := by
  obtain ⟨oa, cap, rfl, h1, h2, h3⟩ := id hsl
  by_cases h0 : bs.length = 0
  · obtain rfl : bs = [] := List.eq_nil_of_length_eq_zero h0
    have hrun := run_copy_none (P := P) w dT sT ty e (some ⟨g, off, none⟩) oa dLen dCap 0 cap hu hsz (by simp)
    exact ⟨w, hrun, by simpa [splice] using hg, Kept.refl _ _, fun _ _ h _ => h⟩
  · obtain ⟨bb, bo, rfl, _, hr⟩ := h3 (by rintro rfl; exact h0 rfl)
    have hrun := run_copy_row (P := P) w dT sT ty e g off dLen dCap ⟨bb, bo, none⟩ bs.length cap (L.map u8).toArray t (bs.map u8) hu hsz hg (by rw [List.length_map]; exact (Nat.min_eq_left hl).symm) (fun j v hj => by
      rw [List.getElem?_map] at hj
      cases hb : bs[j]? with
      | none => rw [hb] at hj; cases hj
      | some y =>
        rw [hb] at hj; simp only [Option.map_some, Option.some.injEq] at hj; subst hj
        have hjl : j < bs.length := (List.getElem?_eq_some_iff.1 hb).1
        have e : (⟨bb, bo, none⟩ : Addr).add j = ⟨bb, bo + j, none⟩ := by unfold Addr.add; split <;> simp_all
        rw [e, hr j hjl, List.getD_eq_getElem?_getD, hb]; rfl) (by simpa using hfit) (by intro u hu; simp at hu; obtain ⟨y, _, rfl⟩ := hu; rfl)
    have hrow : (((L.map u8).toArray).toList.take off ++ bs.map u8 ++ ((L.map u8).toArray).toList.drop (off + (bs.map u8).length)).toArray = ((splice L off bs).map u8).toArray := by rw [map_splice]; simp [splice]
    rw [hrow] at hrun
    rw [List.length_map] at hrun
    exact ⟨_, hrun, setRow_heap w g _ _ t _ hg, setRow_kept _ _ _, fun B w0 hb hBg => below_setRow hb hBg _⟩
theorem step_copy_b {P : Program} {ops : Array Oper} {o : Oper} {a : Act} {w : World} {K : Act → World → Prop} {Q : Exit → Act → World → Prop} {E : Prop} (hgd : o.guard = none) (d s : Operand) (dT sT : TypeId)
    (ho : o.op = .call { callee := .builtin .copy, args := #[d, s], argTypes := #[dT, sT] }) (e : TypeId) (hu : P.underlying dT = some (.slice e)) (hsz : (P.info? e).map (·.size) = some 1)
    (g off dLen dCap : Nat) (sv : Value) (bs L : List UInt8) (B : Nat) (t : TypeId) (hd : a.eval d = .slice (some ⟨g, off, none⟩) dLen dCap) (hs : a.eval s = sv)
    (hsl : SlB w B sv bs) (hg : w.heap[g]? = some (.cells (L.map u8).toArray t (0, 0))) (hl : bs.length ≤ dLen) (hfit : off + bs.length ≤ L.length)
    (h : ∀ w', Hid (w'.heap[g]? = some (.cells ((splice L off bs).map u8).toArray t (0, 0))) → Kept w w' (· ≠ g) → (∀ B w0, Below B w0 w → B ≤ g → Below B w0 w') → K (a.put o.dst (goInt bs.length)) w') :
    if Region.wanted o (yielded ops a.tmps) = true then Oper.wp P o a w K Q else E := by
  have hw : Region.wanted o (yielded ops a.tmps) = true := by simp [Region.wanted, hgd]
  rw [if_pos hw]
  obtain ⟨w', hrun, h1, h2, h3⟩ := run_copy_b w dT sT o.type e hu hsz g off dLen dCap sv bs L B t hsl hg hl hfit
  unfold Oper.wp
  simp [execOp, ho, resolve, invoke, builtin, hd, hs, hrun, Result.andThen]
  exact h w' h1 h2 h3
theorem wpList_copy_b {P : Program} {w : World} {ops : Array Oper} {rest : List Oper} {o : Oper} {a : Act} {Q : Exit → Act → World → Prop} (hgd : o.guard = none) (d s : Operand) (dT sT : TypeId)
    (ho : o.op = .call { callee := .builtin .copy, args := #[d, s], argTypes := #[dT, sT] }) (e : TypeId) (hu : P.underlying dT = some (.slice e)) (hsz : (P.info? e).map (·.size) = some 1)
    (g off dLen dCap : Nat) (sv : Value) (bs L : List UInt8) (B : Nat) (t : TypeId) (hd : a.eval d = .slice (some ⟨g, off, none⟩) dLen dCap) (hs : a.eval s = sv)
    (hsl : SlB w B sv bs) (hg : w.heap[g]? = some (.cells (L.map u8).toArray t (0, 0))) (hl : bs.length ≤ dLen) (hfit : off + bs.length ≤ L.length)
    (h : ∀ w', Hid (w'.heap[g]? = some (.cells ((splice L off bs).map u8).toArray t (0, 0))) → Kept w w' (· ≠ g) → (∀ B w0, Below B w0 w → B ≤ g → Below B w0 w') → wpList P ops Q rest (a.put o.dst (goInt bs.length)) w') :
    wpList P ops Q (o :: rest) a w := by
  refine wpList_plain hgd fun K hK => ?_
  obtain ⟨w', hrun, h1, h2, h3⟩ := run_copy_b w dT sT o.type e hu hsz g off dLen dCap sv bs L B t hsl hg hl hfit
  unfold Oper.wp
  simp [execOp, ho, resolve, invoke, builtin, hd, hs, hrun, Result.andThen]
  exact hK _ _ (h w' h1 h2 h3)
end Go.Mx
