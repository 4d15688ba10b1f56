import Derived.Test.YtoccgpddmhhlgaaQ
import Derived.BigQuiet
namespace Go.Mx
open Go.RowKit
/-- 'append(out, xs...)' as append_sl, at one operation -/
theorem op_append_sl {P : Program} (w : World) {o : Oper} {a : Act} {K : Act → World → Prop} {Q : Exit → Act → World → Prop} (s x : Operand) (t e : TypeId)
    (ho : o.op = .call { callee := .builtin .append, args := #[s, x], argTypes := #[t, t] })
    (ht : P.underlying t = some (.slice e)) (hi : (P.info? e).map (fun i => (i.zero, i.size, i.bytes)) = some (some (.int .u8 0), 1, 1))
    (base : Nat) (v : Value) (l : List UInt8) (hs : a.eval s = v) (hown : OwnB w base e v l) (xv : Value) (bs : List UInt8) (B : Nat) (hx : a.eval x = xv) (hsl : SlB w B xv bs)
    (hlen : l.length + bs.length ≤ 140737488355328) (hB : base ≤ w.heap.size)
    (h : ∀ v' w', OwnB w' base e v' (l ++ bs) → Below base w w' → K (a.put o.dst v') w') : o.wp P a w K Q := by
  obtain ⟨i0, hi0, hz0, hz1, hz2⟩ := info_parts hi
  obtain ⟨oa, cap, rfl, h1, h2, h3⟩ := hsl
  cases oa with
  | none =>
    have hb : bs = [] := by
      cases bs with
      | nil => rfl
      | cons y r => obtain ⟨_, _, hh, _⟩ := h3 (by simp); cases hh
    subst hb
    have hrun := run_append_nosrc (P := P) (w := w) (ty := o.type) ht hi0 hown cap
    unfold Oper.wp
    simp [execOp, ho, resolve, invoke, builtin, hs, hx, hrun, Result.andThen]
    exact h v w (by simpa using hown) (Below.refl _ _)
  | some ad =>
    refine wp_append_own w s x t ho base e i0 _ 1 1 ht hi0 hz0 hz1 hz2 rfl (by decide) v l.length _ hs hown ad bs.length cap (bs.map u8) hx (by simp) ?_ ?_ ?_ ?_ hB ?_
    · intro j u hj
      simp only [List.getElem?_map] at hj
      cases hb : bs[j]? with
      | none => rw [hb] at hj; cases hj
      | some y =>
        rw [hb] at hj
        simp only [Option.map_some, Option.some.injEq] at hj
        subst hj
        have hjl : j < bs.length := (List.getElem?_eq_some_iff.1 hb).1
        obtain ⟨bb, bo, hh, _, hr⟩ := h3 (by rintro rfl; simp at hjl)
        cases hh
        have e : (⟨bb, bo, none⟩ : Addr).add j = ⟨bb, bo + j, none⟩ := by unfold Addr.add; split <;> simp_all
        rw [e, hr j hjl, List.getD_eq_getElem?_getD, hb]
        rfl
    · intro u hu; simp at hu; obtain ⟨y, _, rfl⟩ := hu; rfl
    · unfold maxLen; omega
    · omega
    · intro v' w' ho' hg' _
      exact h v' w' (by unfold OwnB; simpa using ho') ((Below.refl base w).grown hg' hB (fun k hk => (World.ownsRow.lt hown k hk).1))
end Go.Mx
namespace Go.Proofs.Ytoccgpddmhhlgaa
open Go.RowKit Go.Mx Go.Crc Go.Str

set_option maxRecDepth 100000 in
set_option maxHeartbeats 2000000 in
theorem rdtake_ok (b : List UInt8) (bv : Value) (p a n : Nat) (w : World) (h : Rd w p bv a false) (hb : SlB w p bv b) (hl : b.length ≤ 1000000000) (hc : a + n ≤ b.length) :
    Calls Try.prog 56 #[.pointer (some ⟨p, 0, none⟩), .int .i64 n] w fun e w' => ∃ v, e = .returned v ∧ OwnB w' w.heap.size 5 v (atB b a n) ∧ Rd w' p bv (a + n) false ∧ Below p w w' ∧ Kept w w' (· ≠ p) := by
  have hpl := h.lt
  have hlb := fun w' => hb.len (P := Try.prog) (ty := 3) Try.underlying25 w'
  obtain ⟨v', hv, hs⟩ := hb.part (P := Try.prog) Try.underlying25 size5 a (a + n) (by omega) hc
  have hle : decide ((b.length : Int) - (a : Int) < (n : Int)) = false := decide_eq_false (by omega)
  have hw1 : IntKind.i64.wrap ((b.length : Int) - (a : Int)) = (b.length : Int) - (a : Int) := IntWalk.i64_in _ (by omega)
  have hw2 : IntKind.i64.wrap (a : Int) = (a : Int) := IntWalk.i64_in _ (by omega)
  obtain ⟨c0, c1, c2, fz⟩ := h.cells
  have fz1 := fz 1
  have HV := hid hv
  have H := hid h
  clear h fz hv hb
  go_enter Try.func56, Try.ntmps56
  go_wp2_with fail
  go_quiet (fail)
  rename_i nq
  have hb1 : Below w.heap.size w (w.drewN nq) := below_drewN (Below.refl _ _) nq
  have R1 := H.out.below hb1
  obtain ⟨w1, hw1x⟩ : ∃ w1, w1 = w.drewN nq := ⟨_, rfl⟩
  rw [← hw1x] at hb1 R1 ⊢
  clear hw1x c0 c1 c2 fz1 hw1 hle
  obtain ⟨c0, c1, c2, fz⟩ := R1.cells
  have fz1 := fz 1
  have hs' : ∀ w' (k k' : IntKind), (Instr.slice 25 bv (some (.int k (a : Int))) (some (.int k' ((a : Int) + (n : Int)))) none).run Try.prog w' = .ok v' w' := by simpa using hs
  obtain ⟨w2, hw2x⟩ : ∃ w2, w2 = w1.setCell ⟨p, 1, none⟩ (.int .i64 ((a : Int) + (n : Int))) := ⟨_, rfl⟩
  have hr2 : w2.heap[p]? = some (.cells #[bv, .int .i64 ((a : Int) + (n : Int)), .bool false] 111 (0, 0)) := by rw [hw2x]; exact heap_set1 w1 p 1 _ _ _ _ R1
  have k2 : Kept w w2 (· ≠ p) := by rw [hw2x]; exact (Kept.of_below hb1 fun _ h _ => h).trans (.set _ _ _ _ fun hn => hn rfl)
  have b2 : Below p w w2 := by rw [hw2x]; exact (hb1.mono (Nat.le_of_lt hpl)).setCell (p := ⟨p, 1, none⟩) (Nat.le_refl _) _
  have hv2 : SlB w2 p v' (atB b a n) := HV.out.below b2 (Nat.le_refl _)
  have hpl2 : p < w2.heap.size := (Array.getElem?_eq_some_iff.1 hr2).1
  have C0 : ∀ w', Below w2.heap.size w2 w' → w'.cell? ⟨p, 0, none⟩ = some bv := fun w' hb => (hb.cell (p := ⟨p, 0, none⟩) hpl2).trans (by simp [World.cell?, hr2])
  have C1 : ∀ w', Below w2.heap.size w2 w' → w'.cell? ⟨p, 1, none⟩ = some (.int .i64 ((a : Int) + (n : Int))) := fun w' hb => (hb.cell (p := ⟨p, 1, none⟩) hpl2).trans (by simp [World.cell?, hr2])
  have HE := hid (And.intro hr2 (And.intro b2 (And.intro k2 hv2)))
  clear hs HV H hb1 R1 hr2 k2 b2 hv2 fz c0
  go_wp2_with fail
  rw [← hw2x]
  clear hw2x c1 c2 fz1
  go_wp2_with fail
  refine wp_region_held_drew (S := (fun w' => Below w2.heap.size w2 w')) (by kernel_rfl) ((Below.refl _ _).drew) (fun hHeld => ?_)
  refine wpAnyH_take (i := 1) (v := ?_) rfl (by kernel_rfl) (by kernel_rfl) (by kernel_rfl) (fun _ _ _ h => h) (Or.inl ⟨by rfl, ?_⟩) (by assumption) ?_
  rotate_left
  · (intro w hSw; (try dsimp only at hSw); go_simp; try (with_reducible rfl))
  try simp only [Act.put, List.getElem_toArray, List.getElem_cons_succ, List.getElem_cons_zero, List.setIfInBounds_toArray, List.set_cons_zero, List.set_cons_succ]
  refine wpAnyH_take (i := 2) (v := ?_) rfl (by kernel_rfl) (by kernel_rfl) (by kernel_rfl) (fun _ _ _ h => h) (Or.inl ⟨by rfl, ?_⟩) (by assumption) ?_
  rotate_left
  · (intro w hSw; (try dsimp only at hSw); go_simp; try (with_reducible rfl))
  try simp only [Act.put, List.getElem_toArray, List.getElem_cons_succ, List.getElem_cons_zero, List.setIfInBounds_toArray, List.set_cons_zero, List.set_cons_succ]
  refine wpAnyH_take (i := 3) (v := ?_) rfl (by kernel_rfl) (by kernel_rfl) (by kernel_rfl) (fun _ _ _ h => h) (Or.inl ⟨by rfl, ?_⟩) (by assumption) ?_
  rotate_left
  · (intro w hSw; (try dsimp only at hSw); go_simp; try (with_reducible rfl))
  try simp only [Act.put, List.getElem_toArray, List.getElem_cons_succ, List.getElem_cons_zero, List.setIfInBounds_toArray, List.set_cons_zero, List.set_cons_succ]
  refine wpAnyH_take (i := 4) (v := ?_) rfl (by kernel_rfl) (by kernel_rfl) (by kernel_rfl) (fun _ _ _ h => h) (Or.inl ⟨by rfl, ?_⟩) (by assumption) ?_
  rotate_left
  · (intro w hSw; (try dsimp only at hSw); go_simp; try (with_reducible rfl))
  try simp only [Act.put, List.getElem_toArray, List.getElem_cons_succ, List.getElem_cons_zero, List.setIfInBounds_toArray, List.set_cons_zero, List.set_cons_succ]
  refine wpAnyH_take (i := 5) (v := ?_) rfl (by kernel_rfl) (by kernel_rfl) (by kernel_rfl) (fun _ _ _ h => h) (Or.inl ⟨by rfl, ?_⟩) (by assumption) ?_
  rotate_left
  · (intro w hSw; (try dsimp only at hSw); go_simp; try (with_reducible rfl))
  try simp only [Act.put, List.getElem_toArray, List.getElem_cons_succ, List.getElem_cons_zero, List.setIfInBounds_toArray, List.set_cons_zero, List.set_cons_succ]
  refine wpAnyH_take (i := 6) (v := ?_) rfl (by kernel_rfl) (by kernel_rfl) (by kernel_rfl) (fun _ _ _ h => h) (Or.inl ⟨by rfl, ?_⟩) (by assumption) ?_
  rotate_left
  · (intro w hSw; (try dsimp only at hSw); go_simp; try (with_reducible rfl))
  try simp only [Act.put, List.getElem_toArray, List.getElem_cons_succ, List.getElem_cons_zero, List.setIfInBounds_toArray, List.set_cons_zero, List.set_cons_succ]
  refine wpAnyH_take (i := 7) (v := ?_) rfl (by kernel_rfl) (by kernel_rfl) (by kernel_rfl) (fun _ _ _ h => h) (Or.inl ⟨by rfl, ?_⟩) (by assumption) ?_
  rotate_left
  · (intro w hSw; (try dsimp only at hSw); go_simp; try (with_reducible rfl))
  try simp only [Act.put, List.getElem_toArray, List.getElem_cons_succ, List.getElem_cons_zero, List.setIfInBounds_toArray, List.set_cons_zero, List.set_cons_succ]
  refine wpAnyH_take (i := 8) (v := ?_) rfl (by kernel_rfl) (by kernel_rfl) (by kernel_rfl) (fun _ _ _ h => h) (Or.inl ⟨by rfl, ?_⟩) (by assumption) ?_
  rotate_left
  · (intro w hSw; (try dsimp only at hSw); go_simp; try (with_reducible rfl))
  try simp only [Act.put, List.getElem_toArray, List.getElem_cons_succ, List.getElem_cons_zero, List.setIfInBounds_toArray, List.set_cons_zero, List.set_cons_succ]
  refine wpAnyH_take (i := 9) (v := ?_) rfl (by kernel_rfl) (by kernel_rfl) (by kernel_rfl) (fun _ _ _ h => h) (Or.inl ⟨by rfl, ?_⟩) (by assumption) ?_
  rotate_left
  · (intro w hSw; (try dsimp only at hSw); go_simp; try (with_reducible rfl))
  try simp only [Act.put, List.getElem_toArray, List.getElem_cons_succ, List.getElem_cons_zero, List.setIfInBounds_toArray, List.set_cons_zero, List.set_cons_succ]
  refine wpAnyH_take (i := 10) (v := ?_) rfl (by kernel_rfl) (by kernel_rfl) (by kernel_rfl) (fun _ _ _ h => h) (Or.inl ⟨by rfl, ?_⟩) (by assumption) ?_
  rotate_left
  · (intro w hSw; (try dsimp only at hSw); go_simp; try (with_reducible rfl))
  try simp only [Act.put, List.getElem_toArray, List.getElem_cons_succ, List.getElem_cons_zero, List.setIfInBounds_toArray, List.set_cons_zero, List.set_cons_succ]
  refine wpAnyH_take (i := 11) (v := ?_) rfl (by kernel_rfl) (by kernel_rfl) (by kernel_rfl) (fun _ _ _ h => h) (Or.inl ⟨by rfl, ?_⟩) (by assumption) ?_
  rotate_left
  · (intro w hSw; (try dsimp only at hSw); go_simp; try (with_reducible rfl))
  try simp only [Act.put, List.getElem_toArray, List.getElem_cons_succ, List.getElem_cons_zero, List.setIfInBounds_toArray, List.set_cons_zero, List.set_cons_succ]
  refine wpAnyH_take (i := 12) (v := ?_) rfl (by kernel_rfl) (by kernel_rfl) (by kernel_rfl) (fun _ _ _ h => h) (Or.inl ⟨by rfl, ?_⟩) (by assumption) ?_
  rotate_left
  · (intro w hSw; (try dsimp only at hSw); go_simp; try (with_reducible rfl))
  try simp only [Act.put, List.getElem_toArray, List.getElem_cons_succ, List.getElem_cons_zero, List.setIfInBounds_toArray, List.set_cons_zero, List.set_cons_succ]
  refine wpAnyH_take (i := 13) (v := ?_) rfl (by kernel_rfl) (by kernel_rfl) (by kernel_rfl) (fun _ _ _ h => h) (Or.inl ⟨by rfl, ?_⟩) (by assumption) ?_
  rotate_left
  · (intro w hSw; (try dsimp only at hSw); go_simp; try (with_reducible rfl))
  try simp only [Act.put, List.getElem_toArray, List.getElem_cons_succ, List.getElem_cons_zero, List.setIfInBounds_toArray, List.set_cons_zero, List.set_cons_succ]
  refine wpAnyH_take (i := 14) (v := ?_) rfl (by kernel_rfl) (by kernel_rfl) (by kernel_rfl) (fun _ _ _ h => h) (Or.inl ⟨by rfl, ?_⟩) (by assumption) ?_
  rotate_left
  · (intro w hSw; (try dsimp only at hSw); go_simp; try (with_reducible rfl))
  try simp only [Act.put, List.getElem_toArray, List.getElem_cons_succ, List.getElem_cons_zero, List.setIfInBounds_toArray, List.set_cons_zero, List.set_cons_succ]
  refine wpAnyH_take (i := 15) (v := ?_) rfl (by kernel_rfl) (by kernel_rfl) (by kernel_rfl) (fun _ _ _ h => h) (Or.inl ⟨by rfl, ?_⟩) (by assumption) ?_
  rotate_left
  · (intro w hSw; (try dsimp only at hSw); go_simp; try (with_reducible rfl))
  try simp only [Act.put, List.getElem_toArray, List.getElem_cons_succ, List.getElem_cons_zero, List.setIfInBounds_toArray, List.set_cons_zero, List.set_cons_succ]
  refine wpAnyH_ready (rs := [0]) (by kernel_rfl) (by simp) (AllReadyH.cons rfl (fun K hK => ?_) AllReadyH.nil)
  go_simp
  refine hK.out _ _ (hHeld.alloc hHeld.size _) (fun hHeld5 => ?_)
  clear hK K
  try simp only [Act.put, List.getElem_toArray, List.getElem_cons_succ, List.getElem_cons_zero, List.setIfInBounds_toArray, List.set_cons_zero, List.set_cons_succ]
  refine wpAnyH_ready (rs := [16]) (by kernel_rfl) (by simp) (AllReadyH.cons rfl (fun K hK => ?_) AllReadyH.nil)
  refine op_append_sl _ _ _ 25 5 rfl Try.underlying25 Try.info5 w2.heap.size _ [] rfl (own_empty _ 5) _ (atB b a n) p rfl (HE.out.2.2.2.below hHeld5 (Nat.le_of_lt hpl2)) ?_ ?_ ?_
  · rw [atB_length b a n hc]; simp; omega
  · exact hHeld5.size
  intro v8 w8 ho8 hb8
  rw [List.nil_append] at ho8
  have hb8' := hHeld5.trans hb8
  refine hK.out _ _ hb8' (fun hHeld8 => ?_)
  clear hK K hHeld
  try simp only [Act.put, List.getElem_toArray, List.getElem_cons_succ, List.getElem_cons_zero, List.setIfInBounds_toArray, List.set_cons_zero, List.set_cons_succ]
  refine wpAnyH_take (i := 17) (v := ?_) rfl (by kernel_rfl) (by kernel_rfl) (by kernel_rfl) (fun _ _ _ h => h) (Or.inl ⟨by rfl, ?_⟩) (by assumption) ?_
  rotate_left
  · (intro w hSw; (try dsimp only at hSw); go_simp; try (with_reducible rfl))
  try simp only [Act.put, List.getElem_toArray, List.getElem_cons_succ, List.getElem_cons_zero, List.setIfInBounds_toArray, List.set_cons_zero, List.set_cons_succ]
  refine wpAnyH_done (by kernel_rfl) ?_ _
  go_wp2_with fail
  go_ret
  exact ⟨_, rfl, ho8.any_base (by have := HE.out.2.2.1.size; omega), (hb8'.block p hpl2).trans HE.out.1, HE.out.2.1.trans (hb8'.mono (Nat.le_of_lt hpl2)), HE.out.2.2.1.trans (.of_below hb8' fun _ h _ => h)⟩

set_option maxRecDepth 100000 in
set_option maxHeartbeats 2000000 in
theorem rdtake_no (b : List UInt8) (bv : Value) (p a n : Nat) (bad : Bool) (w : World) (h : Rd w p bv a bad) (hb : SlB w p bv b) (hl : b.length ≤ 1000000000) (hc : bad = true ∨ (a ≤ b.length ∧ b.length < a + n)) (hn : n ≤ 1000000000) :
    Calls Try.prog 56 #[.pointer (some ⟨p, 0, none⟩), .int .i64 n] w fun e w' => e = .returned (.slice none 0 0) ∧ Rd w' p bv a true ∧ Below p w w' ∧ Kept w w' (· ≠ p) := by
  have hpl := h.lt
  have hlb := fun w' => hb.len (P := Try.prog) (ty := 3) Try.underlying25 w'
  obtain ⟨c0, c1, c2, fz⟩ := h.cells
  have H := hid h
  clear h fz hb
  cases bad
  · have hc : a ≤ b.length ∧ b.length < a + n := hc.resolve_left (by simp)
    have hle : decide ((b.length : Int) - (a : Int) < (n : Int)) = true := decide_eq_true (by omega)
    have hw1 : IntKind.i64.wrap ((b.length : Int) - (a : Int)) = (b.length : Int) - (a : Int) := IntWalk.i64_in _ (by omega)
    go_enter Try.func56, Try.ntmps56
    go_wp2_with fail
    go_quiet (fail)
    rename_i nq
    have hb1 : Below w.heap.size w (w.drewN nq) := below_drewN (Below.refl _ _) nq
    have R1 := H.out.below hb1
    obtain ⟨w1, hw1x⟩ : ∃ w1, w1 = w.drewN nq := ⟨_, rfl⟩
    rw [← hw1x] at hb1 R1 ⊢
    clear hw1x c0 c1 c2
    obtain ⟨c0, c1, c2, fz⟩ := R1.cells
    have fz2 := fz 2
    have hr2 : (w1.setCell ⟨p, 2, none⟩ (.bool true)).heap[p]? = some (.cells #[bv, .int .i64 a, .bool true] 111 (0, 0)) := heap_set1 w1 p 2 _ _ _ _ R1
    have HE := hid (And.intro hr2 (And.intro ((hb1.mono (Nat.le_of_lt hpl)).setCell (p := ⟨p, 2, none⟩) (Nat.le_refl _) (.bool true)) ((Kept.of_below (N := (· ≠ p)) hb1 fun _ h _ => h).trans (.set _ _ 2 (.bool true) fun hn => hn rfl))))
    clear R1 hr2 hb1 fz
    go_wp2_with fail
    go_ret
    exact ⟨rfl, HE.out.1, HE.out.2.1, HE.out.2.2⟩
  · clear hc
    go_enter Try.func56, Try.ntmps56
    go_wp2_with fail
    go_quiet (fail)
    rename_i nq
    have hb1 : Below w.heap.size w (w.drewN nq) := below_drewN (Below.refl _ _) nq
    have R1 := H.out.below hb1
    obtain ⟨w1, hw1x⟩ : ∃ w1, w1 = w.drewN nq := ⟨_, rfl⟩
    rw [← hw1x] at hb1 R1 ⊢
    clear hw1x c0 c1 c2
    obtain ⟨c0, c1, c2, fz⟩ := R1.cells
    have fz2 := fz 2
    have hr2 : (w1.setCell ⟨p, 2, none⟩ (.bool true)).heap[p]? = some (.cells #[bv, .int .i64 a, .bool true] 111 (0, 0)) := heap_set1 w1 p 2 _ _ _ _ R1
    have HE := hid (And.intro hr2 (And.intro ((hb1.mono (Nat.le_of_lt hpl)).setCell (p := ⟨p, 2, none⟩) (Nat.le_refl _) (.bool true)) ((Kept.of_below (N := (· ≠ p)) hb1 fun _ h _ => h).trans (.set _ _ 2 (.bool true) fun hn => hn rfl))))
    clear R1 hr2 hb1 fz
    go_wp2_with fail
    go_ret
    exact ⟨rfl, HE.out.1, HE.out.2.1, HE.out.2.2⟩

end Go.Proofs.Ytoccgpddmhhlgaa
