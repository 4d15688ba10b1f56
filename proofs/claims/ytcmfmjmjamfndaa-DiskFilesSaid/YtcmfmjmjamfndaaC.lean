import Derived.Test.YtcmfmjmjamfndaaB
import Derived.Deep.MidRow
namespace Go.Mx
open Go.RowKit
set_option linter.unusedSimpArgs false
set_option linter.unusedVariables false
theorem OwnG.empty (w : World) (e : TypeId) (s : Nat) : OwnG (w.alloc (.cells #[] e)) w.heap.size e s (.slice (some ⟨w.heap.size, 0, none⟩) 0 0) [] :=
  ⟨World.ownsRow_made w #[] 0 (Nat.le_refl _) (by simp [maxLen]) (by simp), by simp⟩
theorem flat_len {s : Nat} : ∀ (l : List (List Value)), (∀ r ∈ l, r.length = s) → l.flatten.length = l.length * s
  | [], _ => by simp
  | r :: l, h => by rw [List.flatten_cons, List.length_append, h r (by simp), flat_len l fun x hx => h x (by simp [hx]), List.length_cons, Nat.succ_mul]; omega
/-- 'append(out, xs...)' of rows that are one's own -/
theorem append_gs {P : Program} (w : World) {ops : Array Oper} {rest : List Oper} {o : Oper} {a : Act} {Q : Exit → Act → World → Prop} (hgd : o.guard = none) (s x : Operand) (t e : TypeId) (z : Value) (sz bytes : Nat)
    (ho : o.op = .call { callee := .builtin .append, args := #[s, x], argTypes := #[t, t] })
    (ht : P.underlying t = some (.slice e)) (hi : (P.info? e).map (fun i => (i.zero, i.size, i.bytes)) = some (some z, sz, bytes)) (hz : z.cells.size = sz) (hsz : 0 < sz)
    (base : Nat) (v : Value) (rows : List (List Value)) (hs : a.eval s = v) (hown : OwnG w base e sz v rows) (base2 : Nat) (e2 : TypeId) (v2 : Value) (rows2 : List (List Value)) (hx : a.eval x = v2) (hown2 : OwnG w base2 e2 sz v2 rows2)
    (hone : ∀ r ∈ rows2, ∀ u ∈ r, u.oneCell' = true)
    (hlen : (rows.length + rows2.length) * bytes ≤ 140737488355328) (hlen2 : rows.length + rows2.length ≤ 140737488355328) (hB : base ≤ w.heap.size)
    (h : ∀ v' w', OwnG w' base e sz v' (rows ++ rows2) → w.grownBy w' v.ownBlock → Below base w w' → wpList P ops Q rest (a.put o.dst v') w') : wpList P ops Q (o :: rest) a w := by
  obtain ⟨i0, hi0, hz0, hz1, hz2⟩ := info_parts hi
  rcases hown2.shape with ⟨rfl, rfl⟩ | ⟨g, c, rfl, hg1, hg2⟩
  · refine wpList_plain hgd fun K hK => ?_
    have hrun := run_append_nosrc (P := P) (w := w) (ty := o.type) ht hi0 hown.1 0
    unfold Oper.wp
    simp [execOp, ho, resolve, invoke, builtin, hs, hx, hrun, Result.andThen]
    exact hK _ _ (h v w (by simpa using hown) (World.grownBy.refl w _) (Below.refl _ _))
  · refine wpList_append_own w hgd s x t ho base e i0 _ sz bytes ht hi0 hz0 hz1 hz2 hz hsz v rows.length _ hs hown.1 ⟨g, 0, none⟩ rows2.length c rows2.flatten hx (flat_len _ hown2.2) ?_ ?_ ?_ hlen hB ?_
    · intro j u hj
      exact World.ownsRow.cells hown2.1 rfl j u hj
    · intro u hu
      obtain ⟨r, hr, hu⟩ := List.mem_flatten.1 hu
      exact hone r hr u hu
    · unfold maxLen; omega
    · intro v' w' ho' hg' _
      refine h v' w' ⟨by simpa using ho', ?_⟩ hg' ((Below.refl base w).grown hg' hB (fun k hk => (World.ownsRow.lt hown.1 k hk).1))
      intro r hr
      rcases List.mem_append.1 hr with hr | hr
      · exact hown.2 r hr
      · exact hown2.2 r hr
end Go.Mx
namespace Go.Proofs.Ytcmfmjmjamfndaa
open Go.RowKit Go.Mx Go.Dk
set_option linter.unusedSimpArgs false
set_option linter.unusedVariables false
theorem Try.info5 : (Try.prog.info? 5).map (fun i => (i.zero, i.size, i.bytes)) = some (some (.int .u8 0), 1, 1) := by kernel_rfl
theorem srow_one (s : Sec) : ∀ u ∈ srow s, u.oneCell' = true := by
  intro u hu; unfold srow at hu; simp at hu; obtain ⟨y, _, rfl⟩ := hu; rfl
theorem srow_len (s : Sec) : (srow s).length = s.length := by simp [srow]
theorem repl_set (c : UInt8) (j : Nat) (hj : j < 16) : (List.replicate j c ++ List.replicate (16 - j) 0).set j c = List.replicate (j + 1) c ++ List.replicate (16 - (j + 1)) 0 := by
  rw [List.set_append_right _ _ (by simp), List.length_replicate, Nat.sub_self, show 16 - j = (16 - (j + 1)) + 1 by omega, List.replicate_succ, List.set_cons_zero, List.replicate_succ', List.append_assoc]; rfl

set_option maxRecDepth 100000 in
theorem sector_any (c : UInt8) (w : World) : Calls Try.prog 15 #[.int .u8 c.toNat] w fun e w' => ∃ v, e = .returned v ∧ OwnB w' w.heap.size 5 v (List.replicate 16 c) ∧ Below w.heap.size w w' := by
  go_enter Try.func15, Try.ntmps15
  go_wp2_with (at_make; refine make_bytes _ rfl _ _ 22 5 rfl Try.underlying22 Try.info5 w.heap.size _ _ _ _ 16 rfl rfl ?_ ?_ ?_ ?_ ?_)
  · rfl
  · rfl
  · omega
  · omega
  intro v1 w1 ho1 hb1 hv1
  subst hv1
  go_wp2_with fail
  go_loopw [4] (fun i wr => ∃ (j : Nat), j ≤ 16 ∧ i = .int .i64 j ∧ OwnB wr w.heap.size 5 (.slice (some ⟨w.heap.size, 0, none⟩) 16 16) (List.replicate j c ++ List.replicate (16 - j) 0) ∧ Below w.heap.size w wr) (fun i _ => 16 - (intOf i).toNat)
  case atStart => exact ⟨0, by omega, rfl, by simpa using ho1, hb1⟩
  case round =>
    obtain ⟨j, hj, rfl, ho, hbel⟩ := hrel
    clear ho1 hb1
    by_cases hjn : j < 16
    · have hcell := ho.cellAt j (by simp; omega)
      have hfz := ho.fz j
      have ho' := (ho.store j c).resolve_right (by simp; omega)
      rw [repl_set c j hjn] at ho'
      have hbel' := hbel.setCell (p := ⟨w.heap.size, j, none⟩) (Nat.le_refl _) (Mx.u8 c)
      have HO := hid (And.intro ho' hbel')
      clear ho' hbel' ho
      go_wp2_with fail
      go_roundw
      case rel => exact ⟨j + 1, by omega, by go_num, HO.out.1, HO.out.2⟩
      case measure => simp [intOf]; omega
    · obtain rfl : j = 16 := by omega
      go_wp2
      go_ret
      exact ⟨_, rfl, by simpa using ho, hbel⟩

set_option maxRecDepth 100000 in
theorem clone_any (v : Value) (l : List Sec) (base : Nat) (w : World) (h : OwnG w base 71 16 v (l.map srow)) (hl : l.length ≤ 65536) : Calls Try.prog 30 #[v] w fun e w' => ∃ v', e = .returned v' ∧ OwnG w' w.heap.size 71 16 v' (l.map srow) ∧ Below w.heap.size w w' := by
  have hone : ∀ r ∈ l.map srow, ∀ u ∈ r, u.oneCell' = true := by
    intro r hr; simp at hr; obtain ⟨s, _, rfl⟩ := hr; exact srow_one s
  rcases h.shape with ⟨rfl, hn⟩ | ⟨g, c, rfl, hg1, hg2⟩
  · rw [hn]
    clear h hone
    have hq : ∀ w', (binOp .eql 63 (.slice none 0 0) (.slice none 0 0)).run Try.prog w' = .ok (.bool true) w' := fun w' => run_eql_nil_slice w' 63 71 none 0 0 0 0 Try.underlying63
    go_enter Try.func30, Try.ntmps30
    go_wp2
    go_ret
    exact ⟨_, rfl, OwnG.nil _ _ _ _, Below.refl _ _⟩
  · rw [List.length_map] at h ⊢
    have hq : ∀ w', (binOp .eql 63 (.slice (some ⟨g, 0, none⟩) l.length c) (.slice none 0 0)).run Try.prog w' = .ok (.bool false) w' := fun w' => Lib.run_eql_slice_nil w' 63 71 _ _ _ _ _ Try.underlying63
    go_enter Try.func30, Try.ntmps30
    go_wp2_with (at_builtin; refine append_gs _ rfl _ _ 63 71 zsec 16 16 rfl Try.underlying63 Try.info71 rfl (by decide) w.heap.size _ [] rfl (OwnG.empty w 71 16) base 71 _ (l.map srow) rfl (h.below ((Below.refl _ _).alloc (Nat.le_refl _) _) (Nat.le_refl _)) hone ?_ ?_ ?_ ?_)
    · simp; omega
    · simp; omega
    · first | exact Nat.le_refl _ | (simp; try omega)
    intro v' w' ho' hg' hb'
    have hb := ((Below.refl w.heap.size w).alloc (Nat.le_refl _) (.cells #[] 71)).trans hb'
    have ho' : OwnG w' w.heap.size 71 16 v' (l.map srow) := ho'
    clear h hg' hb'
    go_wp2
    go_ret
    exact ⟨_, rfl, ho', hb⟩
end Go.Proofs.Ytcmfmjmjamfndaa
