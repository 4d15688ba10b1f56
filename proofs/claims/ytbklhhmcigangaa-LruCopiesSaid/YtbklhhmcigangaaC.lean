import Derived.Test.YtbklhhmcigangaaB
import Derived.Laws.CopyOwn
import Derived.BigQuiet
import Derived.WalkLawsBesides
namespace Go.Proofs.Ytbklhhmcigangaa
open Go.RowKit Go.Mx Go.Lr
set_option linter.unusedVariables false
set_option linter.unusedSimpArgs false
theorem num_any (n : Int) (w : World) : Calls Try.prog 11 #[.int .i64 n] w fun e w' => e = .returned (.int .i64 n) ∧ w = w' := by
  go_enter Try.func11, Try.ntmps11
  go_wp2
  go_ret
  exact ⟨rfl, rfl⟩
theorem new_ck (w : World) (r : Nat) : CK ((w.alloc (.map #[] 0)).alloc (.cells #[.int .i64 r, .map (some w.heap.size), .int .i64 0] 63)) w.heap.size (w.heap.size + 1) w.heap.size ⟨r, [], 0⟩ [] All := by
  have hz : (w.alloc (.map #[] 0)).heap.size = w.heap.size + 1 := by simp
  refine { all := rfl, ck := ?_, hp := by omega, hm := Nat.le_refl _, mp := ?_, fc := fun i f h => by simp at h, ob := fun i f h => by simp at h, oa := fun i f h => by simp at h, af := fun i j f g h => by simp at h, aa := fun i j f g h => by simp at h, sb := fun i f h => by simp at h, sa := fun i f h => by simp at h }
  · have := alloc_new (w.alloc (.map #[] 0)) (.cells #[.int .i64 r, .map (some w.heap.size), .int .i64 0] 63)
    rw [hz] at this
    exact this
  · refine (PM.made (P := Try.prog) (k := 3) w).block ?_
    exact ((Below.refl (w.alloc (.map #[] 0)).heap.size (w.alloc (.map #[] 0))).alloc (Nat.le_refl _) _).block _ (by omega)
set_option maxRecDepth 100000 in
theorem new_any (r : Nat) (w : World) (h1 : 1 ≤ r) (h2 : r ≤ 1024) : Calls Try.prog 10 #[.int .i64 r] w fun e w' => e = .returned (.tuple #[cp (w.heap.size + 1), .int .i64 0]) ∧ CK w' w.heap.size (w.heap.size + 1) w.heap.size ⟨r, [], 0⟩ [] All ∧ Below w.heap.size w w' := by
  have HD := hid (new_ck w r)
  have t1 : decide ((r : Int) < 1) = false := by simp; omega
  have t2 : decide ((1024 : Int) < (r : Int)) = false := by simp; omega
  have hmm := @run_makeMap Try.prog
  have hb : Below w.heap.size w ((w.alloc (.map #[] 0)).alloc (.cells #[.int .i64 r, .map (some w.heap.size), .int .i64 0] 63)) := ((Below.refl _ _).alloc (Nat.le_refl _) _).alloc (by simp) _
  have HB := hid hb
  clear hb h1 h2
  go_enter Try.func10, Try.ntmps10
  go_wp2
  go_ret2
  exact ⟨rfl, HD.out, HB.out⟩
theorem add_any (b : Nat) (o : Nat) (x : Int) (w : World) (hc : w.cell? ⟨b, o, none⟩ = some (.int .i64 x)) (hz : w.frozen? ⟨b, o, none⟩ = false) :
    Calls Try.prog 50 #[.pointer (some ⟨b, o, none⟩), .int .i64 1] w fun e w' => e = .returned (.int .i64 (IntKind.i64.wrap (x + 1))) ∧ w' = w.setCell ⟨b, o, none⟩ (.int .i64 (IntKind.i64.wrap (x + 1))) := by
  have hadd := run_call_add (P := Try.prog) Try.func66 (by kernel_rfl) (by kernel_rfl) (by kernel_rfl) .i64 (by kernel_rfl) (y := 1) (s := IntKind.i64.wrap (x + 1)) hc hz (by simp [go_sem])
  obtain ⟨y, hy⟩ : ∃ y, y = IntKind.i64.wrap (x + 1) := ⟨_, rfl⟩
  rw [← hy] at hadd ⊢
  clear hy
  go_enter Try.func50, Try.ntmps50
  go_wp2
  go_ret
  exact ⟨rfl, rfl⟩
section
variable {w w' : World} {base p m : Nat} {c : CM} {fs : List PR} {V : Nat → Prop}
/-- a page as it is behind a use -/
def usedPR (f : PR) (n : Nat) : PR := { f with en := { f.en with pg := { f.en.pg with used := n } } }
set_option maxRecDepth 100000 in
theorem use_any (h : CK w base p m c fs V) {i : Nat} {f : PR} (hi : fs[i]? = some f) (hv : V i) (hu : c.uses ≤ 1000000000) :
    Calls Try.prog 28 #[cp p, cp f.fb] w fun e w' => e = .returned (.tuple #[]) ∧ CK w' base p m ⟨c.room, (fs.set i (usedPR f (c.uses + 1))).map (·.en), c.uses + 1⟩ (fs.set i (usedPR f (c.uses + 1))) V ∧ Stp base p m w fs w' (fs.set i (usedPR f (c.uses + 1))) := by
  obtain ⟨c0, c1, c2, fz⟩ := h.cells
  have hw1 : IntKind.i64.wrap ((c.uses : Int) + 1) = ((c.uses + 1 : Nat) : Int) := by rw [IntWalk.i64_in _ (by omega)]; simp
  have HA := add_any p 2 (c.uses : Int) w c2 (fz 2)
  rw [hw1] at HA
  have HA := hid HA
  obtain ⟨h2, s2⟩ := h.setUses (c.uses + 1)
  obtain ⟨w2, hw2⟩ : ∃ w2, w2 = w.setCell ⟨p, 2, none⟩ (.int .i64 ((c.uses + 1 : Nat) : Int)) := ⟨_, rfl⟩
  rw [← hw2] at h2 s2 HA
  obtain ⟨d0, d1, d2, d3, dz⟩ := h2.pcells hi
  have hk : Kept w2 (w2.setCell ⟨f.fb, 2, none⟩ (.int .i64 ((c.uses + 1 : Nat) : Int))) (fun q => q ≠ f.fb) := Kept.set w2 f.fb 2 _ fun hn => hn rfl
  have hset := heap_setCell_at' w2 f.fb 2 (.int .i64 ((c.uses + 1 : Nat) : Int)) _ 66 (0, 0) (h2.fc i f hi).1
  have hob := (h2.ob i f hi).kept hk fun q e => by
    obtain ⟨c9, f9, hc9⟩ := ownB_type (h2.ob i f hi) q e
    exact blk_ne hc9 (h2.fc i f hi).1 (by decide)
  have hoa := ownI_kept (h2.oa i f hi hv) hk fun q e => by
    obtain ⟨c9, f9, hc9⟩ := ownI_type (h2.oa i f hi hv) q e
    exact blk_ne hc9 (h2.fc i f hi).1 (by decide)
  have h3 := h2.setPage hi (usedPR f (c.uses + 1)) rfl rfl hk (fun k _ hne _ => hne) ((Below.refl base w2).setCell (p := ⟨f.fb, 2, none⟩) (h2.fc i f hi).2 _) hset V (fun _ _ hv => hv) hob (fun _ => hoa) (fun _ k e => .inl e) hv (h2.sb i f hi) (h2.sa i f hi)
  have H3 := hid (And.intro h3.1 (s2.trans h3.2))
  obtain ⟨nu, hnu⟩ : ∃ n : Int, n = ((c.uses + 1 : Nat) : Int) := ⟨_, rfl⟩
  rw [← hnu] at HA H3
  clear h h2 s2 h3 hk hset hob hoa hw2 hw1 hnu
  go_enter Try.func28, Try.ntmps28
  go_wp2_with fail
  refine HA.out.mono ?_
  rintro e w3 ⟨rfl, rfl⟩
  go_wp2
  go_end0
  exact ⟨rfl, H3.out.1, H3.out.2⟩
end
theorem Try.info5 : (Try.prog.info? 5).map (fun i => (i.zero, i.size, i.bytes)) = some (some (.int .u8 0), 1, 1) := by kernel_rfl
set_option maxRecDepth 100000 in
theorem clone_b (v : Value) (l : List UInt8) (B : Nat) (w : World) (h : SlB w B v l) (hB : B ≤ w.heap.size) (hl : l.length ≤ 1000000) : Calls Try.prog 27 #[v] w fun e w' => ∃ v', e = .returned v' ∧ OwnB w' w.heap.size 5 v' l ∧ Below w.heap.size w w' := by
  obtain ⟨oa, cap, rfl, h1, h2, h3⟩ := id h
  cases oa with
  | none =>
    have hb : l = [] := by
      cases l with
      | nil => rfl
      | cons y r => obtain ⟨_, _, hh, _⟩ := h3 (by simp); cases hh
    subst hb
    have hq : ∀ w', (binOp .eql 22 (.slice none 0 cap) (.slice none 0 0)).run Try.prog w' = .ok (.bool true) w' := fun w' => run_eql_nil_slice w' 22 5 none 0 cap 0 0 Try.underlying22
    clear h h1 h2 h3
    go_enter Try.func27, Try.ntmps27
    go_wp2
    go_ret
    exact ⟨_, rfl, OwnB.nil _ _ _, Below.refl _ _⟩
  | some ad =>
    obtain ⟨N, hN⟩ : ∃ N, N = l.length := ⟨_, rfl⟩
    rw [← hN] at h
    have hq : ∀ w', (binOp .eql 22 (.slice (some ad) N cap) (.slice none 0 0)).run Try.prog w' = .ok (.bool false) w' := fun w' => Lib.run_eql_slice_nil w' 22 5 _ _ _ _ _ Try.underlying22
    have HH := hid h
    have HN := hid hN
    rw [← hN]
    clear h h1 h2 h3 hN
    go_enter Try.func27, Try.ntmps27
    go_wp2_with (at_builtin; refine append_sl _ rfl _ _ 22 5 rfl Try.underlying22 Try.info5 w.heap.size _ [] rfl (own_empty w 5) _ l B rfl (HH.out.below ((Below.refl _ _).alloc (Nat.le_refl _) _) hB) ?_ ?_ ?_)
    · simp; omega
    · simp
    intro v' w' ho' hb'
    have hb := ((Below.refl w.heap.size w).alloc (Nat.le_refl _) (.cells #[] 5)).trans hb'
    have HO := hid (And.intro ho' hb)
    clear ho' hb' hb
    go_wp2
    go_ret
    exact ⟨_, rfl, by simpa using HO.out.1, HO.out.2⟩
end Go.Proofs.Ytbklhhmcigangaa
