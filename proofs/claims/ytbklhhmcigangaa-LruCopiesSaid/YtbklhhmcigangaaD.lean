import Derived.Test.YtbklhhmcigangaaC
namespace Go.Proofs.Ytbklhhmcigangaa
open Go.RowKit Go.Mx Go.Lr
set_option linter.unusedVariables false
set_option linter.unusedSimpArgs false
theorem zero64 (w : World) : (zeroValue 64).run Try.prog w = .ok (.pointer none) w := by kernel_rfl
def isI (k : Int) : Prop := -9223372036854775808 ≤ k ∧ k ≤ 9223372036854775807
theorem isI.wf {k : Int} (h : isI k) : (Lit.int .i64 k).wf = true := by
  unfold isI at h
  simp [Lit.wf, IntKind.min, IntKind.max, IntKind.bits, IntKind.signed]
  omega
section
variable {w w' : World} {base p m : Nat} {c : CM} {fs : List PR} {V : Nat → Prop}
theorem CK.look (h : CK w base p m c fs V) (k : Int) (hk : isI k) : (Instr.lookup 56 (.map (some m)) (.int .i64 k) false).run Try.prog w = .ok (pv (Mx.look (plOf fs) k)) w :=
  h.mp.look Try.underlying3 Try.underlying56 zero64 k hk.wf
theorem CK.len (h : CK w base p m c fs V) (ty : TypeId) : (Builtin.len_ #[56] ty #[.map (some m)]).run Try.prog w = .ok (.int .i64 fs.length) w := by
  have := h.mp.len (P := Try.prog) Try.underlying56 ty
  rwa [show (plOf fs).length = fs.length by simp [plOf]] at this
theorem CK.lookAt (h : CK w base p m c fs V) {i : Nat} {f : PR} (hi : fs[i]? = some f) : Mx.look (plOf fs) f.en.k = some f.fb := by
  rcases h.who f.en.k with ⟨hl, _⟩ | ⟨j, g, hj, hgn, hl, _⟩
  · rw [look_none, plOf_names] at hl; exact absurd (List.mem_map.2 ⟨f, List.mem_of_getElem? hi, rfl⟩) hl
  · rw [hl]
    have hnd := h.mp.nodup
    rw [plOf_names] at hnd
    have h1 : (fs.map (·.en.k))[j]? = some g.en.k := by rw [List.getElem?_map, hj]; rfl
    have h2 : (fs.map (·.en.k))[i]? = some f.en.k := by rw [List.getElem?_map, hi]; rfl
    rw [hgn] at h1
    have l1 := (List.getElem?_eq_some_iff.1 h1)
    have l2 := (List.getElem?_eq_some_iff.1 h2)
    have hij : j = i := by
      have key := List.pairwise_iff_getElem.1 hnd
      rcases Nat.lt_trichotomy j i with h3 | h3 | h3
      · exact absurd (l1.2.trans l2.2.symm) (key j i l1.1 l2.1 h3)
      · exact h3
      · exact absurd (l2.2.trans l1.2.symm) (key i j l2.1 l1.1 h3)
    subst hij
    rw [hi] at hj
    cases hj; rfl
/-- the page behind a Put -/
def putPR (f : PR) (b : List UInt8) (bv : Value) (dirty : Bool) (n : Nat) : PR := { f with bv := bv, en := { f.en with pg := { f.en.pg with b := b, dirty := f.en.pg.dirty || dirty, used := n } } }
/-- what a Put does to a page that is there, ahead of the room's check -/
def PutAt (base p m : Nat) (c : CM) (fs : List PR) (w : World) (i : Nat) (f : PR) (b : List UInt8) (dirty : Bool) (w' : World) : Prop :=
  ∃ bv, CK w' base p m ⟨c.room, (fs.set i (putPR f b bv dirty (c.uses + 1))).map (·.en), c.uses + 1⟩ (fs.set i (putPR f b bv dirty (c.uses + 1))) All ∧ Stp base p m w fs w' (fs.set i (putPR f b bv dirty (c.uses + 1)))
/-- the steps of a Put on a page: its bytes, its mark, its use -/
theorem CK.putAt (h : CK w base p m c fs All) {i : Nat} {f : PR} (hi : fs[i]? = some f) {w1 : World} {bv : Value} {b : List UInt8} (hb1 : Below w.heap.size w w1) (hob : OwnB w1 w.heap.size 5 bv b) (dirty : Bool) (hu : c.uses ≤ 1000000000) :
    let w2 := w1.setCell ⟨f.fb, 0, none⟩ bv
    let w3 := w2.setCell ⟨f.fb, 1, none⟩ (.bool (f.en.pg.dirty || dirty))
    w1.cell? ⟨f.fb, 0, none⟩ = some f.bv ∧ w1.cell? ⟨f.fb, 1, none⟩ = some (.bool f.en.pg.dirty) ∧ w2.cell? ⟨f.fb, 1, none⟩ = some (.bool f.en.pg.dirty) ∧ (∀ j, w1.frozen? ⟨f.fb, j, none⟩ = false) ∧ (∀ j, w2.frozen? ⟨f.fb, j, none⟩ = false) ∧
      (∃ fs3 : List PR, (∃ g, fs3[i]? = some g ∧ g.fb = f.fb) ∧ Calls Try.prog 28 #[cp p, cp f.fb] w3 fun e w' => e = .returned (.tuple #[]) ∧ PutAt base p m c fs w i f b dirty w') := by
  intro w2 w3
  have h1 := h.below hb1
  have s1 : Stp base p m w fs w1 fs := Stp.of_below hb1 h.base_le
  obtain ⟨d0, d1, d2, d3, dz⟩ := h1.pcells hi
  have hk2 : Kept w1 w2 (fun q => q ≠ f.fb) := Kept.set w1 f.fb 0 _ fun hn => hn rfl
  have q1 := (h1.fc i f hi).1
  have q2 : w2.heap[f.fb]? = some (.cells #[bv, .bool f.en.pg.dirty, .int .i64 f.en.pg.used, f.av] 66 (0, 0)) := heap_setCell_at' w1 f.fb 0 bv _ 66 (0, 0) q1
  have hk3 : Kept w2 w3 (fun q => q ≠ f.fb) := Kept.set w2 f.fb 1 _ fun hn => hn rfl
  have q3 : w3.heap[f.fb]? = some (.cells #[bv, .bool (f.en.pg.dirty || dirty), .int .i64 f.en.pg.used, f.av] 66 (0, 0)) := heap_setCell_at' w2 f.fb 1 _ _ 66 (0, 0) q2
  have hk13 := hk2.trans hk3
  have hbl : base ≤ w.heap.size := h.base_le
  let F : PR := { f with bv := bv, en := { f.en with pg := { f.en.pg with b := b, dirty := f.en.pg.dirty || dirty } } }
  have hoB : OwnB w3 base 5 bv b := (OwnB.any_base hob hbl).kept hk13 fun q e => by
    obtain ⟨c9, f9, hc9⟩ := ownB_type hob q e
    exact blk_ne hc9 q1 (by decide)
  have hoA : OwnI w3 base f.av f.en.pg.after := ownI_kept (h1.oa i f hi trivial) hk13 fun q e => by
    obtain ⟨c9, f9, hc9⟩ := ownI_type (h1.oa i f hi trivial) q e
    exact blk_ne hc9 q1 (by decide)
  have hfb := (h.fc i f hi).2
  have hset := h1.setPage hi F rfl rfl hk13 (fun k _ hne _ => hne) ((((Below.refl base w1).setCell (p := ⟨f.fb, 0, none⟩) hfb bv)).setCell (p := ⟨f.fb, 1, none⟩) hfb _) q3 All (fun _ _ hv => hv) hoB (fun _ => hoA) (fun _ k e => .inl e) trivial (by
    rcases (slB_shape hob.slB) with ⟨x, y, z, hh⟩; exact ⟨x, y, z, hh⟩) (h.sa i f hi)
  have hg : (fs.set i F)[i]? = some F := by rw [List.getElem?_set_self (List.getElem?_eq_some_iff.1 hi).1]
  refine ⟨d0, d1, by simp [World.cell?, q2], dz, fun j => by simp [World.frozen?, q2], fs.set i F, ⟨F, hg, rfl⟩, ?_⟩
  refine (use_any hset.1 hg trivial hu).mono ?_
  rintro e w' ⟨rfl, hc, hs⟩
  refine ⟨rfl, bv, ?_⟩
  rw [List.set_set] at hc hs
  exact ⟨hc, (s1.trans hset.2).trans hs⟩
end
end Go.Proofs.Ytbklhhmcigangaa
