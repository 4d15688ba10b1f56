import Derived.Test.YtmcllcepoiakeaaGreatUA
import Derived.Laws.CopyOwn
import Derived.BigQuiet
import Derived.WalkLawsBesides
set_option linter.unusedSimpArgs false
set_option linter.unusedVariables false
namespace Go.Proofs.YtmcllcepoiakeaaGreat.Ux
open Go.RowKit Go.Mx Go.Mi Go.Lr
end Go.Proofs.YtmcllcepoiakeaaGreat.Ux
namespace Go.Mx
theorem Kept.imp {w w' : World} {N M : Nat → Prop} (h : Kept w w' N) (hi : ∀ k, k < w.heap.size → M k → N k) : Kept w w' M := ⟨h.size, fun k hk hm => h.block k hk (hi k hk hm)⟩
end Go.Mx
namespace Go.Proofs.YtmcllcepoiakeaaGreat.Ux
open Go.RowKit Go.Mx Go.Mi Go.Lr
section
variable {w w' : World} {base p m : Nat} {c : CM} {fs : List PR} {V : Nat → Prop}
/-- one page is another one now -/
theorem CK.setPage (h : CK w base p m c fs V) {i : Nat} {f : PR} (hi : fs[i]? = some f) (f' : PR) (hk : f'.en.k = f.en.k) (hb : f'.fb = f.fb) {N : Nat → Prop} (hkp : Kept w w' N) (hN : ∀ k, k < w.heap.size → k ≠ f.fb → (V i → f.av.ownBlock ≠ some k) → N k) (hbel : Below base w w')
    (hset : w'.heap[f.fb]? = some (.cells (Go.Proofs.YtmcllcepoiakeaaGreat.Ux.pcells f') 387 (0, 0))) (V' : Nat → Prop) (hV : ∀ j, j ≠ i → V' j → V j) (hob : OwnB w' base 5 f'.bv f'.en.pg.b) (hoa : V' i → OwnI w' base f'.av f'.en.pg.after)
    (hblk : V i → ∀ k, f'.av.ownBlock = some k → f.av.ownBlock = some k ∨ w.heap.size ≤ k) (hVi : V i) (hsb : ∃ oa n c, f'.bv = .slice oa n c) (hsa : ∃ oa n c, f'.av = .slice oa n c) :
    CK w' base p m { c with all := (fs.set i f').map (·.en) } (fs.set i f') V' ∧ Stp base p m w fs w' (fs.set i f') := by
  obtain ⟨o, hmo, ho⟩ := h.mapObj
  have hfc := (h.fc i f hi).1
  have hNc : ∀ q c t fr, w.heap[q]? = some (.cells c t fr) → t ≠ 3 → q ≠ f.fb → N q := fun q c t fr hq ht hne => hN q (blk_lt hq) hne fun hv => ownI_not (h.oa i f hi hv) hq ht
  have hNp : N p := hNc _ _ _ _ h.ck (by decide) (blk_ne h.ck hfc (by decide))
  have hNm : N m := hN m h.mp.lt (not_cells hmo ho hfc).symm fun hv => ownI_notMap (h.oa i f hi hv) hmo ho
  have key : ∀ {j : Nat} {g : PR}, (fs.set i f')[j]? = some g → (j = i ∧ g = f') ∨ (j ≠ i ∧ fs[j]? = some g) := by
    intro j g hj
    rw [set_get fs i j _ _ hi] at hj
    split at hj
    · rename_i e; left; exact ⟨e, (Option.some.inj hj).symm⟩
    · rename_i e; right; exact ⟨e, hj⟩
  have hpl : plOf (fs.set i f') = plOf fs := by
    unfold plOf
    rw [List.map_set, hk, hb]
    apply List.ext_getElem?
    intro j
    rw [List.getElem?_set]
    split
    · rename_i e; subst e; rw [List.length_map, if_pos (List.getElem?_eq_some_iff.1 hi).1, List.getElem?_map, hi]; rfl
    · rfl
  refine ⟨{ all := rfl, ck := (hkp.block p h.plt hNp).trans h.ck, hp := h.hp, hm := h.hm, mp := by rw [hpl]; exact h.mp.block (hkp.block m h.mp.lt hNm), fc := ?_, ob := ?_, oa := ?_, af := ?_, aa := ?_, sb := ?_, sa := ?_ }, ?_⟩
  · intro j g hj
    rcases key hj with ⟨_, rfl⟩ | ⟨hne, hj⟩
    · exact ⟨by rw [hb]; exact hset, by rw [hb]; exact (h.fc i f hi).2⟩
    · have hg := (h.fc j g hj).1
      exact ⟨(hkp.block _ (blk_lt hg) (hNc _ _ _ _ hg (by decide) (h.af j i g f hj hi hne))).trans hg, (h.fc j g hj).2⟩
  · intro j g hj
    rcases key hj with ⟨_, rfl⟩ | ⟨hne, hj⟩
    · exact hob
    · refine (h.ob j g hj).kept hkp fun k e => ?_
      obtain ⟨c9, f9, hc9⟩ := ownB_type (h.ob j g hj) k e
      exact hNc _ _ _ _ hc9 (by decide) (blk_ne hc9 hfc (by decide))
  · intro j g hj hv
    rcases key hj with ⟨e, rfl⟩ | ⟨hne, hj⟩
    · exact hoa (e ▸ hv)
    · have hgo := h.oa j g hj (hV j hne hv)
      refine ownI_kept hgo hkp fun k e => ?_
      obtain ⟨c9, f9, hc9⟩ := ownI_type hgo k e
      exact hN k (blk_lt hc9) (blk_ne hc9 hfc (by decide)) fun hvi e2 => h.aa i j f g hi hj hvi (hV j hne hv) (Ne.symm hne) k e2 e
  · intro a b f1 f2 ha hb' hab
    rcases key ha with ⟨e1, rfl⟩ | ⟨n1, ga⟩ <;> rcases key hb' with ⟨e2, rfl⟩ | ⟨n2, gb⟩
    · omega
    · rw [hb]; exact h.af i b f f2 hi gb (by omega)
    · rw [hb]; exact h.af a i f1 f ga hi (by omega)
    · exact h.af a b f1 f2 ga gb hab
  · intro a b f1 f2 ha hb' va vb hab k h1 h2
    rcases key ha with ⟨e1, rfl⟩ | ⟨n1, ga⟩ <;> rcases key hb' with ⟨e2, rfl⟩ | ⟨n2, gb⟩
    · omega
    · rcases hblk hVi k h1 with h3 | h3
      · exact h.aa i b f f2 hi gb hVi (hV b n2 vb) (by omega) k h3 h2
      · have := OwnV.lt (h.oa b f2 gb (hV b n2 vb)) k h2; omega
    · rcases hblk hVi k h2 with h3 | h3
      · exact h.aa a i f1 f ga hi (hV a n1 va) hVi (by omega) k h1 h3
      · have := OwnV.lt (h.oa a f1 ga (hV a n1 va)) k h1; omega
    · exact h.aa a b f1 f2 ga gb (hV a n1 va) (hV b n2 vb) hab k h1 h2
  · intro j g hj
    rcases key hj with ⟨_, rfl⟩ | ⟨hne, hj⟩
    · exact hsb
    · exact h.sb j g hj
  · intro j g hj
    rcases key hj with ⟨_, rfl⟩ | ⟨hne, hj⟩
    · exact hsa
    · exact h.sa j g hj
  · refine ⟨hbel, hkp.imp fun k hlt hfr => hN k hlt (hfr.2.2 i f hi).1 fun _ => (hfr.2.2 i f hi).2, fun k hlt hfr => ⟨hfr.1, hfr.2.1, fun j g hj => ?_⟩⟩
    rcases key hj with ⟨_, rfl⟩ | ⟨hne, hj⟩
    · refine ⟨by rw [hb]; exact (hfr.2.2 i f hi).1, fun e => ?_⟩
      rcases hblk hVi k e with h3 | h3
      · exact (hfr.2.2 i f hi).2 h3
      · omega
    · exact hfr.2.2 j g hj
/-- the counter turns -/
theorem CK.setUses (h : CK w base p m c fs V) (n : Nat) : CK (w.setCell ⟨p, 2, none⟩ (.int .i64 n)) base p m { c with uses := n } fs V ∧ Stp base p m w fs (w.setCell ⟨p, 2, none⟩ (.int .i64 n)) fs := by
  obtain ⟨o, hmo, ho⟩ := h.mapObj
  have hk : Kept w (w.setCell ⟨p, 2, none⟩ (.int .i64 n)) (fun q => q ≠ p) := Kept.set w p 2 _ fun hn => hn rfl
  refine ⟨{ all := h.all, ck := heap_setCell_at' w p 2 _ _ 307 (0, 0) h.ck, hp := h.hp, hm := h.hm, mp := h.mp.block (hk.block m h.mp.lt (not_cells hmo ho h.ck).symm),
            fc := fun i f hi => ⟨(hk.block _ (blk_lt (h.fc i f hi).1) (blk_ne (h.fc i f hi).1 h.ck (by decide))).trans (h.fc i f hi).1, (h.fc i f hi).2⟩, ob := fun i f hi => (h.ob i f hi).kept hk fun k e => ?_, oa := fun i f hi hv => ownI_kept (h.oa i f hi hv) hk fun k e => ?_,
            af := h.af, aa := h.aa, sb := h.sb, sa := h.sa }, ⟨(Below.refl base w).setCell (p := ⟨p, 2, none⟩) h.hp _, hk.imp fun k _ hf => hf.1, fun _ _ hf => hf⟩⟩
  · obtain ⟨c9, f9, hc9⟩ := ownB_type (h.ob i f hi) k e
    exact blk_ne hc9 h.ck (by decide)
  · obtain ⟨c9, f9, hc9⟩ := ownI_type (h.oa i f hi hv) k e
    exact blk_ne hc9 h.ck (by decide)
theorem newPR_at {α : Type} {l : List α} {y z : α} {i : Nat} (h : (l ++ [y])[i]? = some z) : l[i]? = some z ∨ (i = l.length ∧ z = y) := by
  rcases Nat.lt_or_ge i l.length with h1 | h1
  · rw [List.getElem?_append_left h1] at h; exact .inl h
  · rw [List.getElem?_append_right h1] at h
    obtain ⟨k, hk⟩ : ∃ k, i - l.length = k := ⟨_, rfl⟩
    rw [hk] at h
    cases k with
    | zero => simp at h; exact .inr ⟨by omega, h.symm⟩
    | succ k => simp at h
/-- a new page -/
theorem CK.addPage (h : CK w base p m c fs V) (k : Int) (b : Nat) (hb : w.heap.size ≤ b) (hkp : Kept w w' (fun q => q ≠ m)) (hbel : Below base w w') (hnb : w'.heap[b]? = some (.cells #[.slice none 0 0, .bool false, .int .i64 0, .slice none 0 0] 387 (0, 0)))
    (hm : PM Tryz.prog 3 w' m (plOf (fs ++ [⟨⟨k, ⟨[], false, 0, []⟩⟩, b, .slice none 0 0, .slice none 0 0⟩]))) :
    CK w' base p m { c with all := c.all ++ [⟨k, ⟨[], false, 0, []⟩⟩] } (fs ++ [⟨⟨k, ⟨[], false, 0, []⟩⟩, b, .slice none 0 0, .slice none 0 0⟩]) (fun j => V j ∨ j = fs.length) ∧ Stp base p m w fs w' (fs ++ [⟨⟨k, ⟨[], false, 0, []⟩⟩, b, .slice none 0 0, .slice none 0 0⟩]) := by
  obtain ⟨o, hmo, ho⟩ := h.mapObj
  have hold := fun {q : Nat} {c : Array Value} {t : TypeId} {fr : Nat × Nat} (hq : w.heap[q]? = some (.cells c t fr)) => (hkp.block q (blk_lt hq) (not_cells hmo ho hq)).trans hq
  have hbl := h.base_le
  have hlen : ∀ i f, fs[i]? = some f → i < fs.length := fun i f hi => (List.getElem?_eq_some_iff.1 hi).1
  refine ⟨{ all := by show c.all ++ _ = _; rw [h.all]; simp, ck := hold h.ck, hp := h.hp, hm := h.hm, mp := hm, fc := ?_, ob := ?_, oa := ?_, af := ?_, aa := ?_, sb := ?_, sa := ?_ }, ⟨hbel, hkp.imp fun q _ hf => hf.2.1, fun q hq hf => ⟨hf.1, hf.2.1, fun i f hi => ?_⟩⟩⟩
  · intro i f hi
    rcases newPR_at hi with hi | ⟨_, rfl⟩
    · exact ⟨hold (h.fc i f hi).1, (h.fc i f hi).2⟩
    · exact ⟨hnb, by show base ≤ b; omega⟩
  · intro i f hi
    rcases newPR_at hi with hi | ⟨_, rfl⟩
    · refine (h.ob i f hi).kept hkp fun q e => ?_
      obtain ⟨c9, f9, hc9⟩ := ownB_type (h.ob i f hi) q e
      exact not_cells hmo ho hc9
    · exact OwnB.nil _ _ _
  · intro i f hi hv
    rcases newPR_at hi with hi | ⟨_, rfl⟩
    · have hv : V i := hv.resolve_right (by have := hlen i f hi; omega)
      refine ownI_kept (h.oa i f hi hv) hkp fun q e => ?_
      obtain ⟨c9, f9, hc9⟩ := ownI_type (h.oa i f hi hv) q e
      exact not_cells hmo ho hc9
    · exact OwnV.nil _ _ _
  · intro i j f g hi hj hij
    rcases newPR_at hi with hi | ⟨e1, rfl⟩ <;> rcases newPR_at hj with hj | ⟨e2, rfl⟩
    · exact h.af i j f g hi hj hij
    · have := blk_lt (h.fc i f hi).1; show f.fb ≠ b; omega
    · have := blk_lt (h.fc j g hj).1; show b ≠ g.fb; omega
    · omega
  · intro i j f g hi hj hv hv2 hij q h1 h2
    rcases newPR_at hi with hi | ⟨e1, rfl⟩ <;> rcases newPR_at hj with hj | ⟨e2, rfl⟩
    · exact h.aa i j f g hi hj (hv.resolve_right (by have := hlen i f hi; omega)) (hv2.resolve_right (by have := hlen j g hj; omega)) hij q h1 h2
    · cases h2
    · cases h1
    · cases h1
  · intro i f hi
    rcases newPR_at hi with hi | ⟨_, rfl⟩
    · exact h.sb i f hi
    · exact ⟨_, _, _, rfl⟩
  · intro i f hi
    rcases newPR_at hi with hi | ⟨_, rfl⟩
    · exact h.sa i f hi
    · exact ⟨_, _, _, rfl⟩
  · rcases newPR_at hi with hi | ⟨_, rfl⟩
    · exact hf.2.2 i f hi
    · exact ⟨by show q ≠ b; omega, by intro e; cases e⟩
theorem CK.weaken (h : CK w base p m c fs V) {V' : Nat → Prop} (hv : ∀ i, V' i → V i) : CK w base p m c fs V' :=
  { h with oa := fun i f hi h' => h.oa i f hi (hv _ h'), aa := fun i j f g hi hj ha hb => h.aa i j f g hi hj (hv _ ha) (hv _ hb) }
end
theorem new_ck (w : World) (r : Nat) : CK ((w.alloc (.map #[] 0)).alloc (.cells #[.int .i64 r, .map (some w.heap.size), .int .i64 0] 307)) w.heap.size (w.heap.size + 1) w.heap.size ⟨r, [], 0⟩ [] All := by
  have hz : (w.alloc (.map #[] 0)).heap.size = w.heap.size + 1 := by simp
  refine { all := rfl, ck := ?_, hp := by omega, hm := Nat.le_refl _, mp := ?_, fc := fun i f h => by simp at h, ob := fun i f h => by simp at h, oa := fun i f h => by simp at h, af := fun i j f g h => by simp at h, aa := fun i j f g h => by simp at h, sb := fun i f h => by simp at h, sa := fun i f h => by simp at h }
  · have := alloc_new (w.alloc (.map #[] 0)) (.cells #[.int .i64 r, .map (some w.heap.size), .int .i64 0] 307)
    rw [hz] at this
    exact this
  · refine (PM.made (P := Tryz.prog) (k := 3) w).block ?_
    exact ((Below.refl (w.alloc (.map #[] 0)).heap.size (w.alloc (.map #[] 0))).alloc (Nat.le_refl _) _).block _ (by omega)
set_option maxRecDepth 100000 in
theorem new_any (r : Nat) (w : World) (h1 : 1 ≤ r) (h2 : r ≤ 1024) : Calls Tryz.prog 116 #[.int .i64 r] w fun e w' => e = .returned (.tuple #[cp (w.heap.size + 1), .int .i64 0]) ∧ CK w' w.heap.size (w.heap.size + 1) w.heap.size ⟨r, [], 0⟩ [] All ∧ Below w.heap.size w w' := by
  have HD := hid (new_ck w r)
  have t1 : decide ((r : Int) < 1) = false := by simp; omega
  have t2 : decide ((1024 : Int) < (r : Int)) = false := by simp; omega
  have hmm := @run_makeMap Tryz.prog
  have hb : Below w.heap.size w ((w.alloc (.map #[] 0)).alloc (.cells #[.int .i64 r, .map (some w.heap.size), .int .i64 0] 307)) := ((Below.refl _ _).alloc (Nat.le_refl _) _).alloc (by simp) _
  have HB := hid hb
  clear hb h1 h2
  go_enter Tryz.func116, Tryz.ntmps116
  go_wp2
  go_ret2
  exact ⟨rfl, HD.out, HB.out⟩
theorem add_any (b : Nat) (o : Nat) (x : Int) (w : World) (hc : w.cell? ⟨b, o, none⟩ = some (.int .i64 x)) (hz : w.frozen? ⟨b, o, none⟩ = false) :
    Calls Tryz.prog 15 #[.pointer (some ⟨b, o, none⟩), .int .i64 1] w fun e w' => e = .returned (.int .i64 (IntKind.i64.wrap (x + 1))) ∧ w' = w.setCell ⟨b, o, none⟩ (.int .i64 (IntKind.i64.wrap (x + 1))) := by
  have hadd := run_call_add (P := Tryz.prog) Tryz.func27 (by kernel_rfl) (by kernel_rfl) (by kernel_rfl) .i64 (by kernel_rfl) (y := 1) (s := IntKind.i64.wrap (x + 1)) hc hz (by simp [go_sem])
  obtain ⟨y, hy⟩ : ∃ y, y = IntKind.i64.wrap (x + 1) := ⟨_, rfl⟩
  rw [← hy] at hadd ⊢
  clear hy
  go_enter Tryz.func15, Tryz.ntmps15
  go_wp2
  go_ret
  exact ⟨rfl, rfl⟩
section
variable {w w' : World} {base p m : Nat} {c : CM} {fs : List PR} {V : Nat → Prop}
/-- a page as it is behind a use -/
def usedPR (f : PR) (n : Nat) : PR := { f with en := { f.en with pg := { f.en.pg with used := n } } }
set_option maxRecDepth 100000 in
theorem use_any (h : CK w base p m c fs V) {i : Nat} {f : PR} (hi : fs[i]? = some f) (hv : V i) (hu : c.uses ≤ 1000000000) :
    Calls Tryz.prog 256 #[cp p, cp f.fb] w fun e w' => e = .returned (.tuple #[]) ∧ CK w' base p m ⟨c.room, (fs.set i (usedPR f (c.uses + 1))).map (·.en), c.uses + 1⟩ (fs.set i (usedPR f (c.uses + 1))) V ∧ Stp base p m w fs w' (fs.set i (usedPR f (c.uses + 1))) := by
  obtain ⟨c0, c1, c2, fz⟩ := h.cells
  have hw1 : IntKind.i64.wrap ((c.uses : Int) + 1) = ((c.uses + 1 : Nat) : Int) := by rw [IntWalk.i64_in _ (by omega)]; simp
  have HA := add_any p 2 (c.uses : Int) w c2 (fz 2)
  rw [hw1] at HA
  have HA := hid HA
  obtain ⟨h2, s2⟩ := h.setUses (c.uses + 1)
  obtain ⟨w2, hw2⟩ : ∃ w2, w2 = w.setCell ⟨p, 2, none⟩ (.int .i64 ((c.uses + 1 : Nat) : Int)) := ⟨_, rfl⟩
  rw [← hw2] at h2 s2 HA
  obtain ⟨d0, d1, d2, d3, dz⟩ := h2.pcells hi
  have hk : Kept w2 (w2.setCell ⟨f.fb, 2, none⟩ (.int .i64 ((c.uses + 1 : Nat) : Int))) (fun q => q ≠ f.fb) := Kept.set w2 f.fb 2 _ fun hn => hn rfl
  have hset := heap_setCell_at' w2 f.fb 2 (.int .i64 ((c.uses + 1 : Nat) : Int)) _ 387 (0, 0) (h2.fc i f hi).1
  have hob := (h2.ob i f hi).kept hk fun q e => by
    obtain ⟨c9, f9, hc9⟩ := ownB_type (h2.ob i f hi) q e
    exact blk_ne hc9 (h2.fc i f hi).1 (by decide)
  have hoa := ownI_kept (h2.oa i f hi hv) hk fun q e => by
    obtain ⟨c9, f9, hc9⟩ := ownI_type (h2.oa i f hi hv) q e
    exact blk_ne hc9 (h2.fc i f hi).1 (by decide)
  have h3 := h2.setPage hi (usedPR f (c.uses + 1)) rfl rfl hk (fun k _ hne _ => hne) ((Below.refl base w2).setCell (p := ⟨f.fb, 2, none⟩) (h2.fc i f hi).2 _) hset V (fun _ _ hv => hv) hob (fun _ => hoa) (fun _ k e => .inl e) hv (h2.sb i f hi) (h2.sa i f hi)
  have H3 := hid (And.intro h3.1 (s2.trans h3.2))
  obtain ⟨nu, hnu⟩ : ∃ n : Int, n = ((c.uses + 1 : Nat) : Int) := ⟨_, rfl⟩
  rw [← hnu] at HA H3
  clear h h2 s2 h3 hk hset hob hoa hw2 hw1 hnu
  go_enter Tryz.func256, Tryz.ntmps256
  go_wp2_with fail
  refine HA.out.mono ?_
  rintro e w3 ⟨rfl, rfl⟩
  go_wp2
  go_end0
  exact ⟨rfl, H3.out.1, H3.out.2⟩
end
theorem Tryz.info5 : (Tryz.prog.info? 5).map (fun i => (i.zero, i.size, i.bytes)) = some (some (.int .u8 0), 1, 1) := by kernel_rfl
set_option maxRecDepth 100000 in
theorem clone_b (v : Value) (l : List UInt8) (B : Nat) (w : World) (h : SlB w B v l) (hB : B ≤ w.heap.size) (hl : l.length ≤ 1000000) : Calls Tryz.prog 93 #[v] w fun e w' => ∃ v', e = .returned v' ∧ OwnB w' w.heap.size 5 v' l ∧ Below w.heap.size w w' := by
  obtain ⟨oa, cap, rfl, h1, h2, h3⟩ := id h
  cases oa with
  | none =>
    have hb : l = [] := by
      cases l with
      | nil => rfl
      | cons y r => obtain ⟨_, _, hh, _⟩ := h3 (by simp); cases hh
    subst hb
    have hq : ∀ w', (binOp .eql 26 (.slice none 0 cap) (.slice none 0 0)).run Tryz.prog w' = .ok (.bool true) w' := fun w' => run_eql_nil_slice w' 26 5 none 0 cap 0 0 Tryz.underlying26
    clear h h1 h2 h3
    go_enter Tryz.func93, Tryz.ntmps93
    go_wp2
    go_ret
    exact ⟨_, rfl, OwnB.nil _ _ _, Below.refl _ _⟩
  | some ad =>
    obtain ⟨N, hN⟩ : ∃ N, N = l.length := ⟨_, rfl⟩
    rw [← hN] at h
    have hq : ∀ w', (binOp .eql 26 (.slice (some ad) N cap) (.slice none 0 0)).run Tryz.prog w' = .ok (.bool false) w' := fun w' => Lib.run_eql_slice_nil w' 26 5 _ _ _ _ _ Tryz.underlying26
    have HH := hid h
    have HN := hid hN
    rw [← hN]
    clear h h1 h2 h3 hN
    go_enter Tryz.func93, Tryz.ntmps93
    go_wp2_with (at_builtin; refine append_sl _ rfl _ _ 26 5 rfl Tryz.underlying26 Tryz.info5 w.heap.size _ [] rfl (own_empty w 5) _ l B rfl (HH.out.below ((Below.refl _ _).alloc (Nat.le_refl _) _) hB) ?_ ?_ ?_)
    · simp; omega
    · simp
    intro v' w' ho' hb'
    have hb := ((Below.refl w.heap.size w).alloc (Nat.le_refl _) (.cells #[] 5)).trans hb'
    have HO := hid (And.intro ho' hb)
    clear ho' hb' hb
    go_wp2
    go_ret
    exact ⟨_, rfl, by simpa using HO.out.1, HO.out.2⟩
theorem zero385 (w : World) : (zeroValue 385).run Tryz.prog w = .ok (.pointer none) w := by kernel_rfl
def isI (k : Int) : Prop := -9223372036854775808 ≤ k ∧ k ≤ 9223372036854775807
theorem isI.wf {k : Int} (h : isI k) : (Lit.int .i64 k).wf = true := by
  unfold isI at h
  simp [Lit.wf, IntKind.min, IntKind.max, IntKind.bits, IntKind.signed]
  omega
section
variable {w w' : World} {base p m : Nat} {c : CM} {fs : List PR} {V : Nat → Prop}
theorem CK.look (h : CK w base p m c fs V) (k : Int) (hk : isI k) : (Instr.lookup 305 (.map (some m)) (.int .i64 k) false).run Tryz.prog w = .ok (pv (Mi.look (plOf fs) k)) w :=
  h.mp.look Tryz.underlying3 Tryz.underlying305 zero385 k hk.wf
theorem CK.len (h : CK w base p m c fs V) (ty : TypeId) : (Builtin.len_ #[305] ty #[.map (some m)]).run Tryz.prog w = .ok (.int .i64 fs.length) w := by
  have := h.mp.len (P := Tryz.prog) Tryz.underlying305 ty
  rwa [show (plOf fs).length = fs.length by simp [plOf]] at this
theorem CK.lookAt (h : CK w base p m c fs V) {i : Nat} {f : PR} (hi : fs[i]? = some f) : Mi.look (plOf fs) f.en.k = some f.fb := by
  rcases h.who f.en.k with ⟨hl, _⟩ | ⟨j, g, hj, hgn, hl, _⟩
  · rw [look_none, plOf_names] at hl; exact absurd (List.mem_map.2 ⟨f, List.mem_of_getElem? hi, rfl⟩) hl
  · rw [hl]
    have hnd := h.mp.nodup
    rw [plOf_names] at hnd
    have h1 : (fs.map (·.en.k))[j]? = some g.en.k := by rw [List.getElem?_map, hj]; rfl
    have h2 : (fs.map (·.en.k))[i]? = some f.en.k := by rw [List.getElem?_map, hi]; rfl
    rw [hgn] at h1
    have l1 := (List.getElem?_eq_some_iff.1 h1)
    have l2 := (List.getElem?_eq_some_iff.1 h2)
    have hij : j = i := by
      have key := List.pairwise_iff_getElem.1 hnd
      rcases Nat.lt_trichotomy j i with h3 | h3 | h3
      · exact absurd (l1.2.trans l2.2.symm) (key j i l1.1 l2.1 h3)
      · exact h3
      · exact absurd (l2.2.trans l1.2.symm) (key i j l2.1 l1.1 h3)
    subst hij
    rw [hi] at hj
    cases hj; rfl
/-- the page behind a Put -/
def putPR (f : PR) (b : List UInt8) (bv : Value) (dirty : Bool) (n : Nat) : PR := { f with bv := bv, en := { f.en with pg := { f.en.pg with b := b, dirty := f.en.pg.dirty || dirty, used := n } } }
/-- what a Put does to a page that is there, ahead of the room's check -/
def PutAt (base p m : Nat) (c : CM) (fs : List PR) (w : World) (i : Nat) (f : PR) (b : List UInt8) (dirty : Bool) (w' : World) : Prop :=
  ∃ bv, CK w' base p m ⟨c.room, (fs.set i (putPR f b bv dirty (c.uses + 1))).map (·.en), c.uses + 1⟩ (fs.set i (putPR f b bv dirty (c.uses + 1))) All ∧ Stp base p m w fs w' (fs.set i (putPR f b bv dirty (c.uses + 1)))
/-- the steps of a Put on a page: its bytes, its mark, its use -/
theorem CK.putAt (h : CK w base p m c fs All) {i : Nat} {f : PR} (hi : fs[i]? = some f) {w1 : World} {bv : Value} {b : List UInt8} (hb1 : Below w.heap.size w w1) (hob : OwnB w1 w.heap.size 5 bv b) (dirty : Bool) (hu : c.uses ≤ 1000000000) :
    let w2 := w1.setCell ⟨f.fb, 0, none⟩ bv
    let w3 := w2.setCell ⟨f.fb, 1, none⟩ (.bool (f.en.pg.dirty || dirty))
    w1.cell? ⟨f.fb, 0, none⟩ = some f.bv ∧ w1.cell? ⟨f.fb, 1, none⟩ = some (.bool f.en.pg.dirty) ∧ w2.cell? ⟨f.fb, 1, none⟩ = some (.bool f.en.pg.dirty) ∧ (∀ j, w1.frozen? ⟨f.fb, j, none⟩ = false) ∧ (∀ j, w2.frozen? ⟨f.fb, j, none⟩ = false) ∧
      (∃ fs3 : List PR, (∃ g, fs3[i]? = some g ∧ g.fb = f.fb) ∧ Calls Tryz.prog 256 #[cp p, cp f.fb] w3 fun e w' => e = .returned (.tuple #[]) ∧ PutAt base p m c fs w i f b dirty w') := by
  intro w2 w3
  have h1 := h.below hb1
  have s1 : Stp base p m w fs w1 fs := Stp.of_below hb1 h.base_le
  obtain ⟨d0, d1, d2, d3, dz⟩ := h1.pcells hi
  have hk2 : Kept w1 w2 (fun q => q ≠ f.fb) := Kept.set w1 f.fb 0 _ fun hn => hn rfl
  have q1 := (h1.fc i f hi).1
  have q2 : w2.heap[f.fb]? = some (.cells #[bv, .bool f.en.pg.dirty, .int .i64 f.en.pg.used, f.av] 387 (0, 0)) := heap_setCell_at' w1 f.fb 0 bv _ 387 (0, 0) q1
  have hk3 : Kept w2 w3 (fun q => q ≠ f.fb) := Kept.set w2 f.fb 1 _ fun hn => hn rfl
  have q3 : w3.heap[f.fb]? = some (.cells #[bv, .bool (f.en.pg.dirty || dirty), .int .i64 f.en.pg.used, f.av] 387 (0, 0)) := heap_setCell_at' w2 f.fb 1 _ _ 387 (0, 0) q2
  have hk13 := hk2.trans hk3
  have hbl : base ≤ w.heap.size := h.base_le
  let F : PR := { f with bv := bv, en := { f.en with pg := { f.en.pg with b := b, dirty := f.en.pg.dirty || dirty } } }
  have hoB : OwnB w3 base 5 bv b := (OwnB.any_base hob hbl).kept hk13 fun q e => by
    obtain ⟨c9, f9, hc9⟩ := ownB_type hob q e
    exact blk_ne hc9 q1 (by decide)
  have hoA : OwnI w3 base f.av f.en.pg.after := ownI_kept (h1.oa i f hi trivial) hk13 fun q e => by
    obtain ⟨c9, f9, hc9⟩ := ownI_type (h1.oa i f hi trivial) q e
    exact blk_ne hc9 q1 (by decide)
  have hfb := (h.fc i f hi).2
  have hset := h1.setPage hi F rfl rfl hk13 (fun k _ hne _ => hne) ((((Below.refl base w1).setCell (p := ⟨f.fb, 0, none⟩) hfb bv)).setCell (p := ⟨f.fb, 1, none⟩) hfb _) q3 All (fun _ _ hv => hv) hoB (fun _ => hoA) (fun _ k e => .inl e) trivial (by
    rcases (slB_shape hob.slB) with ⟨x, y, z, hh⟩; exact ⟨x, y, z, hh⟩) (h.sa i f hi)
  have hg : (fs.set i F)[i]? = some F := by rw [List.getElem?_set_self (List.getElem?_eq_some_iff.1 hi).1]
  refine ⟨d0, d1, by simp [World.cell?, q2], dz, fun j => by simp [World.frozen?, q2], fs.set i F, ⟨F, hg, rfl⟩, ?_⟩
  refine (use_any hset.1 hg trivial hu).mono ?_
  rintro e w' ⟨rfl, hc, hs⟩
  refine ⟨rfl, bv, ?_⟩
  rw [List.set_set] at hc hs
  exact ⟨hc, (s1.trans hset.2).trans hs⟩
end
end Go.Proofs.YtmcllcepoiakeaaGreat.Ux
