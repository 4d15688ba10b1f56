import Derived.Test.YtbklhhmcigangaaA
namespace Go.Proofs.Ytbklhhmcigangaa
open Go.RowKit Go.Mx Go.Lr
set_option linter.unusedVariables false
set_option linter.unusedSimpArgs false
end Go.Proofs.Ytbklhhmcigangaa
namespace Go.Mx
theorem Kept.imp {w w' : World} {N M : Nat → Prop} (h : Kept w w' N) (hi : ∀ k, k < w.heap.size → M k → N k) : Kept w w' M := ⟨h.size, fun k hk hm => h.block k hk (hi k hk hm)⟩
end Go.Mx
namespace Go.Proofs.Ytbklhhmcigangaa
open Go.RowKit Go.Mx Go.Lr
section
variable {w w' : World} {base p m : Nat} {c : CM} {fs : List PR} {V : Nat → Prop}
/-- one page is another one now -/
theorem CK.setPage (h : CK w base p m c fs V) {i : Nat} {f : PR} (hi : fs[i]? = some f) (f' : PR) (hk : f'.en.k = f.en.k) (hb : f'.fb = f.fb) {N : Nat → Prop} (hkp : Kept w w' N) (hN : ∀ k, k < w.heap.size → k ≠ f.fb → (V i → f.av.ownBlock ≠ some k) → N k) (hbel : Below base w w')
    (hset : w'.heap[f.fb]? = some (.cells (Go.Proofs.Ytbklhhmcigangaa.pcells f') 66 (0, 0))) (V' : Nat → Prop) (hV : ∀ j, j ≠ i → V' j → V j) (hob : OwnB w' base 5 f'.bv f'.en.pg.b) (hoa : V' i → OwnI w' base f'.av f'.en.pg.after)
    (hblk : V i → ∀ k, f'.av.ownBlock = some k → f.av.ownBlock = some k ∨ w.heap.size ≤ k) (hVi : V i) (hsb : ∃ oa n c, f'.bv = .slice oa n c) (hsa : ∃ oa n c, f'.av = .slice oa n c) :
    CK w' base p m { c with all := (fs.set i f').map (·.en) } (fs.set i f') V' ∧ Stp base p m w fs w' (fs.set i f') := by
  obtain ⟨o, hmo, ho⟩ := h.mapObj
  have hfc := (h.fc i f hi).1
  have hNc : ∀ q c t fr, w.heap[q]? = some (.cells c t fr) → t ≠ 3 → q ≠ f.fb → N q := fun q c t fr hq ht hne => hN q (blk_lt hq) hne fun hv => ownI_not (h.oa i f hi hv) hq ht
  have hNp : N p := hNc _ _ _ _ h.ck (by decide) (blk_ne h.ck hfc (by decide))
  have hNm : N m := hN m h.mp.lt (not_cells hmo ho hfc).symm fun hv => ownI_notMap (h.oa i f hi hv) hmo ho
  have key : ∀ {j : Nat} {g : PR}, (fs.set i f')[j]? = some g → (j = i ∧ g = f') ∨ (j ≠ i ∧ fs[j]? = some g) := by
    intro j g hj
    rw [set_get fs i j _ _ hi] at hj
    split at hj
    · rename_i e; left; exact ⟨e, (Option.some.inj hj).symm⟩
    · rename_i e; right; exact ⟨e, hj⟩
  have hpl : plOf (fs.set i f') = plOf fs := by
    unfold plOf
    rw [List.map_set, hk, hb]
    apply List.ext_getElem?
    intro j
    rw [List.getElem?_set]
    split
    · rename_i e; subst e; rw [List.length_map, if_pos (List.getElem?_eq_some_iff.1 hi).1, List.getElem?_map, hi]; rfl
    · rfl
  refine ⟨{ all := rfl, ck := (hkp.block p h.plt hNp).trans h.ck, hp := h.hp, hm := h.hm, mp := by rw [hpl]; exact h.mp.block (hkp.block m h.mp.lt hNm), fc := ?_, ob := ?_, oa := ?_, af := ?_, aa := ?_, sb := ?_, sa := ?_ }, ?_⟩
  · intro j g hj
    rcases key hj with ⟨_, rfl⟩ | ⟨hne, hj⟩
    · exact ⟨by rw [hb]; exact hset, by rw [hb]; exact (h.fc i f hi).2⟩
    · have hg := (h.fc j g hj).1
      exact ⟨(hkp.block _ (blk_lt hg) (hNc _ _ _ _ hg (by decide) (h.af j i g f hj hi hne))).trans hg, (h.fc j g hj).2⟩
  · intro j g hj
    rcases key hj with ⟨_, rfl⟩ | ⟨hne, hj⟩
    · exact hob
    · refine (h.ob j g hj).kept hkp fun k e => ?_
      obtain ⟨c9, f9, hc9⟩ := ownB_type (h.ob j g hj) k e
      exact hNc _ _ _ _ hc9 (by decide) (blk_ne hc9 hfc (by decide))
  · intro j g hj hv
    rcases key hj with ⟨e, rfl⟩ | ⟨hne, hj⟩
    · exact hoa (e ▸ hv)
    · have hgo := h.oa j g hj (hV j hne hv)
      refine ownI_kept hgo hkp fun k e => ?_
      obtain ⟨c9, f9, hc9⟩ := ownI_type hgo k e
      exact hN k (blk_lt hc9) (blk_ne hc9 hfc (by decide)) fun hvi e2 => h.aa i j f g hi hj hvi (hV j hne hv) (Ne.symm hne) k e2 e
  · intro a b f1 f2 ha hb' hab
    rcases key ha with ⟨e1, rfl⟩ | ⟨n1, ga⟩ <;> rcases key hb' with ⟨e2, rfl⟩ | ⟨n2, gb⟩
    · omega
    · rw [hb]; exact h.af i b f f2 hi gb (by omega)
    · rw [hb]; exact h.af a i f1 f ga hi (by omega)
    · exact h.af a b f1 f2 ga gb hab
  · intro a b f1 f2 ha hb' va vb hab k h1 h2
    rcases key ha with ⟨e1, rfl⟩ | ⟨n1, ga⟩ <;> rcases key hb' with ⟨e2, rfl⟩ | ⟨n2, gb⟩
    · omega
    · rcases hblk hVi k h1 with h3 | h3
      · exact h.aa i b f f2 hi gb hVi (hV b n2 vb) (by omega) k h3 h2
      · have := OwnV.lt (h.oa b f2 gb (hV b n2 vb)) k h2; omega
    · rcases hblk hVi k h2 with h3 | h3
      · exact h.aa a i f1 f ga hi (hV a n1 va) hVi (by omega) k h1 h3
      · have := OwnV.lt (h.oa a f1 ga (hV a n1 va)) k h1; omega
    · exact h.aa a b f1 f2 ga gb (hV a n1 va) (hV b n2 vb) hab k h1 h2
  · intro j g hj
    rcases key hj with ⟨_, rfl⟩ | ⟨hne, hj⟩
    · exact hsb
    · exact h.sb j g hj
  · intro j g hj
    rcases key hj with ⟨_, rfl⟩ | ⟨hne, hj⟩
    · exact hsa
    · exact h.sa j g hj
  · refine ⟨hbel, hkp.imp fun k hlt hfr => hN k hlt (hfr.2.2 i f hi).1 fun _ => (hfr.2.2 i f hi).2, fun k hlt hfr => ⟨hfr.1, hfr.2.1, fun j g hj => ?_⟩⟩
    rcases key hj with ⟨_, rfl⟩ | ⟨hne, hj⟩
    · refine ⟨by rw [hb]; exact (hfr.2.2 i f hi).1, fun e => ?_⟩
      rcases hblk hVi k e with h3 | h3
      · exact (hfr.2.2 i f hi).2 h3
      · omega
    · exact hfr.2.2 j g hj
/-- the counter turns -/
theorem CK.setUses (h : CK w base p m c fs V) (n : Nat) : CK (w.setCell ⟨p, 2, none⟩ (.int .i64 n)) base p m { c with uses := n } fs V ∧ Stp base p m w fs (w.setCell ⟨p, 2, none⟩ (.int .i64 n)) fs := by
  obtain ⟨o, hmo, ho⟩ := h.mapObj
  have hk : Kept w (w.setCell ⟨p, 2, none⟩ (.int .i64 n)) (fun q => q ≠ p) := Kept.set w p 2 _ fun hn => hn rfl
  refine ⟨{ all := h.all, ck := heap_setCell_at' w p 2 _ _ 63 (0, 0) h.ck, hp := h.hp, hm := h.hm, mp := h.mp.block (hk.block m h.mp.lt (not_cells hmo ho h.ck).symm),
            fc := fun i f hi => ⟨(hk.block _ (blk_lt (h.fc i f hi).1) (blk_ne (h.fc i f hi).1 h.ck (by decide))).trans (h.fc i f hi).1, (h.fc i f hi).2⟩, ob := fun i f hi => (h.ob i f hi).kept hk fun k e => ?_, oa := fun i f hi hv => ownI_kept (h.oa i f hi hv) hk fun k e => ?_,
            af := h.af, aa := h.aa, sb := h.sb, sa := h.sa }, ⟨(Below.refl base w).setCell (p := ⟨p, 2, none⟩) h.hp _, hk.imp fun k _ hf => hf.1, fun _ _ hf => hf⟩⟩
  · obtain ⟨c9, f9, hc9⟩ := ownB_type (h.ob i f hi) k e
    exact blk_ne hc9 h.ck (by decide)
  · obtain ⟨c9, f9, hc9⟩ := ownI_type (h.oa i f hi hv) k e
    exact blk_ne hc9 h.ck (by decide)
theorem newPR_at {α : Type} {l : List α} {y z : α} {i : Nat} (h : (l ++ [y])[i]? = some z) : l[i]? = some z ∨ (i = l.length ∧ z = y) := by
  rcases Nat.lt_or_ge i l.length with h1 | h1
  · rw [List.getElem?_append_left h1] at h; exact .inl h
  · rw [List.getElem?_append_right h1] at h
    obtain ⟨k, hk⟩ : ∃ k, i - l.length = k := ⟨_, rfl⟩
    rw [hk] at h
    cases k with
    | zero => simp at h; exact .inr ⟨by omega, h.symm⟩
    | succ k => simp at h
/-- a new page -/
theorem CK.addPage (h : CK w base p m c fs V) (k : Int) (b : Nat) (hb : w.heap.size ≤ b) (hkp : Kept w w' (fun q => q ≠ m)) (hbel : Below base w w') (hnb : w'.heap[b]? = some (.cells #[.slice none 0 0, .bool false, .int .i64 0, .slice none 0 0] 66 (0, 0)))
    (hm : PM Try.prog 3 w' m (plOf (fs ++ [⟨⟨k, ⟨[], false, 0, []⟩⟩, b, .slice none 0 0, .slice none 0 0⟩]))) :
    CK w' base p m { c with all := c.all ++ [⟨k, ⟨[], false, 0, []⟩⟩] } (fs ++ [⟨⟨k, ⟨[], false, 0, []⟩⟩, b, .slice none 0 0, .slice none 0 0⟩]) (fun j => V j ∨ j = fs.length) ∧ Stp base p m w fs w' (fs ++ [⟨⟨k, ⟨[], false, 0, []⟩⟩, b, .slice none 0 0, .slice none 0 0⟩]) := by
  obtain ⟨o, hmo, ho⟩ := h.mapObj
  have hold := fun {q : Nat} {c : Array Value} {t : TypeId} {fr : Nat × Nat} (hq : w.heap[q]? = some (.cells c t fr)) => (hkp.block q (blk_lt hq) (not_cells hmo ho hq)).trans hq
  have hbl := h.base_le
  have hlen : ∀ i f, fs[i]? = some f → i < fs.length := fun i f hi => (List.getElem?_eq_some_iff.1 hi).1
  refine ⟨{ all := by show c.all ++ _ = _; rw [h.all]; simp, ck := hold h.ck, hp := h.hp, hm := h.hm, mp := hm, fc := ?_, ob := ?_, oa := ?_, af := ?_, aa := ?_, sb := ?_, sa := ?_ }, ⟨hbel, hkp.imp fun q _ hf => hf.2.1, fun q hq hf => ⟨hf.1, hf.2.1, fun i f hi => ?_⟩⟩⟩
  · intro i f hi
    rcases newPR_at hi with hi | ⟨_, rfl⟩
    · exact ⟨hold (h.fc i f hi).1, (h.fc i f hi).2⟩
    · exact ⟨hnb, by show base ≤ b; omega⟩
  · intro i f hi
    rcases newPR_at hi with hi | ⟨_, rfl⟩
    · refine (h.ob i f hi).kept hkp fun q e => ?_
      obtain ⟨c9, f9, hc9⟩ := ownB_type (h.ob i f hi) q e
      exact not_cells hmo ho hc9
    · exact OwnB.nil _ _ _
  · intro i f hi hv
    rcases newPR_at hi with hi | ⟨_, rfl⟩
    · have hv : V i := hv.resolve_right (by have := hlen i f hi; omega)
      refine ownI_kept (h.oa i f hi hv) hkp fun q e => ?_
      obtain ⟨c9, f9, hc9⟩ := ownI_type (h.oa i f hi hv) q e
      exact not_cells hmo ho hc9
    · exact OwnV.nil _ _ _
  · intro i j f g hi hj hij
    rcases newPR_at hi with hi | ⟨e1, rfl⟩ <;> rcases newPR_at hj with hj | ⟨e2, rfl⟩
    · exact h.af i j f g hi hj hij
    · have := blk_lt (h.fc i f hi).1; show f.fb ≠ b; omega
    · have := blk_lt (h.fc j g hj).1; show b ≠ g.fb; omega
    · omega
  · intro i j f g hi hj hv hv2 hij q h1 h2
    rcases newPR_at hi with hi | ⟨e1, rfl⟩ <;> rcases newPR_at hj with hj | ⟨e2, rfl⟩
    · exact h.aa i j f g hi hj (hv.resolve_right (by have := hlen i f hi; omega)) (hv2.resolve_right (by have := hlen j g hj; omega)) hij q h1 h2
    · cases h2
    · cases h1
    · cases h1
  · intro i f hi
    rcases newPR_at hi with hi | ⟨_, rfl⟩
    · exact h.sb i f hi
    · exact ⟨_, _, _, rfl⟩
  · intro i f hi
    rcases newPR_at hi with hi | ⟨_, rfl⟩
    · exact h.sa i f hi
    · exact ⟨_, _, _, rfl⟩
  · rcases newPR_at hi with hi | ⟨_, rfl⟩
    · exact hf.2.2 i f hi
    · exact ⟨by show q ≠ b; omega, by intro e; cases e⟩
theorem CK.weaken (h : CK w base p m c fs V) {V' : Nat → Prop} (hv : ∀ i, V' i → V i) : CK w base p m c fs V' :=
  { h with oa := fun i f hi h' => h.oa i f hi (hv _ h'), aa := fun i j f g hi hj ha hb => h.aa i j f g hi hj (hv _ ha) (hv _ hb) }
end
end Go.Proofs.Ytbklhhmcigangaa
