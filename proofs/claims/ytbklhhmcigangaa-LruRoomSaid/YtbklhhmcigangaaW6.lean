import Derived.Test.YtbklhhmcigangaaW5
namespace Go.Mx
theorem perm_lift {α β : Type} {f : α → β} {s t : List β} (h : s.Perm t) : ∀ l : List α, l.map f = s → ∃ l', l.Perm l' ∧ l'.map f = t := by
  induction h with
  | nil => intro l hl; exact ⟨l, List.Perm.refl _, hl⟩
  | cons x _ ih =>
    intro l hl
    cases l with
    | nil => simp at hl
    | cons a l1 =>
      rw [List.map_cons, List.cons.injEq] at hl
      obtain ⟨l1', h1, h2⟩ := ih l1 hl.2
      exact ⟨a :: l1', h1.cons a, by rw [List.map_cons, h2, hl.1]⟩
  | swap x y r =>
    intro l hl
    match l, hl with
    | [], hl => simp at hl
    | [a], hl => simp at hl
    | a :: b :: l1, hl =>
      simp only [List.map_cons, List.cons.injEq] at hl
      exact ⟨b :: a :: l1, List.Perm.swap b a l1, by simp only [List.map_cons]; rw [hl.1, hl.2.1, hl.2.2]⟩
  | trans _ _ ih1 ih2 =>
    intro l hl
    obtain ⟨l1, h1, h2⟩ := ih1 l hl
    obtain ⟨l2, h3, h4⟩ := ih2 l1 h2
    exact ⟨l2, h1.trans h3, h4⟩
theorem look_perm {l l' : PL} (hp : l.Perm l') (hn : (l.map (·.1)).Nodup) (s : Int) : look l s = look l' s := by
  have hn' : (l'.map (·.1)).Nodup := (hp.map (·.1)).nodup_iff.1 hn
  have key : ∀ {l : PL}, (l.map (·.1)).Nodup → ∀ b, look l s = some b ↔ (s, b) ∈ l := by
    intro l
    induction l with
    | nil => intro _ b; simp [look]
    | cons p l ih =>
      intro hn b
      rw [List.map_cons, List.nodup_cons] at hn
      rw [look_cons]
      by_cases e : p.1 = s
      · rw [if_pos e]
        constructor
        · intro h; injection h with h; rw [← h, ← e]; exact List.mem_cons_self ..
        · intro h
          rcases List.mem_cons.1 h with h | h
          · rw [← h]
          · exact absurd (List.mem_map.2 ⟨(s, b), h, rfl⟩) (by rw [← e]; exact hn.1)
      · rw [if_neg e, ih hn.2]
        constructor
        · exact List.mem_cons_of_mem _
        · intro h
          rcases List.mem_cons.1 h with h | h
          · rw [← h] at e; exact absurd rfl e
          · exact h
  cases h1 : look l s with
  | some b => exact (((key hn' b).2 (hp.mem_iff.1 ((key hn b).1 h1)))).symm
  | none =>
    cases h2 : look l' s with
    | none => rfl
    | some b => rw [(key hn b).2 (hp.mem_iff.2 ((key hn' b).1 h2))] at h1; cases h1
theorem PM.perm {P : Program} {k : TypeId} {w : World} {m : Nat} {l l' : PL} (h : PM P k w m l) (hp : l.Perm l') : PM P k w m l' := by
  obtain ⟨D, h1, h2, h3, h4, h5, h6⟩ := h
  refine ⟨D, by rw [← hp.length_eq]; exact h1, by rw [← hp.length_eq]; exact h2, (hp.map (·.1)).nodup_iff.1 h3, fun p hp' => h4 p (hp.mem_iff.2 hp'), fun s => ?_, fun s => ?_⟩
  · rw [← look_perm hp h3]; exact h5 s
  · rw [← look_perm hp h3]; exact h6 s
end Go.Mx
namespace Go.Proofs.Ytbklhhmcigangaa
open Go.RowKit Go.Mx Go.Lr Go.Maps
set_option linter.unusedVariables false
set_option linter.unusedSimpArgs false
section
variable {w w' : World} {base p m : Nat} {c : CM} {fs : List PR}
theorem CK.perm (h : CK w base p m c fs All) {fs' : List PR} (hp : fs.Perm fs') : CK w base p m { c with all := fs'.map (·.en) } fs' All := by
  have back : ∀ {i : Nat} {f : PR}, fs'[i]? = some f → ∃ j, fs[j]? = some f := fun {i f} hi => List.getElem?_of_mem (hp.mem_iff.2 (List.mem_of_getElem? hi))
  have hnd : (fs'.map (·.en.k)).Nodup := (hp.map (·.en.k)).nodup_iff.1 h.nodup
  have apart : ∀ {i j : Nat} {f g : PR}, fs'[i]? = some f → fs'[j]? = some g → i ≠ j → f.en.k ≠ g.en.k := fun {i j f g} hi hj hij e => by
    have h1 : (fs'.map (·.en.k))[i]? = some f.en.k := by rw [List.getElem?_map, hi]; rfl
    have h2 : (fs'.map (·.en.k))[j]? = some f.en.k := by rw [List.getElem?_map, hj, e]; rfl
    obtain ⟨l1, e1⟩ := List.getElem?_eq_some_iff.1 h1
    obtain ⟨l2, e2⟩ := List.getElem?_eq_some_iff.1 h2
    have key := List.pairwise_iff_getElem.1 hnd
    rcases Nat.lt_trichotomy i j with h3 | h3 | h3
    · exact key i j l1 l2 h3 (e1.trans e2.symm)
    · exact hij h3
    · exact key j i l2 l1 h3 (e2.trans e1.symm)
  refine { all := rfl, ck := h.ck, hp := h.hp, hm := h.hm, mp := h.mp.perm (hp.map _), fc := fun i f hi => ?_, ob := fun i f hi => ?_, oa := fun i f hi _ => ?_, af := fun i j f g hi hj hij => ?_, aa := fun i j f g hi hj _ _ hij => ?_, sb := fun i f hi => ?_, sa := fun i f hi => ?_ }
  · obtain ⟨j, hj⟩ := back hi; exact h.fc j f hj
  · obtain ⟨j, hj⟩ := back hi; exact h.ob j f hj
  · obtain ⟨j, hj⟩ := back hi; exact h.oa j f hj trivial
  · obtain ⟨i', hi'⟩ := back hi
    obtain ⟨j', hj'⟩ := back hj
    refine h.af i' j' f g hi' hj' fun e => ?_
    subst e; rw [hi'] at hj'; cases hj'
    exact apart hi hj hij rfl
  · obtain ⟨i', hi'⟩ := back hi
    obtain ⟨j', hj'⟩ := back hj
    refine h.aa i' j' f g hi' hj' trivial trivial fun e => ?_
    subst e; rw [hi'] at hj'; cases hj'
    exact apart hi hj hij rfl
  · obtain ⟨j, hj⟩ := back hi; exact h.sb j f hj
  · obtain ⟨j, hj⟩ := back hi; exact h.sa j f hj
/-- a page more, whole -/
theorem CK.addFull (h : CK w base p m c fs All) (f : PR) (hb : w.heap.size ≤ f.fb) (hkp : Kept w w' (fun q => q ≠ m)) (hnb : w'.heap[f.fb]? = some (.cells (Go.Proofs.Ytbklhhmcigangaa.pcells f) 66 (0, 0)))
    (hob : OwnB w' w.heap.size 5 f.bv f.en.pg.b) (hoa : OwnI w' w.heap.size f.av f.en.pg.after) (hsb : ∃ oa n c, f.bv = .slice oa n c) (hsa : ∃ oa n c, f.av = .slice oa n c) (hm : PM Try.prog 3 w' m (plOf (fs ++ [f]))) :
    CK w' base p m { c with all := c.all ++ [f.en] } (fs ++ [f]) All := by
  obtain ⟨o, hmo, ho⟩ := h.mapObj
  have hold := fun {q : Nat} {c : Array Value} {t : TypeId} {fr : Nat × Nat} (hq : w.heap[q]? = some (.cells c t fr)) => (hkp.block q (blk_lt hq) (not_cells hmo ho hq)).trans hq
  have hbl := h.base_le
  refine { all := by show c.all ++ _ = _; rw [h.all]; simp, ck := hold h.ck, hp := h.hp, hm := h.hm, mp := hm, fc := ?_, ob := ?_, oa := ?_, af := ?_, aa := ?_, sb := ?_, sa := ?_ }
  · intro i g hi
    rcases newPR_at hi with hi | ⟨_, rfl⟩
    · exact ⟨hold (h.fc i g hi).1, (h.fc i g hi).2⟩
    · exact ⟨hnb, by omega⟩
  · intro i g hi
    rcases newPR_at hi with hi | ⟨_, rfl⟩
    · refine (h.ob i g hi).kept hkp fun q e => ?_
      obtain ⟨c9, f9, hc9⟩ := ownB_type (h.ob i g hi) q e
      exact not_cells hmo ho hc9
    · exact hob.any_base hbl
  · intro i g hi hv
    rcases newPR_at hi with hi | ⟨_, rfl⟩
    · refine ownI_kept (h.oa i g hi trivial) hkp fun q e => ?_
      obtain ⟨c9, f9, hc9⟩ := ownI_type (h.oa i g hi trivial) q e
      exact not_cells hmo ho hc9
    · exact OwnV.any_base hoa hbl
  · intro i j g1 g2 hi hj hij
    rcases newPR_at hi with xi | ⟨e1, e2⟩ <;> rcases newPR_at hj with xj | ⟨e3, e4⟩
    · exact h.af i j g1 g2 xi xj hij
    · have := blk_lt (h.fc i g1 xi).1; rw [e4]; omega
    · have := blk_lt (h.fc j g2 xj).1; rw [e2]; omega
    · omega
  · intro i j g1 g2 hi hj hv hv2 hij q h1 h2
    rcases newPR_at hi with xi | ⟨e1, e2⟩ <;> rcases newPR_at hj with xj | ⟨e3, e4⟩
    · exact h.aa i j g1 g2 xi xj trivial trivial hij q h1 h2
    · have := OwnV.lt (h.oa i g1 xi trivial) q h1
      rw [e4] at h2
      have := (World.ownsRow.lt hoa q h2).1
      omega
    · have := OwnV.lt (h.oa j g2 xj trivial) q h2
      rw [e2] at h1
      have := (World.ownsRow.lt hoa q h1).1
      omega
    · omega
  · intro i g hi
    rcases newPR_at hi with hi | ⟨_, rfl⟩
    · exact h.sb i g hi
    · exact hsb
  · intro i g hi
    rcases newPR_at hi with hi | ⟨_, rfl⟩
    · exact h.sa i g hi
    · exact hsa
end
set_option maxRecDepth 100000 in
theorem clone_i (v : Value) (l : List Int) (base : Nat) (w : World) (h : OwnI w base v l) (hl : l.length ≤ 1000000) : Calls Try.prog 47 #[v] w fun e w' => ∃ v', e = .returned v' ∧ OwnI w' w.heap.size v' l ∧ Below w.heap.size w w' := by
  have hone : ∀ r ∈ l.map fun n => [Value.int .i64 n], ∀ u ∈ r, u.oneCell' = true := by
    intro r hr u hu; simp at hr; obtain ⟨s, _, rfl⟩ := hr; simp at hu; subst hu; rfl
  rcases (ownI_G h).shape with ⟨rfl, hn⟩ | ⟨g, c, rfl, hg1, hg2⟩
  · have hl0 : l = [] := by cases l with
      | nil => rfl
      | cons a r => simp at hn
    subst hl0
    clear h hone
    have hq : ∀ w', (binOp .eql 29 (.slice none 0 0) (.slice none 0 0)).run Try.prog w' = .ok (.bool true) w' := fun w' => run_eql_nil_slice w' 29 3 none 0 0 0 0 Try.underlying29
    go_enter Try.func47, Try.ntmps47
    go_wp2
    go_ret
    exact ⟨_, rfl, OwnV.nil _ _ _, Below.refl _ _⟩
  · have hlm : (l.map fun n => [Value.int .i64 n]).length = l.length := by simp
    have hG := ownI_G h
    rw [hlm] at hG ⊢
    have hq : ∀ w', (binOp .eql 29 (.slice (some ⟨g, 0, none⟩) l.length c) (.slice none 0 0)).run Try.prog w' = .ok (.bool false) w' := fun w' => Lib.run_eql_slice_nil w' 29 3 _ _ _ _ _ Try.underlying29
    have hbA : Below w.heap.size w (w.alloc (.cells #[] 3)) := (Below.refl _ _).alloc (Nat.le_refl _) _
    have hG2 := hG.below hbA (Nat.le_refl _)
    have HB := hid hbA
    have hx1 : ((([] : List (List Value)).length + (l.map fun n => [Value.int .i64 n]).length) * 8) ≤ 140737488355328 := by simp; omega
    have hx2 : (([] : List (List Value)).length + (l.map fun n => [Value.int .i64 n]).length) ≤ 140737488355328 := by simp; omega
    have hx3 : w.heap.size ≤ (w.alloc (.cells #[] 3)).heap.size := hbA.size
    clear h hG hbA hlm
    go_enter Try.func47, Try.ntmps47
    go_wp2_with (at_builtin; refine append_gs _ rfl _ _ 29 3 (.int .i64 0) 1 8 rfl Try.underlying29 info3 rfl (by decide) w.heap.size _ [] rfl (OwnG.empty w 3 1) base 3 _ (l.map fun n => [Value.int .i64 n]) rfl hG2 hone hx1 hx2 hx3 ?_)
    intro v' w' ho' hg' hb'
    have hb := HB.out.trans hb'
    have ho' : OwnI w' w.heap.size v' l := ownG_I (by simpa using ho')
    have HO := hid (And.intro ho' hb)
    clear hg' hb' ho' hb
    go_wp2
    go_ret
    exact ⟨_, rfl, HO.out.1, HO.out.2⟩
theorem load_any (b : Nat) (x : Int) (w : World) (hc : w.cell? ⟨b, 2, none⟩ = some (.int .i64 x)) : Calls Try.prog 46 #[.pointer (some ⟨b, 2, none⟩)] w fun e w' => e = .returned (.int .i64 x) ∧ w' = w := by
  have hadd := run_call_load (P := Try.prog) Try.func65 (by kernel_rfl) (by kernel_rfl) (by kernel_rfl) .i64 (by kernel_rfl) hc
  go_enter Try.func46, Try.ntmps46
  go_wp2
  go_ret
  exact ⟨rfl, rfl⟩
theorem store_any (b : Nat) (x y : Int) (w : World) (hc : w.cell? ⟨b, 2, none⟩ = some (.int .i64 x)) (hz : w.frozen? ⟨b, 2, none⟩ = false) : Calls Try.prog 45 #[.pointer (some ⟨b, 2, none⟩), .int .i64 y] w fun e w' => e = .returned (.tuple #[]) ∧ w' = w.setCell ⟨b, 2, none⟩ (.int .i64 y) := by
  have hadd := run_call_store (P := Try.prog) Try.func64 (by kernel_rfl) (by kernel_rfl) (by kernel_rfl) (by kernel_rfl) (k := .i64) (y := y) hc hz
  go_enter Try.func45, Try.ntmps45
  go_wp2
  go_end0
  exact ⟨rfl, rfl⟩
end Go.Proofs.Ytbklhhmcigangaa
