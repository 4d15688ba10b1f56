import Derived.Test.YtbklhhmcigangaaS
namespace Go.Lr
/-- a line: the keys that were written are clean -/
def lineM (c : CM) (k : Int) (out : List Int) : CM × List Int :=
  ({ c with all := cleaned (fun x => decide (x ∈ (walk c.all (c.all.length + 1) k ([], out)).1)) c.all }, (walk c.all (c.all.length + 1) k ([], out)).2)
theorem line_all (c : CM) (k : Int) (out : List Int) : (lineM c k out).1.all = cleaned (fun x => decide (x ∈ (walk c.all (c.all.length + 1) k ([], out)).1)) c.all := rfl
def flushM (c : CM) : CM × List Int := (dirtyL c.all).foldl (fun s k => lineM s.1 k s.2) (c, [])
theorem line_keys (c : CM) (k : Int) (out : List Int) : (lineM c k out).1.all.map (·.k) = c.all.map (·.k) := by rw [line_all]; exact cleaned_keys _ _
theorem line_len (c : CM) (k : Int) (out : List Int) : (lineM c k out).1.all.length = c.all.length := by
  have := congrArg List.length (line_keys c k out); simpa using this
theorem line_out (c : CM) (k : Int) (out : List Int) : (lineM c k out).2.length ≤ out.length + c.all.length := by
  have h := walk_grw c.all (c.all.length + 1) k ([], out)
  have h1 := h.len
  obtain ⟨g1, g2⟩ := h.good (by simp) (by simp)
  have := good_len g1 g2
  show (walk c.all (c.all.length + 1) k ([], out)).2.length ≤ _
  simp at h1
  omega
end Go.Lr
namespace Go.Proofs.Ytbklhhmcigangaa
open Go.RowKit Go.Mx Go.Lr Go.Maps
set_option linter.unusedVariables false
set_option linter.unusedSimpArgs false
/-- a cache of a size that can be walked -/
structure OkC (c : CM) : Prop where
  is : Is c.all
  sm : Sm c.all
  len : c.all.length ≤ 2000
  ks : ∀ e ∈ c.all, isI e.k
theorem OkC.wgt {c : CM} (h : OkC c) : wgt c.all (fun _ => false) ≤ 100000000000 := by
  have key : ∀ l : List En, Sm l → Lr.wgt l (fun _ => false) ≤ l.length * 1000000 := by
    intro l
    induction l with
    | nil => intro _; exact Nat.le_refl _
    | cons e l ih =>
      intro hs
      have h1 := ih fun x hx => hs x (List.mem_cons_of_mem _ hx)
      have h2 := hs e (by simp)
      rw [wgt_cons, List.length_cons, Nat.succ_mul]
      simp only [Bool.false_eq_true, if_false]
      omega
  have := key c.all h.sm
  have := h.len
  omega
theorem Is.cleaned {l : List En} (h : Is l) (S : Int → Bool) : Is (cleaned S l) := by
  intro e he
  obtain ⟨g, hg, rfl⟩ := List.mem_map.1 he
  intro y hy
  simp only at hy
  split at hy
  · cases hy
  · exact h g hg y (List.mem_filter.1 hy).1
theorem OkC.line {c : CM} (h : OkC c) (k : Int) (out : List Int) : OkC (lineM c k out).1 :=
  ⟨by rw [line_all]; exact h.is.cleaned _, by rw [line_all]; exact h.sm.cleaned _, by rw [line_len]; exact h.len, fun e he => by
    obtain ⟨g, hg, rfl⟩ := List.mem_map.1 he
    exact h.ks g hg⟩
theorem OwnI.rebase {w : World} {base b2 : Nat} {v : Value} {l : List Int} (h : OwnI w base v l) (hb : ∀ q, v.ownBlock = some q → b2 ≤ q) : OwnI w b2 v l := by
  refine ⟨h.1, ?_⟩
  rcases h.2 with h1 | ⟨g, cap, cur, rfl, h2, h3⟩
  · exact .inl h1
  · exact .inr ⟨g, cap, cur, rfl, hb g rfl, h3⟩
section
variable {w w' : World} {base p m : Nat} {c : CM} {fs : List PR}
theorem CK.ksI (h : CK w base p m c fs All) : ∀ e ∈ c.all, isI e.k := by
  intro e he
  obtain ⟨D, _, _, _, hwf, _⟩ := h.mp
  rw [h.all] at he
  obtain ⟨f, hf, rfl⟩ := List.mem_map.1 he
  have := hwf (f.en.k, f.fb) (List.mem_map.2 ⟨f, hf, rfl⟩)
  simp [Lit.wf, IntKind.min, IntKind.max, IntKind.bits, IntKind.signed] at this
  exact this
theorem dirtyL_mem {l : List En} {x : Int} (h : x ∈ dirtyL l) : x ∈ l.map (·.k) := (List.mergeSort_perm _ _).mem_iff.1 (List.mem_filter.1 h).1
theorem dirtyL_len (l : List En) : (dirtyL l).length ≤ l.length := by
  unfold dirtyL
  refine Nat.le_trans (List.length_filter_le _ _) ?_
  unfold risen
  rw [(List.mergeSort_perm _ _).length_eq, List.length_map]
  exact Nat.le_refl _
/-- what a flush leaves -/
def FluP (base p m : Nat) (c : CM) (fs : List PR) (w : World) (e : Ending) (w' : World) : Prop :=
  ∃ fs' v, e = .returned v ∧ CK w' base p m (flushM c).1 fs' All ∧ plOf fs' = plOf fs ∧ Stp base p m w fs w' fs' ∧ OwnI w' w.heap.size v (flushM c).2 ∧ (∀ q, v.ownBlock = some q → Free p m fs' q)
set_option maxRecDepth 100000 in
set_option maxHeartbeats 1000000 in
theorem flush_any (h : CK w base p m c fs All) (ok : OkC c) : Calls Try.prog 15 #[cp p] w (FluP base p m c fs w) := by
  have HD := hid (dirtyL_any h (by have := ok.len; omega))
  obtain ⟨st, hst⟩ : ∃ st : Nat → CM × List Int, st = fun j => ((dirtyL c.all).take j).foldl (fun s k => lineM s.1 k s.2) (c, []) := ⟨_, rfl⟩
  have hst0 : st 0 = (c, []) := by rw [hst]; rfl
  have hsts : ∀ j x, (dirtyL c.all)[j]? = some x → st (j + 1) = lineM (st j).1 x (st j).2 := fun j x hx => by
    rw [hst]; simp only; rw [List.take_add_one, hx, List.foldl_append]; rfl
  have hste : flushM c = st (dirtyL c.all).length := by rw [hst]; simp only; rw [List.take_length]; rfl
  have hinv : ∀ j, j ≤ (dirtyL c.all).length → OkC (st j).1 ∧ (st j).1.all.length = c.all.length ∧ (st j).2.length ≤ j * 2000 := by
    intro j
    induction j with
    | zero => intro _; rw [hst0]; exact ⟨ok, rfl, by simp⟩
    | succ j ih =>
      intro hj
      obtain ⟨i1, i2, i3⟩ := ih (by omega)
      have hx := List.getElem?_eq_getElem (l := dirtyL c.all) (i := j) (by omega)
      rw [hsts j _ hx]
      refine ⟨i1.line _ _, by rw [line_len]; exact i2, ?_⟩
      have := line_out (st j).1 (dirtyL c.all)[j] (st j).2
      have := ok.len
      rw [Nat.succ_mul]
      omega
  obtain ⟨L, hL⟩ : ∃ L, L = (dirtyL c.all).length := ⟨_, rfl⟩
  have hL2 : L ≤ 2000 := by rw [hL]; exact Nat.le_trans (dirtyL_len _) ok.len
  have hkI : ∀ x ∈ dirtyL c.all, isI x := fun x hx => by
    obtain ⟨e, he, rfl⟩ := List.mem_map.1 (dirtyL_mem hx)
    exact h.ksI e he
  rw [← hL] at hste hinv
  have HST := hid (And.intro hst0 (And.intro hsts (And.intro hste (And.intro hinv (And.intro hL hkI)))))
  have H := hid (And.intro h ok)
  clear h ok hst hst0 hsts hste hinv hkI
  go_enter Try.func15, Try.ntmps15
  go_wp2_with fail
  refine HD.out.mono ?_
  rintro e w1 ⟨dv, rfl, hod, hb1⟩
  have hlen := fun w' => hod.slI.len (P := Try.prog) Try.underlying29 (ty := 3) w'
  obtain ⟨da, dn, dc, rfl⟩ := ownG_shape (ownI_G hod)
  rw [← hL] at hlen
  have H1 := hid (And.intro hod hb1)
  clear hod hb1 HD hL
  go_wp2_with fail
  go_loopw [3, 9] (fun s3 s9 wr => ∃ (j : Nat) (fs' : List PR), s9 = .int .i64 j ∧ j ≤ L ∧ CK wr base p m (st j).1 fs' All ∧ plOf fs' = plOf fs ∧ Stp base p m w fs wr fs' ∧ OwnI wr base s3 (st j).2 ∧ (∀ q, s3.ownBlock = some q → Free p m fs' q ∧ w.heap.size ≤ q) ∧
    OwnI wr w.heap.size (.slice da dn dc) (dirtyL c.all) ∧ (∀ q, (Value.slice da dn dc).ownBlock = some q → Free p m fs' q ∧ s3.ownBlock ≠ some q)) (fun _ s9 _ => L - (intOf s9).toNat)
  case atStart =>
    refine ⟨0, fs, rfl, by omega, ?_, rfl, Stp.of_below H1.out.2 H.out.1.base_le, ?_, fun q e => (by cases e), H1.out.1, fun q e => ⟨H.out.1.free_new (World.ownsRow.lt H1.out.1 q e).1, fun e => (by cases e)⟩⟩
    · rw [HST.out.1]; exact H.out.1.below H1.out.2
    · rw [HST.out.1]; exact OwnV.nil _ _ _
  case round =>
    obtain ⟨j, fs', rfl, hj, hC, hpl, hS, ho, hof, hod, hodf⟩ := hrel
    obtain ⟨wO, hwO⟩ : ∃ x, x = wr := ⟨_, rfl⟩
    subst hwO
    obtain ⟨oa, on, oc, rfl⟩ := ownG_shape (ownI_G ho)
    by_cases hlt : j < L
    · have hlt' : j < (dirtyL c.all).length := by rw [← HST.out.2.2.2.2.1]; exact hlt
      obtain ⟨bb, bo, hbb, hia, hcell⟩ := hod.slI.addr (P := Try.prog) Try.underlying29 size3 j hlt'
      have hgx : (dirtyL c.all)[j]? = some ((dirtyL c.all).getD j 0) := by rw [List.getD_eq_getElem?_getD, List.getElem?_eq_getElem hlt']; rfl
      have hxI := HST.out.2.2.2.2.2 _ (List.mem_of_getElem? hgx)
      obtain ⟨x, hx⟩ : ∃ x, x = (dirtyL c.all).getD j 0 := ⟨_, rfl⟩
      rw [← hx] at hcell hgx hxI
      obtain ⟨i1, i2, i3⟩ := HST.out.2.2.2.1 j hj
      have hline := line_any hC i1.is i1.sm (by have := i1.len; omega) x hxI (.slice oa on oc) (st j).2 ho (fun q e => (hof q e).1) (by have := i1.len; omega)
      have HLN := hid hline
      have hs1 := HST.out.2.1 j x hgx
      have HQ := hid (And.intro hC (And.intro hpl (And.intro hS (And.intro ho (And.intro hof (And.intro hod (And.intro hodf hs1)))))))
      clear hline hs1 hC hpl hS ho hof hod hodf hgx hxI hx i1 i2 i3 hlt'
      go_wp2_with fail
      refine HLN.out.mono ?_
      rintro e w2 ⟨fs2, v2, rfl, hC2, hp2, ho2, hf2, hb2, hk2, hfr2, hv2⟩
      obtain ⟨ob, on2, oc2, rfl⟩ := ownG_shape (ownI_G ho2)
      have H2 := hid (And.intro hC2 (And.intro hp2 (And.intro ho2 (And.intro hf2 (And.intro hb2 (And.intro hk2 (And.intro hfr2 hv2)))))))
      clear hC2 hp2 ho2 hf2 hb2 hk2 hfr2 hv2
      go_wp2_with fail
      go_roundw
      case rel =>
        obtain ⟨hC, hpl, hS, ho, hof, hod, hodf, hs1⟩ := HQ.out
        obtain ⟨hC2, hp2, ho2, hf2, hb2, hk2, hfr2, hv2⟩ := H2.out
        have hd2 : ∀ q, (Value.slice da dn dc).ownBlock = some q → q < wO.heap.size := fun q e => OwnV.lt hod q e
        refine ⟨j + 1, fs2, by go_num, by omega, by rw [hs1]; exact hC2, hp2.trans hpl, ⟨hS.bel.trans hb2, ⟨Nat.le_trans hS.kept.size hk2.size, fun q hq hn => ?_⟩, fun q hq hn => hfr2 q (by have := hS.kept.size; omega) (hS.free q hq hn)⟩, by rw [hs1]; exact ho2, fun q e => ⟨hf2 q e, ?_⟩, ?_, fun q e => ⟨hfr2 q (hd2 q e) (hodf q e).1, fun e2 => ?_⟩⟩
        · refine (hk2.block q (by have := hS.kept.size; omega) ⟨hS.free q hq hn, fun e => ?_⟩).trans (hS.kept.block q hq hn)
          have := (hof q e).2; omega
        · rcases hv2 q e with h1 | h1
          · exact (hof q h1).2
          · have := hS.kept.size; omega
        · exact ownI_kept hod hk2 fun q e => hodf q e
        · rcases hv2 q e2 with h1 | h1
          · exact (hodf q e).2 h1
          · have := hd2 q e; omega
      case measure => simp [intOf]; omega
    · obtain rfl : j = L := by omega
      have HQ := hid (And.intro hC (And.intro hpl (And.intro hS (And.intro ho hof))))
      clear hC hpl hS ho hof hod hodf
      go_wp2_with fail
      go_ret
      obtain ⟨hC, hpl, hS, ho, hof⟩ := HQ.out
      refine ⟨fs', .slice oa on oc, rfl, by rw [HST.out.2.2.1]; exact hC, hpl, hS, ?_, fun q e => (hof q e).1⟩
      rw [HST.out.2.2.1]
      exact OwnI.rebase ho fun q e => (hof q e).2
end
end Go.Proofs.Ytbklhhmcigangaa
