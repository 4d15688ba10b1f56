import Derived.Test.YtbklhhmcigangaaF
namespace Go.Lr
/-- a page when what it is after and what is after it ends -/
def looseE (k : Int) (e : En) : En := { e with pg := { e.pg with after := if e.k == k then [] else e.pg.after.filter fun f => !(f == k) } }
def turned (φ : En → En) (left : Int → Bool) (l : List En) : List En := l.map fun g => if left g.k then g else φ g
theorem turned_all (φ : En → En) (left : Int → Bool) (l : List En) (h : ∀ g ∈ l, left g.k = true) : turned φ left l = l := by
  unfold turned; conv => rhs; rw [← List.map_id l]
  apply List.map_congr_left; intro g hg; rw [h g hg]; rfl
theorem turned_none (φ : En → En) (left : Int → Bool) (l : List En) (h : ∀ s, left s = false) : turned φ left l = l.map φ := by
  unfold turned; apply List.map_congr_left; intro g hg; rw [h]; rfl
end Go.Lr
namespace Go.Proofs.Ytbklhhmcigangaa
open Go.RowKit Go.Mx Go.Lr
set_option linter.unusedVariables false
set_option linter.unusedSimpArgs false
section
variable {w w' : World} {base p m : Nat} {c : CM} {fs : List PR} {V : Nat → Prop}
theorem CK.free_new (h : CK w base p m c fs All) {k : Nat} (hk : w.heap.size ≤ k) : Free p m fs k := by
  refine ⟨by have := h.plt; omega, by have := h.mp.lt; omega, fun i f hi => ⟨by have := blk_lt (h.fc i f hi).1; omega, fun e => ?_⟩⟩
  have := OwnV.lt (h.oa i f hi trivial) k e
  omega
/-- a step at a block that is not the cache's -/
theorem CK.other (h : CK w base p m c fs All) {r : Nat} (hr : Free p m fs r) (hk : Kept w w' (fun q => q ≠ r)) (hr5 : ∀ c f, w.heap[r]? ≠ some (.cells c 5 f)) : CK w' base p m c fs All where
  all := h.all
  ck := (hk.block p h.plt hr.1.symm).trans h.ck
  hp := h.hp
  hm := h.hm
  mp := h.mp.block (hk.block m h.mp.lt hr.2.1.symm)
  fc := fun i f hi => ⟨(hk.block _ (blk_lt (h.fc i f hi).1) (hr.2.2 i f hi).1.symm).trans (h.fc i f hi).1, (h.fc i f hi).2⟩
  ob := fun i f hi => (h.ob i f hi).kept hk fun k e => by
    rintro rfl
    obtain ⟨c9, f9, hc9⟩ := ownB_type (h.ob i f hi) _ e
    exact hr5 _ _ hc9
  oa := fun i f hi hv => ownI_kept (h.oa i f hi hv) hk fun k e => by rintro rfl; exact (hr.2.2 i f hi).2 e
  af := h.af
  aa := h.aa
  sb := h.sb
  sa := h.sa
end
set_option maxRecDepth 100000 in
theorem clo55 (x k : Int) (a : Nat) (w : World) (hc : w.cell? ⟨a, 0, none⟩ = some (.int .i64 k)) : Calls Try.prog 55 #[.int .i64 x, ptr a] w fun e w' => e = .returned (.bool (x == k)) ∧ Below w.heap.size w w' := by
  cases hq : (x == k)
  all_goals
    go_enter Try.func55, Try.ntmps55
    go_wp2
    go_ret
    exact ⟨rfl, Below.refl _ _⟩
/-- a page whose list of what it is after is another one -/
def afterPR (f : PR) (l : List Int) (v : Value) : PR := { f with av := v, en := { f.en with pg := { f.en.pg with after := l } } }
section
variable {w w' : World} {base p m : Nat} {c : CM} {fs : List PR}
/-- one page's list goes through DeleteFunc -/
theorem CK.delAfter (h : CK w base p m c fs All) {i : Nat} {f : PR} (hi : fs[i]? = some f) {l' : List Int} {v' : Value} {w2 : World} (hk : Kept w w2 (fun q => f.av.ownBlock ≠ some q)) (hb : Below base w w2) (ho : OwnI w2 base v' l') (hv : ∀ q, v'.ownBlock = some q → f.av.ownBlock = some q) :
    let w3 := w2.setCell ⟨f.fb, 3, none⟩ v'
    CK w3 base p m { c with all := (fs.set i (afterPR f l' v')).map (·.en) } (fs.set i (afterPR f l' v')) All ∧ Stp base p m w fs w3 (fs.set i (afterPR f l' v')) ∧ w2.cell? ⟨f.fb, 3, none⟩ = some f.av ∧ w2.frozen? ⟨f.fb, 3, none⟩ = false := by
  intro w3
  have hfc := (h.fc i f hi).1
  have hne : f.av.ownBlock ≠ some f.fb := ownI_not (h.oa i f hi trivial) hfc (by decide)
  have q2 := (hk.block _ (blk_lt hfc) hne).trans hfc
  have hks : Kept w2 w3 (fun q => q ≠ f.fb) := Kept.set w2 f.fb 3 v' fun hn => hn rfl
  have hkk : Kept w w3 (fun q => f.av.ownBlock ≠ some q ∧ q ≠ f.fb) := (hk.imp fun q _ hq => hq.1).trans (hks.imp fun q _ hq => hq.2)
  have hset := heap_setCell_at' w2 f.fb 3 v' _ 66 (0, 0) q2
  have hoB : OwnB w3 base 5 f.bv f.en.pg.b := (h.ob i f hi).kept hkk fun q e => by
    obtain ⟨c9, f9, hc9⟩ := ownB_type (h.ob i f hi) q e
    exact ⟨ownI_not (h.oa i f hi trivial) hc9 (by decide), blk_ne hc9 hfc (by decide)⟩
  have hoA : OwnI w3 base v' l' := ownI_kept ho hks fun q e => by
    obtain ⟨c9, f9, hc9⟩ := ownI_type ho q e
    exact blk_ne hc9 q2 (by decide)
  have hsh : ∃ oa n c, v' = .slice oa n c := ownG_shape (ownI_G ho)
  obtain ⟨h1, h2⟩ := h.setPage hi (afterPR f l' v') rfl rfl hkk (fun k hlt hne hav => ⟨hav trivial, hne⟩) (hb.setCell (p := ⟨f.fb, 3, none⟩) (h.fc i f hi).2 v') hset All (fun _ _ hv => hv) hoB (fun _ => hoA) (fun _ k e => .inl (hv k e)) trivial (h.sb i f hi) hsh
  exact ⟨h1, h2, by simp [World.cell?, q2], by simp [World.frozen?, q2]⟩
theorem turned_set {left : Int → Bool} {k s : Int} {l : List En} {fs : List PR} {i : Nat} {f : PR} (hall : turned (looseE k) left l = fs.map (·.en)) (hn : (fs.map (·.en.k)).Nodup) (hi : fs[i]? = some f) (hs : f.en.k = s) (hl : left s = true) (hln : (l.map (·.k)).Nodup) {F : PR} (hF : F.en = looseE k f.en) :
    (fs.set i F).map (·.en) = turned (looseE k) (fun t => left t && !(t == s)) l := by
  have hlen : l.length = fs.length := by have := congrArg List.length hall; simpa [turned] using this
  apply List.ext_getElem?
  intro j
  rw [List.getElem?_map]
  unfold turned
  rw [List.getElem?_map, List.getElem?_set]
  have hj := congrArg (fun q => q[j]?) hall
  simp only [turned, List.getElem?_map] at hj
  by_cases e : i = j
  · subst e
    rw [if_pos rfl, if_pos (List.getElem?_eq_some_iff.1 hi).1]
    rw [hi] at hj
    cases hg : l[i]? with
    | none => rw [hg] at hj; cases hj
    | some g =>
      rw [hg] at hj
      simp only [Option.map_some, Option.some.injEq] at hj
      have hgk : g.k = s := by
        rw [← hs, ← hj]
        split
        · rfl
        · rfl
      rw [hgk, hl, if_pos rfl] at hj
      simp only [Option.map_some, Option.some.injEq]
      rw [hgk, if_neg (by simp), hF, hj]
  · rw [if_neg e]
    cases hf : fs[j]? with
    | none =>
      rw [hf] at hj
      cases hg : l[j]? with
      | none => rfl
      | some g => rw [hg] at hj; cases hj
    | some f2 =>
      rw [hf] at hj
      cases hg : l[j]? with
      | none => rw [hg] at hj; cases hj
      | some g =>
        rw [hg] at hj
        simp only [Option.map_some, Option.some.injEq] at hj ⊢
        have hgk : g.k = f2.en.k := by
          rw [← hj]
          split
          · rfl
          · rfl
        have hne : ¬ g.k = s := by
          intro e2
          rw [hgk, ← hs] at e2
          have h1 : (fs.map (·.en.k))[j]? = some f2.en.k := by rw [List.getElem?_map, hf]; rfl
          have h2 : (fs.map (·.en.k))[i]? = some f.en.k := by rw [List.getElem?_map, hi]; rfl
          rw [e2] at h1
          have l1 := (List.getElem?_eq_some_iff.1 h1)
          have l2 := (List.getElem?_eq_some_iff.1 h2)
          have key := List.pairwise_iff_getElem.1 hn
          rcases Nat.lt_trichotomy j i with h3 | h3 | h3
          · exact absurd (l1.2.trans l2.2.symm) (key j i l1.1 l2.1 h3)
          · exact e h3.symm
          · exact absurd (l2.2.trans l1.2.symm) (key i j l2.1 l1.1 h3)
        have : (g.k == s) = false := by simpa using hne
        simp only [this, Bool.not_false, Bool.and_true]
        exact hj.symm
end
end Go.Proofs.Ytbklhhmcigangaa
