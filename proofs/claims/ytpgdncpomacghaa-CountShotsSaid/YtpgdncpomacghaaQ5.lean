import Derived.Test.YtpgdncpomacghaaQ4
namespace Go.Proofs.Ytpgdncpomacghaa
open Go.RowKit Go.Mx Go.Cnt
set_option linter.unusedSimpArgs false
set_option linter.unusedVariables false
/-- snapshots that the call itself has made -/
def ShotsO (w : World) (base : Nat) (sv : Value) (ss : List ShotM) : Prop :=
  ∃ tvs : List Value, tvs.length = ss.length ∧ OwnG w base 53 3 sv (List.zipWith shotC ss tvs) ∧ ∀ i, i < ss.length → TabO w base (tvs.getD i undef) (ss.getD i default).t
theorem ShotsO.shots {w : World} {base : Nat} {sv : Value} {ss : List ShotM} (h : ShotsO w base sv ss) : IsShots w w.heap.size sv ss := by
  obtain ⟨tvs, h1, h2, h3⟩ := h
  exact ⟨tvs, h1, h2.slG, fun i hi => (h3 i hi).tab⟩
theorem TabO.below {w w' : World} {base : Nat} {tv : Value} {t : Tab} (h : TabO w base tv t) (hb : Below w.heap.size w w') : TabO w' base tv t :=
  h.kept (.of_below hb fun _ h _ => h : Kept w w' fun _ => True) fun _ _ _ _ _ _ => trivial
theorem TabO.any_base {w : World} {base base' : Nat} {tv : Value} {t : Tab} (h : TabO w base tv t) (hb : base' ≤ base) : TabO w base' tv t := by
  obtain ⟨lvs, h1, h2, h3⟩ := h
  exact ⟨lvs, h1, h2.any_base hb, fun i hi => (h3 i hi).any_base hb⟩
theorem TabO.shape {w : World} {base : Nat} {tv : Value} {t : Tab} (h : TabO w base tv t) : ∃ oa n c, tv = .slice oa n c := by
  obtain ⟨lvs, h1, h2, h3⟩ := h
  exact own_shape h2
theorem ShotsO.kept {w w' : World} {base : Nat} {sv : Value} {ss : List ShotM} (h : ShotsO w base sv ss) {N : Nat → Prop} (hk : Kept w w' N) (hN : ∀ q c e f, w.heap[q]? = some (.cells c e f) → (e = 39 ∨ e = 76 ∨ e = 53) → N q) : ShotsO w' base sv ss := by
  obtain ⟨lvs, h1, h2, h3⟩ := h
  refine ⟨lvs, h1, h2.kept hk fun k hk' => ?_, fun i hi => (h3 i hi).kept hk fun q c e f hq he => hN q c e f hq (by rcases he with h | h <;> simp [h])⟩
  obtain ⟨c, f, hc⟩ := own_type h2 k hk'; exact hN _ _ _ _ hc (.inr (.inr rfl))
/-- a meta's copy under way -/
structure SRel (w wr : World) (X : Array Value) (Z : Array Value) (Y : Value → Value → Array Value) (t : Tab) (ss : List ShotM) (tv' ov : Value) (k : Nat) (tvs : List Value) : Prop where
  bel : Below w.heap.size w wr
  q1 : wr.heap[w.heap.size]? = some (.cells X 29 (0, 0))
  q2 : wr.heap[w.heap.size + 1]? = some (.cells Z 29 (0, 0))
  q3 : wr.heap[w.heap.size + 1 + 1]? = some (.cells (Y tv' ov) 29 (0, 0))
  len : tvs.length = k
  own : OwnG wr w.heap.size 53 3 ov (List.zipWith shotC (ss.take k) tvs)
  tab : TabO wr w.heap.size tv' t
  tabs : ∀ i, i < k → TabO wr w.heap.size (tvs.getD i undef) (ss.getD i default).t
theorem zip_snoc (ss : List ShotM) (tvs : List Value) (k : Nat) (hk : k < ss.length) (hl : tvs.length = k) (x : Value) : List.zipWith shotC (ss.take (k + 1)) (tvs ++ [x]) = List.zipWith shotC (ss.take k) tvs ++ [shotC (ss.getD k default) x] := by
  have e : ss.take (k + 1) = ss.take k ++ [ss.getD k default] := by
    rw [List.take_add_one, List.getElem?_eq_getElem hk, List.getD_eq_getElem?_getD, List.getElem?_eq_getElem hk]; rfl
  rw [e, List.zipWith_append (by simp; omega)]; rfl
theorem SRel.step {w wr W w6 : World} {X Z : Array Value} {Y : Value → Value → Array Value} {t : Tab} {ss : List ShotM} {tv' ov v1 v2 : Value} {k : Nat} {tvs : List Value} (h : SRel w wr X Z Y t ss tv' ov k tvs) (hk : k < ss.length) (hbW : Below wr.heap.size wr W) (ht : TabO W wr.heap.size v1 (ss.getD k default).t) (c : Array Value)
    (ho6 : OwnG w6 w.heap.size 53 3 v2 (List.zipWith shotC (ss.take k) tvs ++ [shotC (ss.getD k default) v1])) (hg6 : (W.alloc (.cells c 53)).grownBy w6 ov.ownBlock) (hY : ((Y tv' ov).setIfInBounds 4 v2) = Y tv' v2) : SRel w (w6.setCell ⟨w.heap.size + 1 + 1, 4, none⟩ v2) X Z Y t ss tv' v2 (k + 1) (tvs ++ [v1]) := by
  have hbA : Below wr.heap.size wr (W.alloc (.cells c 53)) := hbW.alloc hbW.size _
  have K5 : Kept wr (W.alloc (.cells c 53)) (fun _ => True) := .of_below hbA fun _ h _ => h
  have K6 : Kept (W.alloc (.cells c 53)) w6 (fun q => ov.ownBlock ≠ some q) := Kept.grown hg6 fun k hk hN => hN hk
  have K9 : Kept w6 (w6.setCell ⟨w.heap.size + 1 + 1, 4, none⟩ v2) (fun q => q ≠ w.heap.size + 1 + 1) := Kept.set w6 _ 4 v2 fun h => h rfl
  have K56 : Kept wr w6 (fun q => ov.ownBlock ≠ some q) := (Kept.imp' K5 fun _ _ _ => trivial).trans K6
  have KK : Kept wr (w6.setCell ⟨w.heap.size + 1 + 1, 4, none⟩ v2) (fun q => ov.ownBlock ≠ some q ∧ q ≠ w.heap.size + 1 + 1) := (Kept.imp' K56 fun q _ hq => hq.1).trans (Kept.imp' K9 fun q _ hq => hq.2)
  have q36 : w6.heap[w.heap.size + 1 + 1]? = some (.cells (Y tv' ov) 29 (0, 0)) := (K56.block _ (blk_lt h.q3) (own_not h.own h.q3 (by decide))).trans h.q3
  have hsb := h.bel.size
  have hs5 : w.heap.size ≤ (W.alloc (.cells c 53)).heap.size := by have := hbA.size; omega
  have hN : ∀ q c e f, wr.heap[q]? = some (.cells c e f) → (e = 39 ∨ e = 76) → ov.ownBlock ≠ some q ∧ q ≠ w.heap.size + 1 + 1 := fun q c e f hq he =>
    ⟨own_not h.own hq (by rcases he with rfl | rfl <;> decide), blk_ne hq h.q3 (by rcases he with rfl | rfl <;> decide)⟩
  refine ⟨((h.bel.trans (hbA.mono hsb)).trans ((Below.refl w.heap.size _).grown hg6 hs5 (fun k hk => h.own.ge k hk))).setCell (p := ⟨w.heap.size + 1 + 1, 4, none⟩) (by show _ ≤ w.heap.size + 1 + 1; omega) v2, ?_, ?_, ?_, ?_, ?_, ?_, ?_⟩
  · exact (KK.block _ (blk_lt h.q1) ⟨own_not h.own h.q1 (by decide), by omega⟩).trans h.q1
  · exact (KK.block _ (blk_lt h.q2) ⟨own_not h.own h.q2 (by decide), by omega⟩).trans h.q2
  · have := heap_setCell_at' w6 (w.heap.size + 1 + 1) 4 v2 _ 29 (0, 0) q36
    rwa [hY] at this
  · simp [h.len]
  · rw [zip_snoc ss tvs k hk h.len]
    exact ho6.kept K9 fun k e => by rintro rfl; exact own_not ho6 q36 (by decide) e
  · exact h.tab.kept KK hN
  · intro i hi
    rw [getD_snoc]
    by_cases e : i = tvs.length
    · rw [if_pos e, e, h.len]
      have h1 : TabO (W.alloc (.cells c 53)) wr.heap.size v1 (ss.getD k default).t := ht.below ((Below.refl W.heap.size W).alloc (Nat.le_refl _) _)
      obtain ⟨lvs, g1, g2, g3⟩ := h1
      have hne : ∀ {v : Value} {e : TypeId} {s : Nat} {rows : List (List Value)}, OwnG (W.alloc (.cells c 53)) wr.heap.size e s v rows → ∀ q, v.ownBlock = some q → ov.ownBlock ≠ some q := fun hg q e1 e2 => by
        have h2 := hg.ge q e1
        have h3 := h.own.lt q e2
        omega
      have h4 : TabO w6 wr.heap.size v1 (ss.getD k default).t := ⟨lvs, g1, g2.kept K6 (hne g2), fun i hi => (g3 i hi).kept K6 (hne (g3 i hi))⟩
      exact (h4.kept K9 fun q c e f hq he => blk_ne hq q36 (by rcases he with rfl | rfl <;> decide)).any_base hsb
    · rw [if_neg e]
      exact (h.tabs i (by have := h.len; omega)).kept KK hN
/-- seven cells of a block that are stored one behind the other -/
theorem sets7 (W0 : World) (b : Nat) (z0 z1 z2 z3 z4 z5 z6 x0 x1 x2 x3 x4 x5 x6 : Value) (h : W0.heap[b]? = some (.cells #[z0, z1, z2, z3, z4, z5, z6] 29 (0, 0))) (W : World)
    (hW : W = (((((((W0.setCell ⟨b, 0, none⟩ x0).setCell ⟨b, 1, none⟩ x1).setCell ⟨b, 2, none⟩ x2).setCell ⟨b, 3, none⟩ x3).setCell ⟨b, 4, none⟩ x4).setCell ⟨b, 5, none⟩ x5).setCell ⟨b, 6, none⟩ x6)) :
    W.heap[b]? = some (.cells #[x0, x1, x2, x3, x4, x5, x6] 29 (0, 0)) ∧ Kept W0 W (fun q => q ≠ b) ∧ ∀ (B : Nat) (w0 : World), Below B w0 W0 → B ≤ b → Below B w0 W := by
  have key : ∀ (W1 : World) (c : Array Value) (i : Nat) (x : Value), W1.heap[b]? = some (.cells c 29 (0, 0)) → (W1.setCell ⟨b, i, none⟩ x).heap[b]? = some (.cells (c.setIfInBounds i x) 29 (0, 0)) := fun W1 c i x h1 => heap_setCell_at' W1 b i x c 29 (0, 0) h1
  have kk : ∀ (W1 : World) (i : Nat) (x : Value), Kept W1 (W1.setCell ⟨b, i, none⟩ x) (fun q => q ≠ b) := fun W1 i x => Kept.set W1 b i x fun h => h rfl
  subst hW
  refine ⟨?_, ((((((kk _ 0 x0).trans (kk _ 1 x1)).trans (kk _ 2 x2)).trans (kk _ 3 x3)).trans (kk _ 4 x4)).trans (kk _ 5 x5)).trans (kk _ 6 x6), fun B w0 hb hB => ((((((hb.setCell (p := ⟨b, 0, none⟩) hB x0).setCell (p := ⟨b, 1, none⟩) hB x1).setCell (p := ⟨b, 2, none⟩) hB x2).setCell (p := ⟨b, 3, none⟩) hB x3).setCell (p := ⟨b, 4, none⟩) hB x4).setCell (p := ⟨b, 5, none⟩) hB x5).setCell (p := ⟨b, 6, none⟩) hB x6⟩
  have h7 := key _ _ 6 x6 (key _ _ 5 x5 (key _ _ 4 x4 (key _ _ 3 x3 (key _ _ 2 x2 (key _ _ 1 x1 (key _ _ 0 x0 h))))))
  simp only [List.setIfInBounds_toArray, List.set_cons_zero, List.set_cons_succ] at h7
  exact h7
end Go.Proofs.Ytpgdncpomacghaa
