import Derived.Test.YtpgdncpomacghaaQ6
namespace Go.Proofs.Ytpgdncpomacghaa
open Go.RowKit Go.Mx Go.Cnt
set_option linter.unusedSimpArgs false
set_option linter.unusedVariables false
theorem ShotsO.below {w w' : World} {base : Nat} {sv : Value} {ss : List ShotM} (h : ShotsO w base sv ss) (hb : Below w.heap.size w w') : ShotsO w' base sv ss :=
  h.kept (.of_below hb fun _ h _ => h : Kept w w' fun _ => True) fun _ _ _ _ _ _ => trivial
theorem ShotsO.any_base {w : World} {base base' : Nat} {sv : Value} {ss : List ShotM} (h : ShotsO w base sv ss) (hb : base' ≤ base) : ShotsO w base' sv ss := by
  obtain ⟨lvs, h1, h2, h3⟩ := h
  exact ⟨lvs, h1, h2.any_base hb, fun i hi => (h3 i hi).any_base hb⟩
theorem ShotsO.shape {w : World} {base : Nat} {sv : Value} {ss : List ShotM} (h : ShotsO w base sv ss) : ∃ oa n c, sv = .slice oa n c := by
  obtain ⟨tvs, h1, h2, h3⟩ := h
  exact own_shape h2
/-- what a shot that was put yields -/
def AddP (m : MetaM) (nm : List UInt8) (w : World) (e : Ending) (w' : World) : Prop :=
  ∃ (a3 a4 a5 a6 : Option Addr) (n3 n4 n5 n6 d3 d4 d5 d6 : Nat) (a b : Int) (c : ByteArray) (code : Int), e = .returned (.tuple #[.agg #[.int .i64 a, .int .i64 b, .string c, .slice a3 n3 d3, .slice a4 n4 d4, .slice a5 n5 d5, .slice a6 n6 d6], .int .i64 code]) ∧ Below w.heap.size w w' ∧ (code = 0 → TabO w' w.heap.size (.slice a3 n3 d3) m.t ∧ ShotsO w' w.heap.size (.slice a4 n4 d4) (m.ss ++ [⟨nm, m.sz, m.t⟩]))
/-- 'm.Shots = append(m.Shots, s)' -/
theorem shots_snoc {w5 W w6 : World} {base b6 : Nat} {ov v1 v2 : Value} {ss : List ShotM} {s : ShotM} {Y : Array Value} (h : ShotsO w5 base ov ss) (hbase : base ≤ w5.heap.size) (hq : w5.heap[b6]? = some (.cells Y 29 (0, 0))) (hbW : Below w5.heap.size w5 W) (ht : TabO W w5.heap.size v1 s.t) (c : Array Value)
    (tvs : List Value) (htv : tvs.length = ss.length) (hrows : OwnG w5 base 53 3 ov (List.zipWith shotC ss tvs)) (htabs : ∀ i, i < ss.length → TabO w5 base (tvs.getD i undef) (ss.getD i default).t)
    (ho6 : OwnG w6 base 53 3 v2 (List.zipWith shotC ss tvs ++ [shotC s v1])) (hg6 : (W.alloc (.cells c 53)).grownBy w6 ov.ownBlock) :
    ShotsO (w6.setCell ⟨b6, 4, none⟩ v2) base v2 (ss ++ [s]) ∧ Kept w5 (w6.setCell ⟨b6, 4, none⟩ v2) (fun q => ov.ownBlock ≠ some q ∧ q ≠ b6) ∧ (w6.setCell ⟨b6, 4, none⟩ v2).heap[b6]? = some (.cells (Y.setIfInBounds 4 v2) 29 (0, 0)) ∧ (base ≤ b6 → Below base w5 (w6.setCell ⟨b6, 4, none⟩ v2)) := by
  have hbA : Below w5.heap.size w5 (W.alloc (.cells c 53)) := hbW.alloc hbW.size _
  have K5 : Kept w5 (W.alloc (.cells c 53)) (fun _ => True) := .of_below hbA fun _ h _ => h
  have K6 : Kept (W.alloc (.cells c 53)) w6 (fun q => ov.ownBlock ≠ some q) := Kept.grown hg6 fun k hk hN => hN hk
  have K9 : Kept w6 (w6.setCell ⟨b6, 4, none⟩ v2) (fun q => q ≠ b6) := Kept.set w6 _ 4 v2 fun h => h rfl
  have K56 : Kept w5 w6 (fun q => ov.ownBlock ≠ some q) := (Kept.imp' K5 fun _ _ _ => trivial).trans K6
  have KK : Kept w5 (w6.setCell ⟨b6, 4, none⟩ v2) (fun q => ov.ownBlock ≠ some q ∧ q ≠ b6) := (Kept.imp' K56 fun q _ hq => hq.1).trans (Kept.imp' K9 fun q _ hq => hq.2)
  have q36 : w6.heap[b6]? = some (.cells Y 29 (0, 0)) := (K56.block _ (blk_lt hq) (own_not hrows hq (by decide))).trans hq
  have hN : ∀ q c e f, w5.heap[q]? = some (.cells c e f) → (e = 39 ∨ e = 76) → ov.ownBlock ≠ some q ∧ q ≠ b6 := fun q c e f hq' he =>
    ⟨own_not hrows hq' (by rcases he with rfl | rfl <;> decide), blk_ne hq' hq (by rcases he with rfl | rfl <;> decide)⟩
  refine ⟨⟨tvs ++ [v1], by simp [htv], ?_, ?_⟩, KK, heap_setCell_at' w6 b6 4 v2 _ 29 (0, 0) q36, fun hb => ?_⟩
  · rw [List.zipWith_append htv.symm]
    exact ho6.kept K9 fun k e => by rintro rfl; exact own_not ho6 q36 (by decide) e
  · intro i hi
    rw [getD_snoc, getD_snoc, htv]
    by_cases e : i = ss.length
    · rw [if_pos e, if_pos e]
      have h1 : TabO (W.alloc (.cells c 53)) w5.heap.size v1 s.t := ht.below ((Below.refl W.heap.size W).alloc (Nat.le_refl _) _)
      obtain ⟨lvs, g1, g2, g3⟩ := h1
      have hne : ∀ {v : Value} {e : TypeId} {s : Nat} {rows : List (List Value)}, OwnG (W.alloc (.cells c 53)) w5.heap.size e s v rows → ∀ q, v.ownBlock = some q → ov.ownBlock ≠ some q := fun hg q e1 e2 => by
        have h2 := hg.ge q e1
        have h3 := hrows.lt q e2
        omega
      have h4 : TabO w6 w5.heap.size v1 s.t := ⟨lvs, g1, g2.kept K6 (hne g2), fun i hi => (g3 i hi).kept K6 (hne (g3 i hi))⟩
      exact (h4.kept K9 fun q c e f hq he => blk_ne hq q36 (by rcases he with rfl | rfl <;> decide)).any_base hbase
    · rw [if_neg e, if_neg e]
      exact (htabs i (by simp at hi; omega)).kept KK hN
  · exact ((hbA.mono hbase).trans ((Below.refl base _).grown hg6 (by have := hbA.size; omega) (fun k hk => hrows.ge k hk))).setCell (p := ⟨b6, 4, none⟩) hb v2
end Go.Proofs.Ytpgdncpomacghaa
