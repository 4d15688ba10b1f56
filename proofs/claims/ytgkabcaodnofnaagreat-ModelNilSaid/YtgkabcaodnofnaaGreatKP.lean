import Derived.Test.YtgkabcaodnofnaaGreatMO
namespace Go.Proofs.YtgkabcaodnofnaaGreat
open Go.RowKit Go.Mx Go.Md
set_option linter.unusedVariables false
set_option linter.unusedSimpArgs false
variable {w w' : World} {base mb : Nat} {M : MM} {X : MX}
def newX (am : Nat) (xs : List XI) (km : Nat) (ks : List XI) (hm : Nat) (cl : ML (List UInt8)) : MX := ⟨am, xs, km, ks, hm, cl, none, .slice none 0 0, []⟩
theorem nd3 {l1 l2 : List Nat} {hm : Nat} (h1 : l1.Nodup) (h2 : l2.Nodup) (e1 : ∀ b ∈ l1, b ≠ hm) (e2 : ∀ b ∈ l2, b ≠ hm) (e3 : ∀ b ∈ l1, ∀ c ∈ l2, b ≠ c) : (hm :: (l1 ++ l2)).Nodup := by
  rw [List.nodup_cons, List.nodup_append]
  refine ⟨fun h => ?_, h1, h2, e3⟩
  rcases List.mem_append.1 h with h | h
  · exact e1 _ h rfl
  · exact e2 _ h rfl
theorem newX_fp {nb am km hm : Nat} {xs ks : List XI} {b : Nat} (h : b ∈ (newX am xs km ks hm []).fp nb) : b = nb ∨ b = hm ∨ b ∈ fpA am xs ∨ b ∈ fpA km ks := by
  unfold MX.fp newX at h
  simp only [Option.toList_none, List.nil_append, Value.ownBlock, List.mem_cons, List.mem_append] at h
  exact h
theorem AM.empty0 {am : Nat} (h : GM ES Tryz.prog 9 w am []) : AM w base am [] [] := ⟨h, .nil, by simp, by simp, by simp, by simp⟩
theorem mo_new {am km hm : Nat} {S T : IL} {xs ks : List XI} (a : AM w base am S xs) (k : AM w base km T ks) (h : GM ES Tryz.prog 9 w hm []) (hn : (hm :: (fpA am xs ++ fpA km ks)).Nodup) :
    MO (w.alloc (.cells #[.map (some am), .map (some km), .map (some hm), .int .u32 0, .int .i32 0, .int .u32 0, .map none, .slice none 0 0] 73)) base w.heap.size ⟨S, T, fun _ => false⟩ (newX am xs km ks hm []) := by
  have hb : Below w.heap.size w (w.alloc (.cells #[.map (some am), .map (some km), .map (some hm), .int .u32 0, .int .i32 0, .int .u32 0, .map none, .slice none 0 0] 73)) := (Below.refl _ _).alloc (Nat.le_refl _) _
  refine ⟨alloc_new w _, a.below hb, k.below hb, h.block (hb.block _ h.lt), by simp [newX], fun n => rfl, fun dm e => by simp [newX] at e, OwnG.nil _ _ _ _, ?_⟩
  unfold MX.fp
  simp only [newX, Option.toList_none, List.nil_append, Value.ownBlock]
  rw [List.nodup_cons]
  refine ⟨fun hm' => ?_, hn⟩
  have h1 : w.heap.size < w.heap.size := by
    rcases List.mem_cons.1 hm' with e | e
    · have := h.lt; omega
    · rcases List.mem_append.1 e with e | e
      · exact a.lt _ e
      · exact k.lt _ e
  omega
set_option maxRecDepth 100000 in
set_option maxHeartbeats 1000000 in
/-- function 13 -/
theorem new_any (w : World) (base : Nat) (hbase : base ≤ w.heap.size) : Calls Tryz.prog 13 #[] w fun e w' => e = .returned (pt (w.heap.size + 3)) ∧ MO w' base (w.heap.size + 3) ⟨[], [], fun _ => false⟩ (newX w.heap.size [] (w.heap.size + 1) [] (w.heap.size + 2) []) ∧ Below w.heap.size w w' := by
  have hmm := @run_makeMap Tryz.prog
  go_enter Tryz.func13, Tryz.ntmps13
  go_wp2_with fail
  go_ret
  obtain ⟨w1, hw1⟩ : ∃ z, z = w.alloc (.map #[] 0) := ⟨_, rfl⟩
  have g1 : GM ES Tryz.prog 9 w1 w.heap.size [] := by rw [hw1]; exact GM.made ES Tryz.prog 9 w
  have s1 : w1.heap.size = w.heap.size + 1 := by rw [hw1]; simp
  rw [← hw1]
  obtain ⟨w2, hw2⟩ : ∃ z, z = w1.alloc (.map #[] 0) := ⟨_, rfl⟩
  have g2 : GM ES Tryz.prog 9 w2 w1.heap.size [] := by rw [hw2]; exact GM.made ES Tryz.prog 9 w1
  have s2 : w2.heap.size = w1.heap.size + 1 := by rw [hw2]; simp
  have b2 : Below w1.heap.size w1 w2 := by rw [hw2]; exact (Below.refl _ _).alloc (Nat.le_refl _) _
  rw [← hw2]
  obtain ⟨w3, hw3⟩ : ∃ z, z = w2.alloc (.map #[] 0) := ⟨_, rfl⟩
  have g3 : GM ES Tryz.prog 9 w3 w2.heap.size [] := by rw [hw3]; exact GM.made ES Tryz.prog 9 w2
  have s3 : w3.heap.size = w2.heap.size + 1 := by rw [hw3]; simp
  have b3 : Below w2.heap.size w2 w3 := by rw [hw3]; exact (Below.refl _ _).alloc (Nat.le_refl _) _
  rw [← hw3]
  have b1 : Below w.heap.size w w1 := by rw [hw1]; exact (Below.refl _ _).alloc (Nat.le_refl _) _
  have a1 := AM.empty0 (base := base) (((g1.block (b2.block _ g1.lt)).block (b3.block _ (by omega))))
  have a2 := AM.empty0 (base := base) (g2.block (b3.block _ g2.lt))
  have h9 := mo_new a1 a2 g3 (by simp [fpA]; omega)
  rw [show w.heap.size + 3 = w3.heap.size by omega, show w.heap.size + 1 + 1 = w2.heap.size by omega, show w.heap.size + 1 = w1.heap.size by omega]
  exact ⟨rfl, h9, ((b1.trans (b2.mono (by omega))).trans (b3.mono (by omega))).alloc (by omega) _⟩
set_option maxRecDepth 100000 in
set_option maxHeartbeats 1000000 in
/-- function 16 -/
theorem kept_any (hm : ∃ c, w.heap[mb]? = some (.cells c 73 (0, 0)) ∧ c[1]? = some (.map (some X.km))) (hA : AM w base X.km M.kept X.ks) (hbase : base ≤ w.heap.size) (hl : X.ks.length ≤ 1000) :
    Calls Tryz.prog 16 #[pt mb] w fun e w' => ∃ nb X', e = .returned (pt nb) ∧ MO w' base nb ⟨M.kept, M.kept, fun _ => false⟩ X' ∧ (∀ b ∈ X'.fp nb, w.heap.size ≤ b) ∧ X'.fr = [] ∧ Below w.heap.size w w' := by
  obtain ⟨c, hc1, hc2⟩ := hm
  have c1 : ∀ w', Below w.heap.size w w' → w'.cell? ⟨mb, 1, none⟩ = some (.map (some X.km)) := fun w' hB => by
    have := (hB.block _ (blk_lt hc1)).trans hc1
    simp [World.cell?, this, hc2]
  have HC := hid (fun w' (hB : Below w.heap.size w w') => cloned_any (hA.below hB) (Nat.le_trans hbase hB.size) hl)
  have hmm := @run_makeMap Tryz.prog
  have hq : ∀ w', (binOp .eql 28 (pt mb) (.pointer none)).run Tryz.prog w' = .ok (.bool false) w' := fun w' => by simp [go_sem]
  clear hA hc1 hc2
  have c0 := c1 w (Below.refl _ _)
  go_enter Tryz.func16, Tryz.ntmps16
  go_upto_region 3 with (fail)
  go_region_held (fun w' => Below w.heap.size w w') (first | exact (Below.refl _ _).drew | assumption | exact Below.drew (by assumption) | exact Below.alloc (by assumption) (Below.size (by assumption)) _) (first
    | (go_at_call 28; have hq5 := hn5; refine (HC.out _ (by assumption)).mono ?_; rintro e w6 ⟨rfl, ys6, hA6, hn6, hge6, hb6c⟩; have hb6 : Below w.heap.size w w6 := Below.trans (by assumption) (hb6c.mono (Below.size (by assumption))))
    | (go_at_call 28; refine (HC.out _ (by assumption)).mono ?_; rintro e w5 ⟨rfl, ys5, hA5, hn5, hge5, hb5c⟩; have hb5 : Below w.heap.size w w5 := Below.trans (by assumption) (hb5c.mono (Below.size (by assumption)))))
  all_goals (go_wp2_with fail; go_ret)
  · have hx := hA5.below hb6c
    have hg : GM ES Tryz.prog 9 (w6.alloc (.map #[] 0)) w6.heap.size [] := GM.made ES Tryz.prog 9 w6
    have bB : Below w6.heap.size w6 (w6.alloc (.map #[] 0)) := (Below.refl _ _).alloc (Nat.le_refl _) _
    have l5 := hA5.lt
    have l6 := hA6.lt
    have s6 : w5.heap.size ≤ w6.heap.size := hb6c.size
    have s5 : w.heap.size ≤ w5.heap.size := hb5.size
    have hz : (w6.alloc (.map #[] 0)).heap.size = w6.heap.size + 1 := by simp
    have h9 := mo_new (hx.below bB) (hA6.below bB) hg (nd3 hn5 hn6 (fun b hb => by have := l5 b hb; omega) (fun b hb => by have := l6 b hb; omega) fun b hb c hc => by have := l5 b hb; have := hge6 c hc; omega)
    rw [hz] at h9
    refine ⟨_, _, rfl, h9, fun b hb => ?_, rfl, (hb6.alloc hb6.size _).alloc (by omega) _⟩
    rcases newX_fp hb with e | e | e | e
    · omega
    · omega
    · exact hge5 b e
    · have := hge6 b e; omega
  · have hx := hA5.below ((Below.refl _ _).alloc (Nat.le_refl _) (.map #[] 0))
    have hy := hx.below hb6c
    have hg0 : GM ES Tryz.prog 9 (w5.alloc (.map #[] 0)) w5.heap.size [] := GM.made ES Tryz.prog 9 w5
    have hg := hg0.block (hb6c.block _ hg0.lt)
    have l5 := hA5.lt
    have l6 := hA6.lt
    have hz : (w5.alloc (.map #[] 0)).heap.size = w5.heap.size + 1 := by simp
    have s6 : w5.heap.size + 1 ≤ w6.heap.size := by rw [← hz]; exact hb6c.size
    have s5 : w.heap.size ≤ w5.heap.size := hb5.size
    have h9 := mo_new hy hA6 hg (nd3 hn5 hn6 (fun b hb => by have := l5 b hb; omega) (fun b hb => by have := hge6 b hb; rw [hz] at this; omega) fun b hb c hc => by have := l5 b hb; have := hge6 c hc; rw [hz] at this; omega)
    rw [hz] at h9
    refine ⟨_, _, rfl, h9, fun b hb => ?_, rfl, hb6.alloc hb6.size _⟩
    rcases newX_fp hb with e | e | e | e
    · omega
    · omega
    · exact hge5 b e
    · have := hge6 b (by rw [hz]; exact e); rw [hz] at this; omega
  · have hg0 : GM ES Tryz.prog 9 (w.alloc (.map #[] 0)) w.heap.size [] := GM.made ES Tryz.prog 9 w
    have hg1 := hg0.block (w' := (w.alloc (.map #[] 0)).drew) rfl
    have hz : (w.alloc (.map #[] 0)).drew.heap.size = w.heap.size + 1 := by simp
    have hg := (hg1.block (hb5c.block _ (by rw [hz]; omega))).block (hb6c.block _ (by have := hb5c.size; rw [hz] at this; omega))
    have hx := hA5.below hb6c
    have l5 := hA5.lt
    have l6 := hA6.lt
    have s6 : w5.heap.size ≤ w6.heap.size := hb6c.size
    have s5 : w.heap.size + 1 ≤ w5.heap.size := by rw [← hz]; exact hb5c.size
    have h9 := mo_new hx hA6 hg (nd3 hn5 hn6 (fun b hb => by have := hge5 b hb; rw [hz] at this; omega) (fun b hb => by have := hge6 b hb; omega) fun b hb c hc => by have := l5 b hb; have := hge6 c hc; omega)
    rw [hz] at h9
    refine ⟨_, _, rfl, h9, fun b hb => ?_, rfl, hb6.alloc hb6.size _⟩
    rcases newX_fp hb with e | e | e | e
    · omega
    · omega
    · have := hge5 b (by rw [hz]; exact e); rw [hz] at this; omega
    · have := hge6 b e; omega
end Go.Proofs.YtgkabcaodnofnaaGreat
