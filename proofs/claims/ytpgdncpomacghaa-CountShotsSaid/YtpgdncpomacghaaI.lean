import Derived.Test.YtpgdncpomacghaaH
namespace Go.Proofs.Ytpgdncpomacghaa
open Go.RowKit Go.Mx Go.Cnt Go.Shelf

theorem IsTab.nil (w : World) (B : Nat) : IsTab w B (.slice none 0 0) [] := ⟨[], rfl, SlG.nil _ _ _, fun i hi => absurd hi (by simp)⟩
theorem IsShots.nil (w : World) (B : Nat) : IsShots w B (.slice none 0 0) [] := ⟨[], rfl, SlG.nil _ _ _, fun i hi => absurd hi (by simp)⟩

theorem slI_lit (w : World) (l : List Int) (hl : l.length ≤ maxLen) : SlI (w.alloc (.cells (l.map (.int .i64)).toArray 3)) (w.heap.size + 1) (.slice (some ⟨w.heap.size, 0, none⟩) l.length l.length) l := by
  unfold SlI
  refine ⟨some ⟨w.heap.size, 0, none⟩, l.length, by simp, by simp, hl, fun _ => ⟨w.heap.size, 0, rfl, by omega, fun i hi j u hu => ?_⟩⟩
  have hi' : i < l.length := by simpa using hi
  have e : (l.map fun n => [Value.int .i64 n]).getD i [] = [.int .i64 (l.getD i 0)] := by
    simp [List.getD_eq_getElem?_getD, List.getElem?_map, List.getElem?_eq_getElem hi']
  rw [e] at hu
  have hj : j = 0 := by
    have := (List.getElem?_eq_some_iff.1 hu).1; simpa using this
  subst hj
  simp at hu
  rw [World.cell?_alloc_at _ _ _ _ rfl, ← hu]
  simp [List.getElem?_eq_getElem hi']

theorem first_a : first [1, 1, 0, 1] 1 0 = 2 := by rw [first_next _ _ _ (by decide), first_next _ _ _ (by decide), first_free _ _ _ (by decide)]
theorem first_b : first [1, 1, 0, 1] 2 0 = 4 := by rw [first_next _ _ _ (by decide), first_next _ _ _ (by decide), first_next _ _ _ (by decide), first_next _ _ _ (by decide), first_free _ _ _ (by decide)]
theorem freeM_a : freeM [1, 1, 0, 1] 1 0 100 = (2, true) := by
  unfold freeM; rw [if_neg (by decide), show Int.toNat 1 = 1 from rfl, show Int.toNat 0 = 0 from rfl, first_a, if_neg (by decide)]; rfl
theorem freeM_b : freeM [1, 1, 0, 1] 2 0 100 = (4, true) := by
  unfold freeM; rw [if_neg (by decide), show Int.toNat 2 = 2 from rfl, show Int.toNat 0 = 0 from rfl, first_b, if_neg (by decide)]; rfl

set_option maxRecDepth 100000 in
set_option maxHeartbeats 2000000 in
theorem awake_any (w : World) : Calls Try.prog 13 #[] w fun e w' => e = .returned (.bool true) ∧ Below w.heap.size w w' := by
  have F1 := hid freeM_a
  have F2 := hid freeM_b
  have hs1 : SlI (w.alloc (.cells #[.int .i64 1, .int .i64 1, .int .i64 0, .int .i64 1] 3)) (w.heap.size + 1) (.slice (some ⟨w.heap.size, 0, none⟩) 4 4) [1, 1, 0, 1] := slI_lit w [1, 1, 0, 1] (by simp [maxLen])
  have HS1 := hid hs1
  clear hs1
  go_enter Try.func13, Try.ntmps13
  go_wp2_with fail
  refine (free_any [1, 1, 0, 1] _ 1 0 100 _ (HS1.out.mono (by simp)) (by simp) (by omega) (by omega) (by omega)).mono ?_
  rintro e w' ⟨rfl, rfl⟩
  rw [F1.out]
  go_wp2_with fail
  have hs2 := slI_lit (w.alloc (.cells #[.int .i64 1, .int .i64 1, .int .i64 0, .int .i64 1] 3)) [1, 1, 0, 1] (by simp [maxLen])
  simp only [World.size_alloc] at hs2
  refine (free_any [1, 1, 0, 1] _ 2 0 100 _ (hs2.mono (by simp)) (by simp) (by omega) (by omega) (by omega)).mono ?_
  rintro e w' ⟨rfl, rfl⟩
  rw [F2.out]
  clear hs2 HS1
  have hb0 : Below w.heap.size w ((w.alloc (.cells #[.int .i64 1, .int .i64 1, .int .i64 0, .int .i64 1] 3)).alloc (.cells #[.int .i64 1, .int .i64 1, .int .i64 0, .int .i64 1] 3)) := ((Below.refl _ _).alloc (Nat.le_refl _) _).alloc (by simp) _
  go_wp2_with fail
  refine (of_any _ _ _ _ _ _ _ [] [] 3 _ (IsTab.nil _ _) (IsShots.nil _ _) (by simp) (fun i hi => absurd hi (by simp)) (by simp) (fun i hi => absurd hi (by simp [eachM, eachTo, linesT, linesTo]))).mono ?_
  rintro e w2 ⟨v, rfl, ho, hb2⟩
  have e3 : ofM (eachM [] []) 3 = [1, 1, 0] := by decide
  rw [e3] at ho
  have hl := fun w' => ho.slI.len (P := Try.prog) (ty := 3) Try.underlying27 w'
  obtain ⟨b0, o0, h0, hi0, hc0⟩ := ho.slI.addr (P := Try.prog) Try.underlying27 sizeI 0 (by simp)
  obtain ⟨b2, o2, h2, hi2, hc2⟩ := ho.slI.addr (P := Try.prog) Try.underlying27 sizeI 2 (by simp)
  simp only [List.length_cons, List.length_nil, Nat.reduceAdd] at hl
  have hi0' : ∀ (w' : World) (k : IntKind), (Instr.indexAt 27 v (.int k 0)).run Try.prog w' = .ok (.pointer (some ⟨b0, o0, none⟩)) w' := hi0
  have hi2' : ∀ (w' : World) (k : IntKind), (Instr.indexAt 27 v (.int k 2)).run Try.prog w' = .ok (.pointer (some ⟨b2, o2, none⟩)) w' := hi2
  have hl' : ∀ (w' : World), (Builtin.len_ #[27] 3 #[v]).run Try.prog w' = .ok (.int .i64 3) w' := hl
  clear hi0 hi2 hl
  simp only [List.getD_cons_zero, List.getD_cons_succ] at hc0 hc2
  have HB := hid (hb0.trans (hb2.mono hb0.size))
  clear hb0 hb2 ho e3 F1 F2
  go_wp2_with fail
  go_ret
  exact ⟨rfl, HB.out⟩
end Go.Proofs.Ytpgdncpomacghaa
