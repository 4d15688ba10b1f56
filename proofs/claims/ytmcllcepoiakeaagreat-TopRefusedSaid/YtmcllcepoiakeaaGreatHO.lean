import Derived.Test.YtmcllcepoiakeaaGreatAS
import Derived.Test.YtmcllcepoiakeaaGreatZL
import Derived.Test.YtmcllcepoiakeaaGreatTBL
set_option linter.unusedSimpArgs false
set_option linter.unusedVariables false
namespace Go.Proofs.YtmcllcepoiakeaaGreat
open Go.RowKit Go.Mx Go.Proofs.YtmcllcepoiakeaaGreat.Dx Go.Dk Go.Cnt Go.Proofs.YtmcllcepoiakeaaGreat.Cx
theorem memo {P : Program} {md : Region.Mode} {ops : Array Oper} {Q : Exit → Act → World → Prop} {S : World → Prop} {σ : Type} (ls : σ → Array Bool) (fr : σ → Act) (Inv : σ → World → Prop) (n : σ → Nat)
    (step : ∀ s W, Inv s W → (∀ s' W', n s' < n s → Inv s' W' → wpAnyH P md ops Q S (n s') (ls s') (fr s') W') → wpAnyH P md ops Q S (n s) (ls s) (fr s) W) (s0 : σ) (W0 : World) (h : Inv s0 W0) {L : Array Bool} {a : Act} {k : Nat} (hL : ls s0 = L) (ha : fr s0 = a) (hk : n s0 = k) :
    wpAnyH P md ops Q S k L a W0 := by
  subst hL ha hk
  have key : ∀ m s W, n s ≤ m → Inv s W → wpAnyH P md ops Q S (n s) (ls s) (fr s) W := by
    intro m
    induction m with
    | zero => intro s W hm hI; exact step s W hI fun s' W' hlt => absurd hlt (by omega)
    | succ m ih => intro s W hm hI; exact step s W hI fun s' W' hlt hI' => ih s' W' (by omega) hI'
  exact key _ s0 W0 (Nat.le_refl _) h
structure HS where
  A : Bool
  B : Bool
  c : Bool
  d : Bool
  e : Bool
  b3 : Nat
  b4 : Nat
  b5 : Nat
  k : Nat
abbrev z95 : Array Value := #[.int .i64 0, .int .i64 0, .string ⟨#[]⟩, nilS, nilS, nilS, nilS]
structure HI (w1 : World) (s : HS) (W : World) : Prop where
  bel : Below w1.heap.size w1 W
  f3 : s.c = true → W.heap[s.b3]? = some (.cells z95 95 (0, 0)) ∧ w1.heap.size ≤ s.b3
  f4 : s.d = true → W.heap[s.b4]? = some (.cells #[.bool false] 4 (0, 0)) ∧ w1.heap.size ≤ s.b4
  f5 : s.e = true → W.heap[s.b5]? = some (.cells #[.pointer none] 139 (0, 0)) ∧ w1.heap.size ≤ s.b5
  ab : s.B = true → s.A = true
section
variable {w1 W W' : World} {A B c d e : Bool} {b3 b4 b5 k : Nat}
theorem HI.call4 (h : HI w1 ⟨A, B, c, d, e, b3, b4, b5, k⟩ W) (hb : Below W.heap.size W W') : HI w1 ⟨true, B, c, d, e, b3, b4, b5, k⟩ W' :=
  ⟨belT h.bel hb, fun x => ⟨qk_below (h.f3 x).1 hb, (h.f3 x).2⟩, fun x => ⟨qk_below (h.f4 x).1 hb, (h.f4 x).2⟩, fun x => ⟨qk_below (h.f5 x).1 hb, (h.f5 x).2⟩, fun _ => rfl⟩
theorem HI.call13 {k2 : Nat} (h : HI w1 ⟨true, B, c, d, e, b3, b4, b5, k⟩ W) (hb : Below W.heap.size W W') : HI w1 ⟨true, true, c, d, e, b3, b4, b5, k2⟩ W' :=
  ⟨belT h.bel hb, fun x => ⟨qk_below (h.f3 x).1 hb, (h.f3 x).2⟩, fun x => ⟨qk_below (h.f4 x).1 hb, (h.f4 x).2⟩, fun x => ⟨qk_below (h.f5 x).1 hb, (h.f5 x).2⟩, fun _ => rfl⟩
theorem HI.alloc3 (h : HI w1 ⟨A, B, c, d, e, b3, b4, b5, k⟩ W) : HI w1 ⟨A, B, true, d, e, W.heap.size, b4, b5, k⟩ (W.alloc (.cells z95 95)) :=
  ⟨h.bel.alloc h.bel.size _, fun _ => ⟨alloc_new _ _, h.bel.size⟩, fun x => ⟨qk_alloc (h.f4 x).1 _, (h.f4 x).2⟩, fun x => ⟨qk_alloc (h.f5 x).1 _, (h.f5 x).2⟩, h.ab⟩
theorem HI.alloc4 (h : HI w1 ⟨A, B, c, d, e, b3, b4, b5, k⟩ W) : HI w1 ⟨A, B, c, true, e, b3, W.heap.size, b5, k⟩ (W.alloc (.cells #[.bool false] 4)) :=
  ⟨h.bel.alloc h.bel.size _, fun x => ⟨qk_alloc (h.f3 x).1 _, (h.f3 x).2⟩, fun _ => ⟨alloc_new _ _, h.bel.size⟩, fun x => ⟨qk_alloc (h.f5 x).1 _, (h.f5 x).2⟩, h.ab⟩
theorem HI.alloc5 (h : HI w1 ⟨A, B, c, d, e, b3, b4, b5, k⟩ W) : HI w1 ⟨A, B, c, d, true, b3, b4, W.heap.size, k⟩ (W.alloc (.cells #[.pointer none] 139)) :=
  ⟨h.bel.alloc h.bel.size _, fun x => ⟨qk_alloc (h.f3 x).1 _, (h.f3 x).2⟩, fun x => ⟨qk_alloc (h.f4 x).1 _, (h.f4 x).2⟩, fun _ => ⟨alloc_new _ _, h.bel.size⟩, h.ab⟩
end
/-- an image that is held -/
structure HoldP (base p q s kn : Nat) (nm : List UInt8) (rd : Value) (ch : Bool) (ask : Int) (b1 b6 : Nat) (hv : Value) (w w' : World) : Prop where
  im : w'.heap[q]? = some (.cells (imX p nm nilS hv s ch (dp kn) rd ask) 142 (0, 0))
  hh : OwnG w' w.heap.size 95 7 hv [emC]
  h1 : w'.heap[b1]? = some (.cells #[dp q] 60 (0, 0))
  h6 : w'.heap[b6]? = some (.cells #[.int .i64 1] 3 (0, 0))
  kp : Kept w w' (· ≠ q)
  bl : Below base w w'
set_option maxRecDepth 100000 in
set_option maxHeartbeats 8000000 in
theorem hold_A {w : World} {base p q s kn : Nat} {nm : List UInt8} {rd : Value} {ch : Bool} {ask : Int} (h : w.heap[q]? = some (.cells (imX p nm nilS nilS s ch (dp kn) rd ask) 142 (0, 0))) (hbq : base ≤ q) (hkn : w.heap[kn]? = some (.cells #[nilS, .int .i64 0] 310 (0, 0))) :
    Calls Tryz.prog 102 #[dp q] w fun e w' => ∃ (b1 b3 b4 b5 b6 : Nat) (hv : Value), e = .returned (.func (.func 185) #[] #[dp b3, dp b4, dp b5, dp b1, dp b6]) ∧ HoldP base p q s kn nm rd ch ask b1 b6 hv w w' := by
  have hlt := blk_lt h
  have hb1 := bel1 w (.cells #[dp q] 60)
  have hl := BL.new (BL.cons h (BL.cons hkn (BL.nil _))) #[dp q] 60
  have H := hid (And.intro h (And.intro hkn (And.intro hlt hbq)))
  clear h hkn
  go_enter Tryz.func102, Tryz.ntmps102
  go_wp2_with fail
  have y1 : ∀ W, Below (w.alloc (.cells #[dp q] 60)).heap.size (w.alloc (.cells #[dp q] 60)) W → W.cell? ⟨w.heap.size, 0, none⟩ = some (dp q) := fun W hW => cell_of (hl.below hW).head 0
  go_wp2_with fail
  generalize w.alloc (.cells #[dp q] 60) = w1 at *
  have yq : ∀ W, Below w1.heap.size w1 W → ∀ j, W.cell? ⟨q, j, none⟩ = (imX p nm nilS nilS s ch (dp kn) rd ask)[j]? := fun W hW j => cell_of (hl.below hW).tail.head j
  simp only [imX] at yq
  have HC : Hid (∀ W, Below w1.heap.size w1 W → Calls Tryz.prog 184 #[dp kn] W fun e w' => ∃ k', e = .returned (dp k') ∧ W.heap.size ≤ k' ∧ Below W.heap.size W w') := hid fun W hW => icopy kn W (hl.below hW).tail.tail.head
  have HL := hid (And.intro hl hb1)
  clear hl hb1
  go_cut [3, 4, 5] from 23 (fun s3 s4 s5 wx => ∃ b3 b4 b5 : Nat, s3 = .pointer (some ⟨b3, 0, none⟩) ∧ s4 = .pointer (some ⟨b4, 0, none⟩) ∧ s5 = .pointer (some ⟨b5, 0, none⟩) ∧ Hid (wx.heap[b3]? = some (.cells #[.int .i64 0, .int .i64 4, nmv [], nilS, nilS, nilS, nilS] 95 (0, 0)) ∧ Below w1.heap.size w1 wx ∧ w1.heap.size ≤ b3))
  case first =>
    refine wp_region_held_drew (S := fun W => Below w1.heap.size w1 W) (by kernel_rfl) ((Below.refl _ _).drew) (fun hHeld => ?_)
    refine wpAnyH_take (i := 0) (v := ?_) rfl (by kernel_rfl) (by kernel_rfl) (by kernel_rfl) (fun _ _ _ h => h) (Or.inl ⟨by rfl, ?_⟩) (by assumption) ?_
    rotate_left
    · (intro W hSw; (try dsimp only at hSw); go_simp; try (with_reducible rfl))
    try simp only [Act.put, List.getElem_toArray, List.getElem_cons_succ, List.getElem_cons_zero, List.setIfInBounds_toArray, List.set_cons_zero, List.set_cons_succ]
    refine wpAnyH_take (i := 1) (v := ?_) rfl (by kernel_rfl) (by kernel_rfl) (by kernel_rfl) (fun _ _ _ h => h) (Or.inl ⟨by rfl, ?_⟩) (by assumption) ?_
    rotate_left
    · (intro W hSw; (try dsimp only at hSw); go_simp; try (with_reducible rfl))
    try simp only [Act.put, List.getElem_toArray, List.getElem_cons_succ, List.getElem_cons_zero, List.setIfInBounds_toArray, List.set_cons_zero, List.set_cons_succ]
    refine wpAnyH_take (i := 2) (v := ?_) rfl (by kernel_rfl) (by kernel_rfl) (by kernel_rfl) (fun _ _ _ h => h) (Or.inl ⟨by rfl, ?_⟩) (by assumption) ?_
    rotate_left
    · (intro W hSw; (try dsimp only at hSw); go_simp; try (with_reducible rfl))
    try simp only [Act.put, List.getElem_toArray, List.getElem_cons_succ, List.getElem_cons_zero, List.setIfInBounds_toArray, List.set_cons_zero, List.set_cons_succ]
    refine wpAnyH_take (i := 3) (v := ?_) rfl (by kernel_rfl) (by kernel_rfl) (by kernel_rfl) (fun _ _ _ h => h) (Or.inl ⟨by rfl, ?_⟩) (by assumption) ?_
    rotate_left
    · (intro W hSw; (try dsimp only at hSw); go_simp; try (with_reducible rfl))
    try simp only [Act.put, List.getElem_toArray, List.getElem_cons_succ, List.getElem_cons_zero, List.setIfInBounds_toArray, List.set_cons_zero, List.set_cons_succ]
    refine wpAnyH_take (i := 5) (v := ?_) rfl (by kernel_rfl) (by kernel_rfl) (by kernel_rfl) (fun _ _ _ h => h) (Or.inl ⟨by rfl, ?_⟩) (by assumption) ?_
    rotate_left
    · (intro W hSw; (try dsimp only at hSw); go_simp; try (with_reducible rfl))
    try simp only [Act.put, List.getElem_toArray, List.getElem_cons_succ, List.getElem_cons_zero, List.setIfInBounds_toArray, List.set_cons_zero, List.set_cons_succ]
    refine wpAnyH_take (i := 6) (v := ?_) rfl (by kernel_rfl) (by kernel_rfl) (by kernel_rfl) (fun _ _ _ h => h) (Or.inl ⟨by rfl, ?_⟩) (by assumption) ?_
    rotate_left
    · (intro W hSw; (try dsimp only at hSw); go_simp; try (with_reducible rfl))
    try simp only [Act.put, List.getElem_toArray, List.getElem_cons_succ, List.getElem_cons_zero, List.setIfInBounds_toArray, List.set_cons_zero, List.set_cons_succ]
    refine wpAnyH_take (i := 7) (v := ?_) rfl (by kernel_rfl) (by kernel_rfl) (by kernel_rfl) (fun _ _ _ h => h) (Or.inl ⟨by rfl, ?_⟩) (by assumption) ?_
    rotate_left
    · (intro W hSw; (try dsimp only at hSw); go_simp; try (with_reducible rfl))
    try simp only [Act.put, List.getElem_toArray, List.getElem_cons_succ, List.getElem_cons_zero, List.setIfInBounds_toArray, List.set_cons_zero, List.set_cons_succ]
    refine wpAnyH_take (i := 8) (v := ?_) rfl (by kernel_rfl) (by kernel_rfl) (by kernel_rfl) (fun _ _ _ h => h) (Or.inl ⟨by rfl, ?_⟩) (by assumption) ?_
    rotate_left
    · (intro W hSw; (try dsimp only at hSw); go_simp; try (with_reducible rfl))
    try simp only [Act.put, List.getElem_toArray, List.getElem_cons_succ, List.getElem_cons_zero, List.setIfInBounds_toArray, List.set_cons_zero, List.set_cons_succ]
    refine wpAnyH_take (i := 9) (v := ?_) rfl (by kernel_rfl) (by kernel_rfl) (by kernel_rfl) (fun _ _ _ h => h) (Or.inl ⟨by rfl, ?_⟩) (by assumption) ?_
    rotate_left
    · (intro W hSw; (try dsimp only at hSw); go_simp; try (with_reducible rfl))
    try simp only [Act.put, List.getElem_toArray, List.getElem_cons_succ, List.getElem_cons_zero, List.setIfInBounds_toArray, List.set_cons_zero, List.set_cons_succ]
    refine wpAnyH_take (i := 10) (v := ?_) rfl (by kernel_rfl) (by kernel_rfl) (by kernel_rfl) (fun _ _ _ h => h) (Or.inl ⟨by rfl, ?_⟩) (by assumption) ?_
    rotate_left
    · (intro W hSw; (try dsimp only at hSw); go_simp; try (with_reducible rfl))
    try simp only [Act.put, List.getElem_toArray, List.getElem_cons_succ, List.getElem_cons_zero, List.setIfInBounds_toArray, List.set_cons_zero, List.set_cons_succ]
    refine wpAnyH_take (i := 11) (v := ?_) rfl (by kernel_rfl) (by kernel_rfl) (by kernel_rfl) (fun _ _ _ h => h) (Or.inl ⟨by rfl, ?_⟩) (by assumption) ?_
    rotate_left
    · (intro W hSw; (try dsimp only at hSw); go_simp; try (with_reducible rfl))
    try simp only [Act.put, List.getElem_toArray, List.getElem_cons_succ, List.getElem_cons_zero, List.setIfInBounds_toArray, List.set_cons_zero, List.set_cons_succ]
    refine wpAnyH_take (i := 12) (v := ?_) rfl (by kernel_rfl) (by kernel_rfl) (by kernel_rfl) (fun _ _ _ h => h) (Or.inl ⟨by rfl, ?_⟩) (by assumption) ?_
    rotate_left
    · (intro W hSw; (try dsimp only at hSw); go_simp; try (with_reducible rfl))
    try simp only [Act.put, List.getElem_toArray, List.getElem_cons_succ, List.getElem_cons_zero, List.setIfInBounds_toArray, List.set_cons_zero, List.set_cons_succ]
    refine memo (fun s => #[true, true, true, true, s.A, true, true, true, true, true, true, true, true, s.B, s.c, s.d, s.e, false, false, false]) (fun s => ⟨#[dp q, dp w.heap.size, .nilFunc, (if s.c then dp s.b3 else undef), (if s.d then dp s.b4 else undef), (if s.e then dp s.b5 else undef), undef, dp q, .bool false, dp q, dp q, .pointer (some ⟨q, 2, none⟩), .agg #[.int .i64 0, .int .i64 4, nmv [], nilS, nilS, nilS, nilS], (if s.A then emv [] nilS else undef), dp q, dp q, .pointer (some ⟨q, 21, none⟩), .bool ch, dp q, dp q, .pointer (some ⟨q, 22, none⟩), dp kn, (if s.B then dp s.k else undef), undef, undef, undef, undef, undef, undef, undef, undef, undef, undef, undef, undef, undef, undef, undef, undef], []⟩) (HI w1) (fun s => 3 + (if s.A then 0 else 1) + (if s.B then 0 else 1) + (if s.c then 0 else 1) + (if s.d then 0 else 1) + (if s.e then 0 else 1)) ?step ⟨false, false, false, false, false, 0, 0, 0, 0⟩ w1.drew ⟨hHeld, by simp, by simp, by simp, by simp⟩ rfl rfl rfl
    rintro ⟨A, B, c, d, e, b3, b4, b5, k⟩ W hI IH
    have HIH := hid IH
    clear IH
    have hS0 := hI.bel
    cases A <;> cases B <;> cases c <;> cases d <;> cases e
    · refine wpAnyH_ready (rs := [4, 14, 15, 16]) (by kernel_rfl) (by simp) (AllReadyH.cons rfl (fun K hK => ?_) (AllReadyH.cons rfl (fun K hK => ?_) (AllReadyH.cons rfl (fun K hK => ?_) (AllReadyH.cons rfl (fun K hK => ?_) AllReadyH.nil))))
      · go_simp; go_wp2_with (go_at_call 64; refine (own_em [] _).mono ?_; rintro e w9 ⟨rfl, hb9⟩; refine hK.out _ _ (belT hS0 hb9) (fun _ => ?_)); exact HIH.out ⟨true, false, false, false, false, b3, b4, b5, k⟩ _ (by simp) (hI.call4 hb9)
      · go_simp; refine hK.out _ _ (hS0.alloc hS0.size _) (fun _ => ?_); exact HIH.out ⟨false, false, true, false, false, W.heap.size, b4, b5, k⟩ _ (by simp) hI.alloc3
      · go_simp; refine hK.out _ _ (hS0.alloc hS0.size _) (fun _ => ?_); exact HIH.out ⟨false, false, false, true, false, b3, W.heap.size, b5, k⟩ _ (by simp) hI.alloc4
      · go_simp; refine hK.out _ _ (hS0.alloc hS0.size _) (fun _ => ?_); exact HIH.out ⟨false, false, false, false, true, b3, b4, W.heap.size, k⟩ _ (by simp) hI.alloc5
    · refine wpAnyH_ready (rs := [4, 14, 15]) (by kernel_rfl) (by simp) (AllReadyH.cons rfl (fun K hK => ?_) (AllReadyH.cons rfl (fun K hK => ?_) (AllReadyH.cons rfl (fun K hK => ?_) AllReadyH.nil)))
      · go_simp; go_wp2_with (go_at_call 64; refine (own_em [] _).mono ?_; rintro e w9 ⟨rfl, hb9⟩; refine hK.out _ _ (belT hS0 hb9) (fun _ => ?_)); exact HIH.out ⟨true, false, false, false, true, b3, b4, b5, k⟩ _ (by simp) (hI.call4 hb9)
      · go_simp; refine hK.out _ _ (hS0.alloc hS0.size _) (fun _ => ?_); exact HIH.out ⟨false, false, true, false, true, W.heap.size, b4, b5, k⟩ _ (by simp) hI.alloc3
      · go_simp; refine hK.out _ _ (hS0.alloc hS0.size _) (fun _ => ?_); exact HIH.out ⟨false, false, false, true, true, b3, W.heap.size, b5, k⟩ _ (by simp) hI.alloc4
    · refine wpAnyH_ready (rs := [4, 14, 16]) (by kernel_rfl) (by simp) (AllReadyH.cons rfl (fun K hK => ?_) (AllReadyH.cons rfl (fun K hK => ?_) (AllReadyH.cons rfl (fun K hK => ?_) AllReadyH.nil)))
      · go_simp; go_wp2_with (go_at_call 64; refine (own_em [] _).mono ?_; rintro e w9 ⟨rfl, hb9⟩; refine hK.out _ _ (belT hS0 hb9) (fun _ => ?_)); exact HIH.out ⟨true, false, false, true, false, b3, b4, b5, k⟩ _ (by simp) (hI.call4 hb9)
      · go_simp; refine hK.out _ _ (hS0.alloc hS0.size _) (fun _ => ?_); exact HIH.out ⟨false, false, true, true, false, W.heap.size, b4, b5, k⟩ _ (by simp) hI.alloc3
      · go_simp; refine hK.out _ _ (hS0.alloc hS0.size _) (fun _ => ?_); exact HIH.out ⟨false, false, false, true, true, b3, b4, W.heap.size, k⟩ _ (by simp) hI.alloc5
    · refine wpAnyH_ready (rs := [4, 14]) (by kernel_rfl) (by simp) (AllReadyH.cons rfl (fun K hK => ?_) (AllReadyH.cons rfl (fun K hK => ?_) AllReadyH.nil))
      · go_simp; go_wp2_with (go_at_call 64; refine (own_em [] _).mono ?_; rintro e w9 ⟨rfl, hb9⟩; refine hK.out _ _ (belT hS0 hb9) (fun _ => ?_)); exact HIH.out ⟨true, false, false, true, true, b3, b4, b5, k⟩ _ (by simp) (hI.call4 hb9)
      · go_simp; refine hK.out _ _ (hS0.alloc hS0.size _) (fun _ => ?_); exact HIH.out ⟨false, false, true, true, true, W.heap.size, b4, b5, k⟩ _ (by simp) hI.alloc3
    · refine wpAnyH_ready (rs := [4, 15, 16]) (by kernel_rfl) (by simp) (AllReadyH.cons rfl (fun K hK => ?_) (AllReadyH.cons rfl (fun K hK => ?_) (AllReadyH.cons rfl (fun K hK => ?_) AllReadyH.nil)))
      · go_simp; go_wp2_with (go_at_call 64; refine (own_em [] _).mono ?_; rintro e w9 ⟨rfl, hb9⟩; refine hK.out _ _ (belT hS0 hb9) (fun _ => ?_)); exact HIH.out ⟨true, false, true, false, false, b3, b4, b5, k⟩ _ (by simp) (hI.call4 hb9)
      · go_simp; refine hK.out _ _ (hS0.alloc hS0.size _) (fun _ => ?_); exact HIH.out ⟨false, false, true, true, false, b3, W.heap.size, b5, k⟩ _ (by simp) hI.alloc4
      · go_simp; refine hK.out _ _ (hS0.alloc hS0.size _) (fun _ => ?_); exact HIH.out ⟨false, false, true, false, true, b3, b4, W.heap.size, k⟩ _ (by simp) hI.alloc5
    · refine wpAnyH_ready (rs := [4, 15]) (by kernel_rfl) (by simp) (AllReadyH.cons rfl (fun K hK => ?_) (AllReadyH.cons rfl (fun K hK => ?_) AllReadyH.nil))
      · go_simp; go_wp2_with (go_at_call 64; refine (own_em [] _).mono ?_; rintro e w9 ⟨rfl, hb9⟩; refine hK.out _ _ (belT hS0 hb9) (fun _ => ?_)); exact HIH.out ⟨true, false, true, false, true, b3, b4, b5, k⟩ _ (by simp) (hI.call4 hb9)
      · go_simp; refine hK.out _ _ (hS0.alloc hS0.size _) (fun _ => ?_); exact HIH.out ⟨false, false, true, true, true, b3, W.heap.size, b5, k⟩ _ (by simp) hI.alloc4
    · refine wpAnyH_ready (rs := [4, 16]) (by kernel_rfl) (by simp) (AllReadyH.cons rfl (fun K hK => ?_) (AllReadyH.cons rfl (fun K hK => ?_) AllReadyH.nil))
      · go_simp; go_wp2_with (go_at_call 64; refine (own_em [] _).mono ?_; rintro e w9 ⟨rfl, hb9⟩; refine hK.out _ _ (belT hS0 hb9) (fun _ => ?_)); exact HIH.out ⟨true, false, true, true, false, b3, b4, b5, k⟩ _ (by simp) (hI.call4 hb9)
      · go_simp; refine hK.out _ _ (hS0.alloc hS0.size _) (fun _ => ?_); exact HIH.out ⟨false, false, true, true, true, b3, b4, W.heap.size, k⟩ _ (by simp) hI.alloc5
    · refine wpAnyH_ready (rs := [4]) (by kernel_rfl) (by simp) (AllReadyH.cons rfl (fun K hK => ?_) AllReadyH.nil)
      · go_simp; go_wp2_with (go_at_call 64; refine (own_em [] _).mono ?_; rintro e w9 ⟨rfl, hb9⟩; refine hK.out _ _ (belT hS0 hb9) (fun _ => ?_)); exact HIH.out ⟨true, false, true, true, true, b3, b4, b5, k⟩ _ (by simp) (hI.call4 hb9)
    · exact absurd (hI.ab rfl) (by simp)
    · exact absurd (hI.ab rfl) (by simp)
    · exact absurd (hI.ab rfl) (by simp)
    · exact absurd (hI.ab rfl) (by simp)
    · exact absurd (hI.ab rfl) (by simp)
    · exact absurd (hI.ab rfl) (by simp)
    · exact absurd (hI.ab rfl) (by simp)
    · exact absurd (hI.ab rfl) (by simp)
    · refine wpAnyH_ready (rs := [13, 14, 15, 16]) (by kernel_rfl) (by simp) (AllReadyH.cons rfl (fun K hK => ?_) (AllReadyH.cons rfl (fun K hK => ?_) (AllReadyH.cons rfl (fun K hK => ?_) (AllReadyH.cons rfl (fun K hK => ?_) AllReadyH.nil))))
      · go_simp; go_wp2_with (go_at_call 184; refine (HC.out _ hS0).mono ?_; rintro e w9 ⟨k2, rfl, hk2, hb9⟩; refine hK.out _ _ (belT hS0 hb9) (fun _ => ?_)); exact HIH.out ⟨true, true, false, false, false, b3, b4, b5, k2⟩ _ (by simp) (hI.call13 hb9)
      · go_simp; refine hK.out _ _ (hS0.alloc hS0.size _) (fun _ => ?_); exact HIH.out ⟨true, false, true, false, false, W.heap.size, b4, b5, k⟩ _ (by simp) hI.alloc3
      · go_simp; refine hK.out _ _ (hS0.alloc hS0.size _) (fun _ => ?_); exact HIH.out ⟨true, false, false, true, false, b3, W.heap.size, b5, k⟩ _ (by simp) hI.alloc4
      · go_simp; refine hK.out _ _ (hS0.alloc hS0.size _) (fun _ => ?_); exact HIH.out ⟨true, false, false, false, true, b3, b4, W.heap.size, k⟩ _ (by simp) hI.alloc5
    · refine wpAnyH_ready (rs := [13, 14, 15]) (by kernel_rfl) (by simp) (AllReadyH.cons rfl (fun K hK => ?_) (AllReadyH.cons rfl (fun K hK => ?_) (AllReadyH.cons rfl (fun K hK => ?_) AllReadyH.nil)))
      · go_simp; go_wp2_with (go_at_call 184; refine (HC.out _ hS0).mono ?_; rintro e w9 ⟨k2, rfl, hk2, hb9⟩; refine hK.out _ _ (belT hS0 hb9) (fun _ => ?_)); exact HIH.out ⟨true, true, false, false, true, b3, b4, b5, k2⟩ _ (by simp) (hI.call13 hb9)
      · go_simp; refine hK.out _ _ (hS0.alloc hS0.size _) (fun _ => ?_); exact HIH.out ⟨true, false, true, false, true, W.heap.size, b4, b5, k⟩ _ (by simp) hI.alloc3
      · go_simp; refine hK.out _ _ (hS0.alloc hS0.size _) (fun _ => ?_); exact HIH.out ⟨true, false, false, true, true, b3, W.heap.size, b5, k⟩ _ (by simp) hI.alloc4
    · refine wpAnyH_ready (rs := [13, 14, 16]) (by kernel_rfl) (by simp) (AllReadyH.cons rfl (fun K hK => ?_) (AllReadyH.cons rfl (fun K hK => ?_) (AllReadyH.cons rfl (fun K hK => ?_) AllReadyH.nil)))
      · go_simp; go_wp2_with (go_at_call 184; refine (HC.out _ hS0).mono ?_; rintro e w9 ⟨k2, rfl, hk2, hb9⟩; refine hK.out _ _ (belT hS0 hb9) (fun _ => ?_)); exact HIH.out ⟨true, true, false, true, false, b3, b4, b5, k2⟩ _ (by simp) (hI.call13 hb9)
      · go_simp; refine hK.out _ _ (hS0.alloc hS0.size _) (fun _ => ?_); exact HIH.out ⟨true, false, true, true, false, W.heap.size, b4, b5, k⟩ _ (by simp) hI.alloc3
      · go_simp; refine hK.out _ _ (hS0.alloc hS0.size _) (fun _ => ?_); exact HIH.out ⟨true, false, false, true, true, b3, b4, W.heap.size, k⟩ _ (by simp) hI.alloc5
    · refine wpAnyH_ready (rs := [13, 14]) (by kernel_rfl) (by simp) (AllReadyH.cons rfl (fun K hK => ?_) (AllReadyH.cons rfl (fun K hK => ?_) AllReadyH.nil))
      · go_simp; go_wp2_with (go_at_call 184; refine (HC.out _ hS0).mono ?_; rintro e w9 ⟨k2, rfl, hk2, hb9⟩; refine hK.out _ _ (belT hS0 hb9) (fun _ => ?_)); exact HIH.out ⟨true, true, false, true, true, b3, b4, b5, k2⟩ _ (by simp) (hI.call13 hb9)
      · go_simp; refine hK.out _ _ (hS0.alloc hS0.size _) (fun _ => ?_); exact HIH.out ⟨true, false, true, true, true, W.heap.size, b4, b5, k⟩ _ (by simp) hI.alloc3
    · refine wpAnyH_ready (rs := [13, 15, 16]) (by kernel_rfl) (by simp) (AllReadyH.cons rfl (fun K hK => ?_) (AllReadyH.cons rfl (fun K hK => ?_) (AllReadyH.cons rfl (fun K hK => ?_) AllReadyH.nil)))
      · go_simp; go_wp2_with (go_at_call 184; refine (HC.out _ hS0).mono ?_; rintro e w9 ⟨k2, rfl, hk2, hb9⟩; refine hK.out _ _ (belT hS0 hb9) (fun _ => ?_)); exact HIH.out ⟨true, true, true, false, false, b3, b4, b5, k2⟩ _ (by simp) (hI.call13 hb9)
      · go_simp; refine hK.out _ _ (hS0.alloc hS0.size _) (fun _ => ?_); exact HIH.out ⟨true, false, true, true, false, b3, W.heap.size, b5, k⟩ _ (by simp) hI.alloc4
      · go_simp; refine hK.out _ _ (hS0.alloc hS0.size _) (fun _ => ?_); exact HIH.out ⟨true, false, true, false, true, b3, b4, W.heap.size, k⟩ _ (by simp) hI.alloc5
    · refine wpAnyH_ready (rs := [13, 15]) (by kernel_rfl) (by simp) (AllReadyH.cons rfl (fun K hK => ?_) (AllReadyH.cons rfl (fun K hK => ?_) AllReadyH.nil))
      · go_simp; go_wp2_with (go_at_call 184; refine (HC.out _ hS0).mono ?_; rintro e w9 ⟨k2, rfl, hk2, hb9⟩; refine hK.out _ _ (belT hS0 hb9) (fun _ => ?_)); exact HIH.out ⟨true, true, true, false, true, b3, b4, b5, k2⟩ _ (by simp) (hI.call13 hb9)
      · go_simp; refine hK.out _ _ (hS0.alloc hS0.size _) (fun _ => ?_); exact HIH.out ⟨true, false, true, true, true, b3, W.heap.size, b5, k⟩ _ (by simp) hI.alloc4
    · refine wpAnyH_ready (rs := [13, 16]) (by kernel_rfl) (by simp) (AllReadyH.cons rfl (fun K hK => ?_) (AllReadyH.cons rfl (fun K hK => ?_) AllReadyH.nil))
      · go_simp; go_wp2_with (go_at_call 184; refine (HC.out _ hS0).mono ?_; rintro e w9 ⟨k2, rfl, hk2, hb9⟩; refine hK.out _ _ (belT hS0 hb9) (fun _ => ?_)); exact HIH.out ⟨true, true, true, true, false, b3, b4, b5, k2⟩ _ (by simp) (hI.call13 hb9)
      · go_simp; refine hK.out _ _ (hS0.alloc hS0.size _) (fun _ => ?_); exact HIH.out ⟨true, false, true, true, true, b3, b4, W.heap.size, k⟩ _ (by simp) hI.alloc5
    · refine wpAnyH_ready (rs := [13]) (by kernel_rfl) (by simp) (AllReadyH.cons rfl (fun K hK => ?_) AllReadyH.nil)
      · go_simp; go_wp2_with (go_at_call 184; refine (HC.out _ hS0).mono ?_; rintro e w9 ⟨k2, rfl, hk2, hb9⟩; refine hK.out _ _ (belT hS0 hb9) (fun _ => ?_)); exact HIH.out ⟨true, true, true, true, true, b3, b4, b5, k2⟩ _ (by simp) (hI.call13 hb9)
    · refine wpAnyH_ready (rs := [14, 15, 16]) (by kernel_rfl) (by simp) (AllReadyH.cons rfl (fun K hK => ?_) (AllReadyH.cons rfl (fun K hK => ?_) (AllReadyH.cons rfl (fun K hK => ?_) AllReadyH.nil)))
      · go_simp; refine hK.out _ _ (hS0.alloc hS0.size _) (fun _ => ?_); exact HIH.out ⟨true, true, true, false, false, W.heap.size, b4, b5, k⟩ _ (by simp) hI.alloc3
      · go_simp; refine hK.out _ _ (hS0.alloc hS0.size _) (fun _ => ?_); exact HIH.out ⟨true, true, false, true, false, b3, W.heap.size, b5, k⟩ _ (by simp) hI.alloc4
      · go_simp; refine hK.out _ _ (hS0.alloc hS0.size _) (fun _ => ?_); exact HIH.out ⟨true, true, false, false, true, b3, b4, W.heap.size, k⟩ _ (by simp) hI.alloc5
    · refine wpAnyH_ready (rs := [14, 15]) (by kernel_rfl) (by simp) (AllReadyH.cons rfl (fun K hK => ?_) (AllReadyH.cons rfl (fun K hK => ?_) AllReadyH.nil))
      · go_simp; refine hK.out _ _ (hS0.alloc hS0.size _) (fun _ => ?_); exact HIH.out ⟨true, true, true, false, true, W.heap.size, b4, b5, k⟩ _ (by simp) hI.alloc3
      · go_simp; refine hK.out _ _ (hS0.alloc hS0.size _) (fun _ => ?_); exact HIH.out ⟨true, true, false, true, true, b3, W.heap.size, b5, k⟩ _ (by simp) hI.alloc4
    · refine wpAnyH_ready (rs := [14, 16]) (by kernel_rfl) (by simp) (AllReadyH.cons rfl (fun K hK => ?_) (AllReadyH.cons rfl (fun K hK => ?_) AllReadyH.nil))
      · go_simp; refine hK.out _ _ (hS0.alloc hS0.size _) (fun _ => ?_); exact HIH.out ⟨true, true, true, true, false, W.heap.size, b4, b5, k⟩ _ (by simp) hI.alloc3
      · go_simp; refine hK.out _ _ (hS0.alloc hS0.size _) (fun _ => ?_); exact HIH.out ⟨true, true, false, true, true, b3, b4, W.heap.size, k⟩ _ (by simp) hI.alloc5
    · refine wpAnyH_ready (rs := [14]) (by kernel_rfl) (by simp) (AllReadyH.cons rfl (fun K hK => ?_) AllReadyH.nil)
      · go_simp; refine hK.out _ _ (hS0.alloc hS0.size _) (fun _ => ?_); exact HIH.out ⟨true, true, true, true, true, W.heap.size, b4, b5, k⟩ _ (by simp) hI.alloc3
    · refine wpAnyH_ready (rs := [15, 16]) (by kernel_rfl) (by simp) (AllReadyH.cons rfl (fun K hK => ?_) (AllReadyH.cons rfl (fun K hK => ?_) AllReadyH.nil))
      · go_simp; refine hK.out _ _ (hS0.alloc hS0.size _) (fun _ => ?_); exact HIH.out ⟨true, true, true, true, false, b3, W.heap.size, b5, k⟩ _ (by simp) hI.alloc4
      · go_simp; refine hK.out _ _ (hS0.alloc hS0.size _) (fun _ => ?_); exact HIH.out ⟨true, true, true, false, true, b3, b4, W.heap.size, k⟩ _ (by simp) hI.alloc5
    · refine wpAnyH_ready (rs := [15]) (by kernel_rfl) (by simp) (AllReadyH.cons rfl (fun K hK => ?_) AllReadyH.nil)
      · go_simp; refine hK.out _ _ (hS0.alloc hS0.size _) (fun _ => ?_); exact HIH.out ⟨true, true, true, true, true, b3, W.heap.size, b5, k⟩ _ (by simp) hI.alloc4
    · refine wpAnyH_ready (rs := [16]) (by kernel_rfl) (by simp) (AllReadyH.cons rfl (fun K hK => ?_) AllReadyH.nil)
      · go_simp; refine hK.out _ _ (hS0.alloc hS0.size _) (fun _ => ?_); exact HIH.out ⟨true, true, true, true, true, b3, b4, W.heap.size, k⟩ _ (by simp) hI.alloc5
    · obtain ⟨h3, g3⟩ := hI.f3 rfl
      obtain ⟨h4, g4⟩ := hI.f4 rfl
      obtain ⟨h5, g5⟩ := hI.f5 rfl
      simp only at h3 g3 h4 g4 h5 g5
      have n34 : b4 ≠ b3 := by rintro rfl; rw [h3] at h4; cases h4
      have n35 : b5 ≠ b3 := by rintro rfl; rw [h3] at h5; cases h5
      have n45 : b5 ≠ b4 := by rintro rfl; rw [h4] at h5; cases h5
      have y3 := fun j => cell_of h3 j
      have z3 := fun j => fz_of h3 j
      have HN := hid (And.intro g3 (And.intro g4 (And.intro g5 (And.intro n34 (And.intro n35 n45)))))
      clear HIH hI g3 g4 g5 n34 n35 n45
      refine wpAnyH_ready (rs := [17]) (by kernel_rfl) (by simp) (AllReadyH.cons rfl (fun K hK => ?_) AllReadyH.nil)
      go_simp
      refine hK.out _ (stL W b3 0 [.int .i64 0, .int .i64 4, nmv [], nilS, nilS, nilS, nilS]) (stL_below HN.out.1 _ W w1 0 hS0) (fun hS1 => ?_)
      have h3' := stL_heap [.int .i64 0, .int .i64 4, nmv [], nilS, nilS, nilS, nilS] W 0 _ h3
      have h4' := ((stL_kept b3 [.int .i64 0, .int .i64 4, nmv [], nilS, nilS, nilS, nilS] 0 W).block b4 (blk_lt h4) HN.out.2.2.2.1).trans h4
      have h5' := ((stL_kept b3 [.int .i64 0, .int .i64 4, nmv [], nilS, nilS, nilS, nilS] 0 W).block b5 (blk_lt h5) HN.out.2.2.2.2.1).trans h5
      clear h3 h4 h5 y3 z3 hK K hS0
      generalize stL W b3 0 [.int .i64 0, .int .i64 4, nmv [], nilS, nilS, nilS, nilS] = W1 at *
      have y4 := fun j => cell_of h4' j
      have z4 := fun j => fz_of h4' j
      try simp only [Act.put, List.getElem_toArray, List.getElem_cons_succ, List.getElem_cons_zero, List.setIfInBounds_toArray, List.set_cons_zero, List.set_cons_succ]
      refine wpAnyH_ready (rs := [18]) (by kernel_rfl) (by simp) (AllReadyH.cons rfl (fun K hK => ?_) AllReadyH.nil)
      go_simp
      refine hK.out _ _ (hS1.setCell (p := ⟨b4, 0, none⟩) HN.out.2.1 _) (fun hS2 => ?_)
      have h3 := qk_set (b := b4) (i := 0) (v := .bool ch) h3' HN.out.2.2.2.1.symm
      have h5 := qk_set (b := b4) (i := 0) (v := .bool ch) h5' HN.out.2.2.2.2.2
      clear h3' h4' h5' y4 z4 hK K hS1
      generalize W1.setCell ⟨b4, 0, none⟩ (.bool ch) = W2 at *
      have y5 := fun j => cell_of h5 j
      have z5 := fun j => fz_of h5 j
      try simp only [Act.put, List.getElem_toArray, List.getElem_cons_succ, List.getElem_cons_zero, List.setIfInBounds_toArray, List.set_cons_zero, List.set_cons_succ]
      refine wpAnyH_ready (rs := [19]) (by kernel_rfl) (by simp) (AllReadyH.cons rfl (fun K hK => ?_) AllReadyH.nil)
      go_simp
      refine hK.out _ _ (hS2.setCell (p := ⟨b5, 0, none⟩) HN.out.2.2.1 _) (fun hS3 => ?_)
      have h3'' := qk_set (b := b5) (i := 0) (v := dp k) h3 HN.out.2.2.2.2.1.symm
      clear h3 h5 y5 z5 hK K hS2
      generalize W2.setCell ⟨b5, 0, none⟩ (dp k) = W3 at *
      try simp only [Act.put, List.getElem_toArray, List.getElem_cons_succ, List.getElem_cons_zero, List.setIfInBounds_toArray, List.set_cons_zero, List.set_cons_succ]
      refine wpAnyH_done (by kernel_rfl) ?_ _
      go_wp2_with fail
      go_meet
      case rel => exact ⟨b3, b4, b5, rfl, rfl, rfl, hid ⟨h3'', hS3, HN.out.1⟩⟩
  case rest =>
    obtain ⟨b3, b4, b5, rfl, rfl, rfl, hA⟩ := hcut
    obtain ⟨wa, hwa⟩ : ∃ x, x = wc := ⟨_, rfl⟩
    subst hwa
    have hl := BL.cons hA.out.1 (HL.out.1.below hA.out.2.1)
    have HB := hid (And.intro hl (And.intro (belT HL.out.2 hA.out.2.1) hA.out.2.2))
    clear hA HC yq y1
    have x1 : ∀ A : Obj, (wa.alloc A).cell? ⟨w.heap.size, 0, none⟩ = some (dp q) := fun A => cell_of (HB.out.1.below (bel1 _ A)).tail.head 0
    have x16 : ∀ A : Obj, (wa.alloc A).cell? ⟨q, 16, none⟩ = some nilS := fun A => cell_of (HB.out.1.below (bel1 _ A)).tail.tail.head 16
    have x1' : wa.cell? ⟨w.heap.size, 0, none⟩ = some (dp q) := cell_of HB.out.1.tail.head 0
    have x16' : wa.cell? ⟨q, 16, none⟩ = some nilS := cell_of HB.out.1.tail.tail.head 16
    have x3 : ∀ j, wa.cell? ⟨b3, j, none⟩ = (#[.int .i64 0, .int .i64 4, nmv [], nilS, nilS, nilS, nilS] : Array Value)[j]? := fun j => cell_of HB.out.1.head j
    have hcell : ∀ j u, emC[j]? = some u → (wa.alloc (.cells #[.int .i64 0, .int .i64 4, nmv [], nilS, nilS, nilS, nilS] 95)).drew.cell? ⟨wa.heap.size, j, none⟩ = some u := fun j u hj => by rw [cell_of (alloc_drew wa _) j]; simpa [emC] using hj
    have hone : ∀ u ∈ emC, u.oneCell' = true := by simp [emC, Value.oneCell']
    have hbA : wa.heap.size ≤ (wa.alloc (.cells #[.int .i64 0, .int .i64 4, nmv [], nilS, nilS, nilS, nilS] 95)).drew.heap.size := by show _ ≤ (wa.alloc _).heap.size; simp
    clear hl
    go_wp2_with fail
    go_cut [] from 33 (fun wx => ∃ g c : Nat, Hid (wx.heap[q]? = some (.cells (imX p nm nilS (.slice (some ⟨g, 0, none⟩) 1 c) s ch (dp kn) rd ask) 142 (0, 0)) ∧ OwnG wx wa.heap.size 95 7 (.slice (some ⟨g, 0, none⟩) 1 c) [emC] ∧ Kept wa wx (· ≠ q) ∧ Below base wa wx))
    case first =>
      go_region_law (refine step_append_gn _ (by rfl) (.tmp 27) (.tmp 29) 138 95 _ 7 128 rfl Tryz.underlying138 Tryz.info95 rfl (by decide) wa.heap.size _ [] (by rfl) (OwnG.nil _ _ _ _) wa.heap.size 1 emC (by rfl) rfl hcell hone (by decide) (by decide) hbA ?_; intro v' w7 ho7 hg7 hb7 hbk7; have hb97 := (bel1 wa _).drew.trans hb7; obtain ⟨g7, c7, rfl, h71, h72⟩ := (OwnG.shape ho7).resolve_left (by simp); have hl7 := HB.out.1.below hb97; have g16 : w7.cell? ⟨q, 16, none⟩ = some nilS := cell_of hl7.tail.tail.head 16; have z16 := fz_of hl7.tail.tail.head 16; have g1 : w7.cell? ⟨w.heap.size, 0, none⟩ = some (dp q) := cell_of hl7.tail.head 0)
      all_goals
        have hq7 : (w7.setCell ⟨q, 16, none⟩ (.slice (some ⟨g7, 0, none⟩) 1 c7)).heap[q]? = some (.cells (imX p nm nilS (.slice (some ⟨g7, 0, none⟩) 1 c7) s ch (dp kn) rd ask) 142 (0, 0)) := heap_setCell_at' w7 q 16 _ _ _ _ hl7.tail.tail.head
        have ho8 : OwnG (w7.setCell ⟨q, 16, none⟩ (.slice (some ⟨g7, 0, none⟩) 1 c7)) wa.heap.size 95 7 (.slice (some ⟨g7, 0, none⟩) 1 c7) [emC] := ho7.kept (Kept.set (N := fun k => k ≠ q) w7 q 16 _ fun h => h rfl) fun k hk => by cases hk; have h1 := blk_lt HB.out.1.tail.tail.head; show g7 ≠ q; omega
        have hk8 : Kept wa (w7.setCell ⟨q, 16, none⟩ (.slice (some ⟨g7, 0, none⟩) 1 c7)) (· ≠ q) := (Kept.of_below hb97 fun _ h _ => h).trans (Kept.set _ q 16 _ fun h => h rfl)
        have hb8 : Below base wa (w7.setCell ⟨q, 16, none⟩ (.slice (some ⟨g7, 0, none⟩) 1 c7)) := (hb97.mono (by have h1 := blk_lt HB.out.1.tail.tail.head; have h2 := H.out.2.2.2; omega)).setCell (p := ⟨q, 16, none⟩) H.out.2.2.2 _
        have HE := hid (And.intro hq7 (And.intro ho8 (And.intro hk8 hb8)))
        clear hq7 ho8 hk8 hb8 ho7 hg7 hb7 hbk7 hb97 hl7 g16 z16 g1
        go_wp2_with fail
        go_meet
        case rel => exact ⟨g7, c7, HE⟩
    case rest =>
      obtain ⟨g, c, hR⟩ := hcut
      have hne : w.heap.size ≠ q := by omega
      have hk1 : wc.heap[w.heap.size]? = some (.cells #[dp q] 60 (0, 0)) := (hR.out.2.2.1.block _ (blk_lt HB.out.1.tail.head) hne).trans HB.out.1.tail.head
      have k1 := cell_of hk1 0
      have k16 : wc.cell? ⟨q, 16, none⟩ = some (.slice (some ⟨g, 0, none⟩) 1 c) := cell_of hR.out.1 16
      clear x1 x16 x1' x16' x3 hcell hone hbA
      go_wp2_with fail
      have hq8 := qk_alloc hR.out.1 (.cells #[.int .i64 1] 3)
      have HE := hid (show HoldP base p q s kn nm rd ch ask w.heap.size wc.heap.size (.slice (some ⟨g, 0, none⟩) 1 c) w (wc.alloc (.cells #[.int .i64 1] 3)) from
        ⟨hq8, (hR.out.2.1.below (bel1 wc _) (Nat.le_refl _)).any_base HB.out.2.1.size, qk_alloc hk1 (.cells #[.int .i64 1] 3), alloc_new wc (.cells #[.int .i64 1] 3), ((Kept.of_below HB.out.2.1 fun _ h _ => h).trans hR.out.2.2.1).trans (Kept.of_below (bel1 wc _) fun _ h _ => h), ((HB.out.2.1.mono (by omega)).trans hR.out.2.2.2).trans ((bel1 wc _).mono (by have h1 := blk_lt hR.out.1; omega))⟩)
      clear hq8 hk1 k1 k16
      go_ret
      exact ⟨_, _, _, _, _, _, rfl, HE.out⟩
end Go.Proofs.YtmcllcepoiakeaaGreat
