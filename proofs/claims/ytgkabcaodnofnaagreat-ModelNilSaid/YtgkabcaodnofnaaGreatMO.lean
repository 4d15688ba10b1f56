import Derived.Test.YtgkabcaodnofnaaGreatCN
namespace Go.Proofs.YtgkabcaodnofnaaGreat
open Go.RowKit Go.Mx Go.Md
set_option linter.unusedVariables false
set_option linter.unusedSimpArgs false
/-- the table of commands -/
def fnV (f mb : Nat) : Value := .func (.func f) #[pt mb] #[]
def tabL (mb : Nat) : ML Int :=
  [(1, fnV 36 mb), (2, fnV 37 mb), (3, fnV 38 mb), (4, fnV 39 mb), (5, fnV 40 mb), (6, fnV 41 mb), (7, fnV 42 mb), (8, fnV 43 mb), (9, fnV 44 mb), (10, fnV 45 mb), (11, fnV 46 mb), (12, fnV 47 mb), (13, fnV 47 mb), (14, fnV 47 mb), (15, fnV 47 mb), (16, fnV 47 mb), (17, fnV 47 mb), (18, fnV 48 mb), (19, fnV 49 mb), (20, fnV 50 mb), (21, fnV 51 mb), (22, fnV 52 mb), (23, fnV 53 mb), (24, fnV 54 mb), (25, fnV 55 mb), (26, fnV 56 mb)]
/-- how a model lies -/
structure MX where
  am : Nat
  xs : List XI
  km : Nat
  ks : List XI
  hm : Nat
  cl : ML (List UInt8)
  dm : Option Nat
  fv : Value
  fr : List Value
def MX.fp (mb : Nat) (X : MX) : List Nat := mb :: X.hm :: (X.dm.toList ++ (X.fv.ownBlock.toList ++ (fpA X.am X.xs ++ fpA X.km X.ks)))
abbrev mcells (X : MX) : Array Value := #[.map (some X.am), .map (some X.km), .map (some X.hm), .int .u32 (if X.dm.isSome then 1 else 0), .int .i32 0, .int .u32 0, .map X.dm, X.fv]
structure MO (w : World) (base mb : Nat) (M : MM) (X : MX) : Prop where
  ck : w.heap[mb]? = some (.cells (mcells X) 73 (0, 0))
  a : AM w base X.am M.all X.xs
  k : AM w base X.km M.kept X.ks
  h : GM ES Tryz.prog 9 w X.hm X.cl
  ht : ∀ p ∈ X.cl, p.2 = .bool true
  hc : ∀ n, M.ch n = (Mx.look X.cl n).isSome
  d : ∀ dm, X.dm = some dm → GM EI Tryz.prog 3 w dm (tabL mb)
  f : OwnG w base 28 1 X.fv (X.fr.map fun v => [v])
  nd : (X.fp mb).Nodup
variable {w w' : World} {base mb : Nat} {M : MM} {X : MX}
theorem MO.kept {N : Nat → Prop} (h : MO w base mb M X) (hk : Kept w w' N) (hf : ∀ b ∈ X.fp mb, N b) (hN : NI w N) : MO w' base mb M X := by
  have hm : ∀ b, b ∈ fpA X.am X.xs → N b := fun b hb => hf b (by unfold MX.fp; simp [hb])
  have hm2 : ∀ b, b ∈ fpA X.km X.ks → N b := fun b hb => hf b (by unfold MX.fp; simp [hb])
  refine ⟨(hk.block mb (blk_lt h.ck) (hf mb (by simp [MX.fp]))).trans h.ck, h.a.kept hk hm hN, h.k.kept hk hm2 hN, h.h.block (hk.block _ h.h.lt (hf _ (by simp [MX.fp]))), h.ht, h.hc, fun dm e => (h.d dm e).block (hk.block _ (h.d dm e).lt (hf _ (by simp [MX.fp, e]))), h.f.kept hk fun q hq => hf q (by simp [MX.fp, hq]), h.nd⟩
theorem MO.below (h : MO w base mb M X) (hb : Below w.heap.size w w') : MO w' base mb M X :=
  h.kept (Kept.of_below (N := fun _ => True) hb fun k hk _ => hk) (fun _ _ => trivial) fun _ _ _ _ _ _ => trivial
theorem MO.mod0 (h : MO w base mb M X) : Mod0 w mb X.am := ⟨_, h.ck, rfl⟩
theorem MO.cells (h : MO w base mb M X) : w.cell? ⟨mb, 0, none⟩ = some (.map (some X.am)) ∧ w.cell? ⟨mb, 1, none⟩ = some (.map (some X.km)) ∧ w.cell? ⟨mb, 2, none⟩ = some (.map (some X.hm)) ∧ w.cell? ⟨mb, 3, none⟩ = some (.int .u32 (if X.dm.isSome then 1 else 0)) ∧ w.cell? ⟨mb, 4, none⟩ = some (.int .i32 0) ∧ w.cell? ⟨mb, 5, none⟩ = some (.int .u32 0) ∧ w.cell? ⟨mb, 6, none⟩ = some (.map X.dm) ∧ w.cell? ⟨mb, 7, none⟩ = some X.fv ∧ (∀ j, w.frozen? ⟨mb, j, none⟩ = false) := by
  have := h.ck
  refine ⟨?_, ?_, ?_, ?_, ?_, ?_, ?_, ?_, fun j => ?_⟩ <;> simp [World.cell?, World.frozen?, this]
theorem AM.lt {am : Nat} {S : IL} {xs : List XI} (h : AM w base am S xs) : ∀ b ∈ fpA am xs, b < w.heap.size := by
  intro b hb
  unfold fpA at hb
  rcases List.mem_cons.1 hb with rfl | h1
  · exact h.g.lt
  · obtain ⟨x, hx, h2⟩ := List.mem_flatMap.1 h1
    exact (h.i x hx).lt b h2
theorem MO.lt (h : MO w base mb M X) : ∀ b ∈ X.fp mb, b < w.heap.size := by
  intro b hb
  unfold MX.fp at hb
  simp only [List.mem_cons, List.mem_append, Option.mem_toList] at hb
  rcases hb with rfl | rfl | e | e | e | e
  · exact blk_lt h.ck
  · exact h.h.lt
  · exact (h.d b e).lt
  · exact h.f.lt _ e
  · exact h.a.lt b e
  · exact h.k.lt b e
/-- the blocks of a model hold no clusters' bytes, bitmaps, spans -/
theorem II.typ {w : World} {base ib : Nat} {i : IM} {x : IX} (h : II w base ib i x) : ∀ b ∈ x.fp ib, ∀ c t f, w.heap[b]? = some (.cells c t f) → t ≠ 5 ∧ t ≠ 108 ∧ t ≠ 111 := by
  intro b hb c t f hc
  unfold IX.fp at hb
  simp only [List.mem_cons, List.mem_append, List.mem_map, Option.mem_toList] at hb
  rcases hb with rfl | rfl | ⟨s, hs, rfl⟩ | e
  · rw [h.ck] at hc; cases hc; decide
  · obtain ⟨es, k, h1⟩ := h.own.g.isMap; rw [h1] at hc; cases hc
  · obtain ⟨es, k, h1⟩ := (h.sm s hs).g.isMap; rw [h1] at hc; cases hc
  · obtain ⟨c9, f9, h9⟩ := ownG_type h.so b e; rw [h9] at hc; cases hc; decide
theorem AM.typ {am : Nat} {S : IL} {xs : List XI} (h : AM w base am S xs) : ∀ b ∈ fpA am xs, ∀ c t f, w.heap[b]? = some (.cells c t f) → t ≠ 5 ∧ t ≠ 108 ∧ t ≠ 111 := by
  intro b hb c t f hc
  unfold fpA at hb
  rcases List.mem_cons.1 hb with rfl | h1
  · obtain ⟨es, k, h1⟩ := h.g.isMap; rw [h1] at hc; cases hc
  · obtain ⟨x, hx, h2⟩ := List.mem_flatMap.1 h1
    exact (h.i x hx).typ b h2 c t f hc
theorem MO.typ (h : MO w base mb M X) : ∀ b ∈ X.fp mb, ∀ c t f, w.heap[b]? = some (.cells c t f) → t ≠ 5 ∧ t ≠ 108 ∧ t ≠ 111 := by
  intro b hb c t f hc
  unfold MX.fp at hb
  simp only [List.mem_cons, List.mem_append, Option.mem_toList] at hb
  rcases hb with rfl | rfl | e | e | e | e
  · rw [h.ck] at hc; cases hc; decide
  · obtain ⟨es, k, h1⟩ := h.h.isMap; rw [h1] at hc; cases hc
  · obtain ⟨es, k, h1⟩ := (h.d b e).isMap; rw [h1] at hc; cases hc
  · obtain ⟨c9, f9, h9⟩ := ownG_type h.f b e; rw [h9] at hc; cases hc; decide
  · exact h.a.typ b e c t f hc
  · exact h.k.typ b e c t f hc
theorem ni_of (F : List Nat) (ht : ∀ b ∈ F, ∀ c t f, w.heap[b]? = some (.cells c t f) → t ≠ 5 ∧ t ≠ 108 ∧ t ≠ 111) : NI w (· ∉ F) := by
  intro b c t f hb h3 hm
  have := ht b hm c t f hb
  rcases h3 with h | h | h <;> simp [h] at this
/-- what a step changes: these blocks alone, and what it makes -/
structure Stp (w w' : World) (F F' : List Nat) : Prop where
  k : Kept w w' (· ∉ F)
  n : ∀ b ∈ F', b ∈ F ∨ w.heap.size ≤ b
theorem Stp.trans {a b c : World} {F G H : List Nat} (h : Stp a b F G) (h2 : Stp b c G H) : Stp a c F H := by
  refine ⟨⟨Nat.le_trans h.k.size h2.k.size, fun k hk hn => ?_, h2.k.st.1.trans h.k.st.1, h2.k.st.2.1.trans h.k.st.2.1, h2.k.st.2.2.trans h.k.st.2.2⟩, fun x hx => ?_⟩
  · refine (h2.k.block k (Nat.lt_of_lt_of_le hk h.k.size) fun hm => ?_).trans (h.k.block k hk hn)
    rcases h.n k hm with h3 | h3
    · exact hn h3
    · omega
  · rcases h2.n x hx with h3 | h3
    · exact h.n x h3
    · exact .inr (Nat.le_trans h.k.size h3)
theorem Stp.refl (a : World) (F : List Nat) : Stp a a F F := ⟨Kept.refl _ _, fun _ h => .inl h⟩
theorem Stp.below {a b : World} {F G : List Nat} {B : Nat} (h : Stp a b F G) (hF : ∀ x ∈ F, B ≤ x) (hB : B ≤ a.heap.size) : Below B a b :=
  ⟨h.k.st.1, h.k.st.2.1, h.k.st.2.2, h.k.size, fun k hk => h.k.block k (by omega) (fun hm => by have := hF k hm; omega)⟩
theorem Stp.of_below {a b : World} (h : Below a.heap.size a b) (F : List Nat) : Stp a b F F := ⟨Kept.of_below h fun k hk _ => hk, fun _ h => .inl h⟩
/-- the blocks of a model are apart -/
structure Ap (mb : Nat) (X : MX) : Prop where
  mh : mb ≠ X.hm
  d : ∀ q, X.dm = some q → q ≠ mb ∧ q ≠ X.hm ∧ X.fv.ownBlock ≠ some q ∧ q ∉ fpA X.am X.xs ∧ q ∉ fpA X.km X.ks
  f : ∀ q, X.fv.ownBlock = some q → q ≠ mb ∧ q ≠ X.hm ∧ q ∉ fpA X.am X.xs ∧ q ∉ fpA X.km X.ks
  a : ∀ b ∈ fpA X.am X.xs, b ≠ mb ∧ b ≠ X.hm ∧ b ∉ fpA X.km X.ks
  k : ∀ b ∈ fpA X.km X.ks, b ≠ mb ∧ b ≠ X.hm
  na : (fpA X.am X.xs).Nodup
  nk : (fpA X.km X.ks).Nodup
theorem Ap.of (h : (X.fp mb).Nodup) : Ap mb X := by
  unfold MX.fp at h
  simp only [List.nodup_cons, List.nodup_append, List.mem_cons, List.mem_append, not_or, Option.mem_toList] at h
  obtain ⟨⟨n1, n2, n3, n4, n5⟩, ⟨m2, m3, m4, m5⟩, _, ⟨_, ⟨hnA, hnK, hAK⟩, hfA⟩, hdA⟩ := h
  exact ⟨n1, fun q e => ⟨fun e2 => n2 (e2 ▸ e), fun e2 => m2 (e2 ▸ e), fun e2 => hdA q e q (.inl e2) rfl, fun e2 => hdA q e q (.inr (.inl e2)) rfl, fun e2 => hdA q e q (.inr (.inr e2)) rfl⟩,
    fun q e => ⟨fun e2 => n3 (e2 ▸ e), fun e2 => m3 (e2 ▸ e), fun e2 => hfA q e q (.inl e2) rfl, fun e2 => hfA q e q (.inr e2) rfl⟩,
    fun b e => ⟨fun e2 => n4 (e2 ▸ e), fun e2 => m4 (e2 ▸ e), fun e2 => hAK b e b e2 rfl⟩, fun b e => ⟨fun e2 => n5 (e2 ▸ e), fun e2 => m5 (e2 ▸ e)⟩, hnA, hnK⟩
theorem Ap.nd (h : Ap mb X) : (X.fp mb).Nodup := by
  unfold MX.fp
  simp only [List.nodup_cons, List.nodup_append, List.mem_cons, List.mem_append, not_or, Option.mem_toList]
  refine ⟨⟨h.mh, fun e => (h.d _ e).1 rfl, fun e => (h.f _ e).1 rfl, fun e => (h.a _ e).1 rfl, fun e => (h.k _ e).1 rfl⟩, ⟨fun e => (h.d _ e).2.1 rfl, fun e => (h.f _ e).2.1 rfl, fun e => (h.a _ e).2.1 rfl, fun e => (h.k _ e).2 rfl⟩,
    by cases X.dm <;> simp, ⟨by cases X.fv.ownBlock <;> simp, ⟨h.na, h.nk, fun a ha b hb e => (h.a a ha).2.2 (e ▸ hb)⟩, fun a ha b hb e => ?_⟩, fun a ha b hb e => ?_⟩
  · subst e
    rcases hb with h1 | h1
    · exact (h.f a ha).2.2.1 h1
    · exact (h.f a ha).2.2.2 h1
  · subst e
    rcases hb with h1 | h1 | h1
    · exact (h.d a ha).2.2.1 h1
    · exact (h.d a ha).2.2.2.1 h1
    · exact (h.d a ha).2.2.2.2 h1
theorem MX.mem {b : Nat} : b ∈ X.fp mb ↔ b = mb ∨ b = X.hm ∨ X.dm = some b ∨ X.fv.ownBlock = some b ∨ b ∈ fpA X.am X.xs ∨ b ∈ fpA X.km X.ks := by
  unfold MX.fp
  simp only [List.mem_cons, List.mem_append, Option.mem_toList]
theorem size73 (w : World) : (sizeOf 73).run Tryz.prog w = .ok 8 w := by kernel_rfl
end Go.Proofs.YtgkabcaodnofnaaGreat
