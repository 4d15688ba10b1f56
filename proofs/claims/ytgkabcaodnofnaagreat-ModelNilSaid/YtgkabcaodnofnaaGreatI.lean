import Derived.Test.YtgkabcaodnofnaaGreatH
set_option linter.unusedSimpArgs false
set_option linter.unusedVariables false
namespace Go.Md
/-- how deep an image stands -/
def dep (S : IL) : Nat → Bs → Prop
  | 0, n => fnd S n = none
  | d + 1, n => match fnd S n with
    | none => True
    | some i => dep S d i.back
theorem dep_succ {S : IL} : ∀ {d : Nat} {n : Bs}, dep S d n → dep S (d + 1) n
  | 0, n, h => by
    have h : fnd S n = none := h
    simp only [dep, h]
  | d + 1, n, h => by
    unfold dep at h ⊢
    split
    · trivial
    · rename_i i hi
      rw [hi] at h
      exact dep_succ h
theorem dep_le {S : IL} {d e : Nat} {n : Bs} (h : dep S d n) (he : d ≤ e) : dep S e n := by
  induction he with
  | refl => exact h
  | step _ ih => exact dep_succ ih
/-- beyond its depth nothing is seen that was not -/
theorem secOf_deep {S : IL} : ∀ {d : Nat} {n : Bs}, dep S d n → ∀ e, d ≤ e → ∀ s, secOf S e n s = secOf S d n s
  | 0, n, h, e, _, s => by
    have h : fnd S n = none := h
    cases e with
    | zero => rfl
    | succ e => simp only [secOf, h]
  | d + 1, n, h, 0, he, s => by omega
  | d + 1, n, h, e + 1, he, s => by
    simp only [secOf]
    cases hf : fnd S n with
    | none => rfl
    | some i =>
      have hd : dep S d i.back := by unfold dep at h; rw [hf] at h; exact h
      simp only
      split
      · split
        · rfl
        · exact secOf_deep hd e (by omega) s
      · rfl
/-- an image's own clusters are whole -/
def OwnOk (cl nc : Nat) (own : Nat → Option Bs) : Prop := ∀ k bs, own k = some bs → k < nc ∧ bs.length = 16 * 2 ^ cl
end Go.Md
namespace Go.Proofs.YtgkabcaodnofnaaGreat
open Go.RowKit Go.Mx Go.Md
set_option linter.unusedVariables false
set_option linter.unusedSimpArgs false
theorem K3 : KOK Tryz.prog 3 EI := KOK.int Tryz.underlying3
theorem K9 : KOK Tryz.prog 9 ES := KOK.str Tryz.underlying9
theorem zero23 (w : World) : (zeroValue 23).run Tryz.prog w = .ok (.slice none 0 0) w := by kernel_rfl
theorem zero77 (w : World) : (zeroValue 77).run Tryz.prog w = .ok (.pointer none) w := by kernel_rfl
abbrev pt (b : Nat) : Value := .pointer (some ⟨b, 0, none⟩)
abbrev str (s : Bs) : Value := .string ⟨s.toArray⟩
/-- clusters' bytes in a map -/
structure OM (w : World) (base m : Nat) (own : Nat → Option Bs) (l : ML Int) : Prop where
  g : GM EI Tryz.prog 3 w m l
  f : ∀ p ∈ l, ∃ (k : Nat) (bs : Bs), p.1 = (k : Int) ∧ own k = some bs ∧ OwnB w base 5 p.2 bs
  b : ∀ k bs, own k = some bs → ∃ v, ((k : Int), v) ∈ l
section
variable {w w' : World} {base m : Nat} {own : Nat → Option Bs} {l : ML Int}
theorem OM.kept {N : Nat → Prop} (h : OM w base m own l) (hk : Kept w w' N) (hm : N m) (hN : ∀ b c f, w.heap[b]? = some (.cells c 5 f) → N b) : OM w' base m own l where
  g := h.g.block (hk.block m h.g.lt hm)
  f := fun p hp => by
    obtain ⟨k, bs, h1, h2, h3⟩ := h.f p hp
    exact ⟨k, bs, h1, h2, h3.kept hk fun b hb => by obtain ⟨c, f, hc⟩ := ownB_type h3 b hb; exact hN b c f hc⟩
  b := h.b
theorem OM.below (h : OM w base m own l) (hb : Below w.heap.size w w') : OM w' base m own l :=
  h.kept (Kept.of_below (N := fun _ => True) hb fun _ h _ => h) trivial fun _ _ _ _ => trivial
theorem OM.at (h : OM w base m own l) (k : Nat) (hk : k ≤ 1000000) : (own k = none ∧ (Instr.lookup 84 (.map (some m)) (.int .i64 k) true).run Tryz.prog w = .ok (.tuple #[.slice none 0 0, .bool false]) w) ∨
    ∃ bs v, own k = some bs ∧ OwnB w base 5 v bs ∧ (Instr.lookup 84 (.map (some m)) (.int .i64 k) true).run Tryz.prog w = .ok (.tuple #[v, .bool true]) w := by
  have hwf : EI.ok (k : Int) := by
    show (Lit.int .i64 (k : Int)).wf = true
    simp [Lit.wf, IntKind.min, IntKind.max, IntKind.signed, IntKind.bits]; omega
  have hl := h.g.lookOk (t := 84) (e := 23) (z := .slice none 0 0) K3 Tryz.underlying84 zero23 rfl (k : Int) hwf
  cases ho : own k with
  | none =>
    left
    have hn : Mx.look l (k : Int) = none := by
      cases hlk : Mx.look l (k : Int) with
      | none => rfl
      | some v =>
        obtain ⟨k', bs, h1, h2, _⟩ := h.f _ (look_mem hlk)
        have : k = k' := by simp only at h1; omega
        subst this; rw [ho] at h2; cases h2
    rw [hn] at hl
    exact ⟨rfl, hl⟩
  | some bs =>
    right
    obtain ⟨v, hv⟩ := h.b k bs ho
    have hlk := look_of_mem h.g.nodup hv
    rw [hlk] at hl
    obtain ⟨k', bs', h1, h2, h3⟩ := h.f _ hv
    have : k = k' := by simp only at h1; omega
    subst this; rw [ho] at h2; cases h2
    exact ⟨bs, v, rfl, h3, hl⟩
end
/-- snapshots: where their maps lie -/
structure SX where
  s : SH
  m : Nat
  l : ML Int
abbrev sxrow (x : SX) : List Value := [str x.s.name, .int .i64 x.s.size, .map (some x.m)]
/-- how an image lies -/
structure IX where
  om : Nat
  ol : ML Int
  sv : Value
  ss : List SX
  mv : Value
  ps : List PB
/-- an image in memory -/
structure II (w : World) (base ib : Nat) (i : IM) (x : IX) : Prop where
  ck : w.heap[ib]? = some (.cells #[.int .i64 i.cl, .int .i64 i.size, str i.back, .map (some x.om), x.sv, x.mv] 87 (0, 0))
  own : OM w base x.om i.own x.ol
  se : i.shots = x.ss.map (·.s)
  so : OwnG w base 90 3 x.sv (x.ss.map sxrow)
  sm : ∀ s ∈ x.ss, OM w base s.m s.s.own s.l
  maps : BMS w base x.mv i.maps x.ps
/-- what is right of an image -/
structure IOk (i : IM) : Prop where
  cl : i.cl ≤ 6
  size : i.size ≤ 4096
  whole : i.size % 2 ^ i.cl = 0
  own : OwnOk i.cl (i.size / 2 ^ i.cl) i.own
  shots : ∀ s ∈ i.shots, s.size ≤ 4096 ∧ s.size % 2 ^ i.cl = 0 ∧ OwnOk i.cl (s.size / 2 ^ i.cl) s.own
  ns : i.shots.length ≤ 8
  nb : i.back.length ≤ 100
section
variable {w w' : World} {base ib : Nat} {i : IM} {x : IX}
/-- blocks that an image may write into -/
def IX.fp (ib : Nat) (x : IX) : List Nat := ib :: x.om :: (x.ss.map (·.m) ++ (x.sv.ownBlock).toList)
/-- blocks of what is never written into, or an image's own -/
def NI (w : World) (N : Nat → Prop) : Prop := ∀ b c t f, w.heap[b]? = some (.cells c t f) → t = 5 ∨ t = 108 ∨ t = 111 → N b
theorem II.kept {N : Nat → Prop} (h : II w base ib i x) (hk : Kept w w' N) (hf : ∀ b ∈ x.fp ib, N b) (hN : NI w N) : II w' base ib i x where
  ck := (hk.block ib (blk_lt h.ck) (hf ib (by simp [IX.fp]))).trans h.ck
  own := h.own.kept hk (hf _ (by simp [IX.fp])) fun b c f hc => hN b c _ f hc (.inl rfl)
  se := h.se
  so := h.so.kept hk fun k e => hf k (by simp [IX.fp, e])
  sm := fun s hs => (h.sm s hs).kept hk (hf _ (by simp [IX.fp]; right; right; left; exact ⟨s, hs, rfl⟩)) fun b c f hc => hN b c _ f hc (.inl rfl)
  maps := h.maps.kept hk fun b c t f hc ht => hN b c t f hc (by rcases ht with h | h <;> simp [h])
theorem II.below (h : II w base ib i x) (hb : Below w.heap.size w w') : II w' base ib i x :=
  h.kept (Kept.of_below (N := fun _ => True) hb fun _ h _ => h) (fun _ _ => trivial) fun _ _ _ _ _ _ => trivial
theorem II.cells (h : II w base ib i x) : w.cell? ⟨ib, 0, none⟩ = some (.int .i64 i.cl) ∧ w.cell? ⟨ib, 1, none⟩ = some (.int .i64 i.size) ∧ w.cell? ⟨ib, 2, none⟩ = some (str i.back) ∧ w.cell? ⟨ib, 3, none⟩ = some (.map (some x.om)) ∧ w.cell? ⟨ib, 4, none⟩ = some x.sv ∧ w.cell? ⟨ib, 5, none⟩ = some x.mv ∧ (∀ j, w.frozen? ⟨ib, j, none⟩ = false) := by
  have := h.ck
  refine ⟨?_, ?_, ?_, ?_, ?_, ?_, fun j => ?_⟩ <;> simp [World.cell?, World.frozen?, this]
end
/-- an image of a model -/
structure XI where
  n : Bs
  i : IM
  ib : Nat
  x : IX
/-- images by name in memory -/
structure AM (w : World) (base am : Nat) (S : IL) (xs : List XI) : Prop where
  g : GM ES Tryz.prog 9 w am (xs.map fun x => (x.n, pt x.ib))
  p : (xs.map fun x => (x.n, x.i)).Perm S
  i : ∀ x ∈ xs, II w base x.ib x.i x.x
  ok : ∀ x ∈ xs, IOk x.i
  nl : ∀ x ∈ xs, x.n.length ≤ 100
  nd : (S.map (·.1)).Nodup
section
variable {w w' : World} {base am : Nat} {S : IL} {xs : List XI}
def fpA (am : Nat) (xs : List XI) : List Nat := am :: xs.flatMap fun x => x.x.fp x.ib
theorem AM.kept {N : Nat → Prop} (h : AM w base am S xs) (hk : Kept w w' N) (hf : ∀ b ∈ fpA am xs, N b) (hN : NI w N) : AM w' base am S xs where
  g := h.g.block (hk.block am h.g.lt (hf am (by simp [fpA])))
  p := h.p
  i := fun x hx => (h.i x hx).kept hk (fun b hb => hf b (by simp only [fpA, List.mem_cons, List.mem_flatMap]; exact .inr ⟨x, hx, hb⟩)) hN
  ok := h.ok
  nl := h.nl
  nd := h.nd
theorem AM.below (h : AM w base am S xs) (hb : Below w.heap.size w w') : AM w' base am S xs :=
  h.kept (Kept.of_below (N := fun _ => True) hb fun _ h _ => h) (fun _ _ => trivial) fun _ _ _ _ _ _ => trivial
theorem fnd_mem {S : IL} {n : Bs} {i : IM} (h : fnd S n = some i) : (n, i) ∈ S := by
  unfold fnd at h
  cases hf : S.find? (fun p => decide (p.1 = n)) with
  | none => rw [hf] at h; cases h
  | some p =>
    rw [hf] at h; cases h
    have h1 := List.find?_some hf
    have h2 := List.mem_of_find?_eq_some hf
    obtain ⟨a, b⟩ := p
    simp at h1; subst h1; exact h2
theorem fnd_none {S : IL} {n : Bs} : fnd S n = none ↔ n ∉ S.map (·.1) := by
  unfold fnd
  rw [Option.map_eq_none_iff, List.find?_eq_none]
  simp only [decide_eq_true_eq, List.mem_map, not_exists, not_and, Prod.forall]
theorem fnd_of {S : IL} (hn : (S.map (·.1)).Nodup) {n : Bs} {i : IM} (h : (n, i) ∈ S) : fnd S n = some i := by
  induction S with
  | nil => cases h
  | cons p t ih =>
    rw [List.map_cons, List.nodup_cons] at hn
    unfold fnd
    rw [List.find?_cons]
    rcases List.mem_cons.1 h with e | e
    · subst e; simp
    · have : p.1 ≠ n := fun e2 => hn.1 (List.mem_map.2 ⟨_, e, e2.symm⟩)
      rw [show decide (p.1 = n) = false by simpa using this]
      exact ih hn.2 e
theorem AM.names (h : AM w base am S xs) : (xs.map (·.n)).Nodup := by
  have := h.g.nodup
  rwa [List.map_map] at this
theorem AM.at (h : AM w base am S xs) (n : Bs) (hn : n.length ≤ maxLen) : (fnd S n = none ∧ (Instr.lookup 57 (.map (some am)) (str n) false).run Tryz.prog w = .ok (.pointer none) w) ∨
    ∃ x ∈ xs, x.n = n ∧ fnd S n = some x.i ∧ (Instr.lookup 57 (.map (some am)) (str n) false).run Tryz.prog w = .ok (pt x.ib) w := by
  have hl := h.g.look (t := 57) (e := 77) (z := .pointer none) K9 Tryz.underlying57 zero77 rfl n hn
  cases hlk : Mx.look (xs.map fun x => (x.n, pt x.ib)) n with
  | none =>
    left
    rw [hlk] at hl
    refine ⟨?_, hl⟩
    rw [fnd_none]
    have h1 := (look_none _ n).1 hlk
    intro h2
    apply h1
    have h3 := (h.p.map (·.1)).mem_iff.2 h2
    rw [List.map_map] at h3 ⊢
    exact h3
  | some v =>
    right
    rw [hlk] at hl
    obtain ⟨x, hx, he⟩ := List.mem_map.1 (look_mem hlk)
    simp only [Prod.mk.injEq] at he
    obtain ⟨h1, rfl⟩ := he
    refine ⟨x, hx, h1, ?_, hl⟩
    apply fnd_of h.nd
    rw [← h1]
    exact h.p.mem_iff.1 (List.mem_map.2 ⟨x, hx, rfl⟩)
end
end Go.Proofs.YtgkabcaodnofnaaGreat
