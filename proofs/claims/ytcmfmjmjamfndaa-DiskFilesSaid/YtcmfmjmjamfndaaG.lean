import Derived.Test.YtcmfmjmjamfndaaF
namespace Go.Mx
theorem Kept.imp {w w' : World} {N M : Nat → Prop} (h : Kept w w' N) (hi : ∀ k, k < w.heap.size → M k → N k) : Kept w w' M := ⟨h.size, fun k hk hm => h.block k hk (hi k hk hm)⟩
end Go.Mx
namespace Go.Proofs.Ytcmfmjmjamfndaa
open Go.RowKit Go.Mx Go.Dk
set_option linter.unusedSimpArgs false
set_option linter.unusedVariables false

section
variable {w w' : World} {base p : Nat} {d : DM} {fs : List FR} {m : Nat} {lv : Value} {x : Int} {V : Nat → Bool → Prop}
theorem DK.foreign_log (h : DK w base p d fs m lv x V) {q : Nat} (hq : Foreign w q) : q ≠ p ∧ lv.ownBlock ≠ some q := by
  obtain ⟨c, t, fr, g, h1, h2, h3, h4⟩ := hq
  exact ⟨blk_ne g h.dk h1, h.lg.not g h4⟩
/-- the log's slice is another one now -/
theorem DK.newLog (h : DK w base p d fs m lv x V) (hk : Kept w w' (fun q => lv.ownBlock ≠ some q)) (hb : Below base w w') (lv' : Value) (l' : List RM) (hl : OwnG w' base 73 18 lv' (l'.map lrow)) :
    DK (w'.setCell ⟨p, 2, none⟩ lv') base p { d with log := l' } fs m lv' x V ∧ Fr base w (w'.setCell ⟨p, 2, none⟩ lv') := by
  have hp' : w'.heap[p]? = some (.cells (dcells d m lv x) 59 (0, 0)) := (hk.block p h.plt (h.lg.not h.dk (by decide))).trans h.dk
  have hset := heap_setCell_at' w' p 2 lv' _ 59 (0, 0) hp'
  rw [dcells_set2] at hset
  have hks : Kept w' (w'.setCell ⟨p, 2, none⟩ lv') (fun q => q ≠ p) := Kept.set w' p 2 lv' fun hn => hn rfl
  have hkk : Kept w (w'.setCell ⟨p, 2, none⟩ lv') (fun q => q ≠ p ∧ lv.ownBlock ≠ some q) := (hk.imp fun q _ hq => hq.2).trans (hks.imp fun q _ hq => hq.1)
  refine ⟨h.log hkk (fun q h1 h2 => ⟨h1, h2⟩) lv' l' hset (hl.kept hks fun q e => by rintro rfl; exact hl.not hp' (by decide) e), ?_⟩
  exact ⟨hb.setCell (p := ⟨p, 2, none⟩) h.hp lv', hkk.imp fun q _ hq => h.foreign_log hq⟩

set_option maxRecDepth 100000 in
theorem forget_any (h : DK w base p d fs m lv x V) (nm : List UInt8) (k : Nat) (hl : ∀ r ∈ d.log, r.b.length = 16) (hn : d.log.length ≤ 1000000000) :
    Calls Try.prog 27 #[dp p, nmv nm, .int .i64 k] w fun e w' => e = .returned (.tuple #[]) ∧ (∃ lv', DK w' base p { d with log := Dk.forget d.log nm k } fs m lv' x V) ∧ Fr base w w' := by
  have hb1 : Below w.heap.size w (w.alloc (.cells #[nmv nm] 9)) := (Below.refl _ _).alloc (Nat.le_refl _) _
  have hb2 : Below (w.alloc (.cells #[nmv nm] 9)).heap.size (w.alloc (.cells #[nmv nm] 9)) ((w.alloc (.cells #[nmv nm] 9)).alloc (.cells #[.int .i64 k] 3)) := (Below.refl _ _).alloc (Nat.le_refl _) _
  have hz1 : (w.alloc (.cells #[nmv nm] 9)).heap.size = w.heap.size + 1 := by simp
  have hb12 := hb1.trans (hb2.mono (by omega))
  have ha : ((w.alloc (.cells #[nmv nm] 9)).alloc (.cells #[.int .i64 k] 3)).heap[w.heap.size]? = some (.cells #[nmv nm] 9 (0, 0)) := (hb2.block _ (by omega)).trans (alloc_new w _)
  have hb : ((w.alloc (.cells #[nmv nm] 9)).alloc (.cells #[.int .i64 k] 3)).heap[w.heap.size + 1]? = some (.cells #[.int .i64 k] 3 (0, 0)) := by have := alloc_new (w.alloc (.cells #[nmv nm] 9)) (.cells #[.int .i64 k] 3); rwa [hz1] at this
  have h2 := h.below hb12
  have hpl := h.plt
  have hbs : base ≤ w.heap.size := by have := h.hp; omega
  have HC := hid (delf_any d.log lv nm k w.heap.size (w.heap.size + 1) base _ h2.lg ha hb hl hn (by simp; omega))
  obtain ⟨c0, c1, c2, c3, c4, c5⟩ := h2.cells
  have H2 := hid (And.intro h2 (And.intro hb12 hbs))
  have HH := hid h
  have hmf : ∀ (fn : Fn) (first cap : Array Value) (w : World), (Instr.makeFunc fn first cap).run Try.prog w = .ok (.func fn first cap) w := fun _ _ _ _ => rfl
  obtain ⟨oa, nn, cp, rfl⟩ := h.lg.sliceOf
  clear h h2 hb1 hb2 hb12 c0 c1 c3 c4 c5 ha hb hbs hz1
  go_enter Try.func27, Try.ntmps27
  go_wp2_with fail
  refine HC.out.mono ?_
  rintro e w3 ⟨v', rfl, ho, hk, hbl⟩
  obtain ⟨oa', nn', cp', rfl⟩ := ho.sliceOf
  have hp3 : w3.heap[p]? = some (.cells (dcells d m (.slice oa nn cp) x) 59 (0, 0)) := (hk.block p H2.out.1.plt (H2.out.1.lg.not H2.out.1.dk (by decide))).trans H2.out.1.dk
  have hc3 : w3.cell? ⟨p, 2, none⟩ = some (.slice oa nn cp) := by simp [World.cell?, hp3, dcells]
  have hf3 : w3.frozen? ⟨p, 2, none⟩ = false := by simp [World.frozen?, hp3]
  have hk0 : Kept w w3 (fun q => (Value.slice oa nn cp).ownBlock ≠ some q) := (Kept.of_below H2.out.2.1 fun _ h _ => h).trans hk
  have hbl0 : Below base w w3 := (H2.out.2.1.mono H2.out.2.2).trans hbl
  have HN := hid (HH.out.newLog hk0 hbl0 _ _ ho)
  clear hp3 hk0 hbl0 ho hk hbl c2
  go_wp2
  go_end0
  exact ⟨rfl, ⟨_, HN.out.1⟩, HN.out.2⟩
end
end Go.Proofs.Ytcmfmjmjamfndaa
