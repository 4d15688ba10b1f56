import Derived.Test.YtgkabcaodnofnaaGreatOO
import Derived.Test.YtgkabcaodnofnaaGreatFL
namespace Go.Proofs.YtgkabcaodnofnaaGreat
open Go.RowKit Go.Mx Go.Md
set_option linter.unusedVariables false
set_option linter.unusedSimpArgs false
variable {w w' : World} {base mb : Nat} {M : MM} {X : MX}
/-- a model's own cells are changed, and no more -/
theorem MO.set {dm : Option Nat} {fv : Value} {fr : List Value} (h : MO w base mb M X) (hk : Kept w w' (· ≠ mb)) (hc : w'.heap[mb]? = some (.cells (mcells { X with dm := dm, fv := fv, fr := fr }) 73 (0, 0)))
    (hd : ∀ q, dm = some q → GM EI Tryz.prog 3 w' q (tabL mb)) (hf : OwnG w' base 28 1 fv (fr.map fun v => [v])) (hdm : ∀ q, dm = some q → X.dm = some q ∨ (w.heap.size ≤ q ∧ fv = .slice none 0 0)) (hfv : fv.ownBlock = X.fv.ownBlock ∨ fv = .slice none 0 0) :
    MO w' base mb M { X with dm := dm, fv := fv, fr := fr } ∧ Stp w w' (X.fp mb) (MX.fp mb { X with dm := dm, fv := fv, fr := fr }) := by
  have hap := Ap.of h.nd
  have hNI : NI w (· ≠ mb) := fun b c t f hb h3 e => by rw [e, h.ck] at hb; cases hb; rcases h3 with h | h | h <;> cases h
  have hfv' : ∀ q, fv.ownBlock = some q → X.fv.ownBlock = some q := fun q e => by
    rcases hfv with h1 | h1
    · rw [← h1]; exact e
    · rw [h1] at e; cases e
  refine ⟨⟨hc, h.a.kept hk (fun b hb => (hap.a b hb).1) hNI, h.k.kept hk (fun b hb => (hap.k b hb).1) hNI, h.h.block (hk.block _ h.h.lt hap.mh.symm), h.ht, h.hc, hd, hf, ?_⟩, hk.imp fun b hb e => hb (e ▸ MX.mem.2 (.inl rfl)), ?_⟩
  · refine Ap.nd ⟨hap.mh, fun q e => ?_, fun q e => hap.f q (hfv' q e), hap.a, hap.k, hap.na, hap.nk⟩
    rcases hdm q e with h1 | ⟨h1, h2⟩
    · exact ⟨(hap.d q h1).1, (hap.d q h1).2.1, fun e2 => (hap.d q h1).2.2.1 (hfv' q e2), (hap.d q h1).2.2.2⟩
    · refine ⟨?_, ?_, ?_, ?_, ?_⟩
      · have := blk_lt h.ck; omega
      · have := h.h.lt; intro e2; have e3 : q = X.hm := e2; omega
      · show fv.ownBlock ≠ some q
        rw [h2]; simp [Value.ownBlock]
      · intro e2; have := h.a.lt q e2; omega
      · intro e2; have := h.k.lt q e2; omega
  · intro b hb
    rw [MX.mem] at hb ⊢
    rcases hb with h1 | h1 | h1 | h1 | h1
    · exact .inl (.inl h1)
    · exact .inl (.inr (.inl h1))
    · rcases hdm b h1 with h2 | ⟨h2, _⟩
      · exact .inl (.inr (.inr (.inl h2)))
      · exact .inr h2
    · exact .inl (.inr (.inr (.inr (.inl (hfv' b h1)))))
    · exact .inl (.inr (.inr (.inr (.inr h1))))
set_option maxRecDepth 100000 in
set_option maxHeartbeats 1000000 in
/-- function 22 -/
theorem table_any (h : MO w base mb M X) (hfv : X.fv = .slice none 0 0) :
    Calls Tryz.prog 22 #[pt mb] w fun e w' => ∃ dm, e = .returned (.map (some dm)) ∧ MO w' base mb M { X with dm := some dm } ∧ Stp w w' (X.fp mb) (MX.fp mb { X with dm := some dm }) := by
  obtain ⟨w1, hw1⟩ : ∃ z, z = w.alloc (.cells #[pt mb] 28) := ⟨_, rfl⟩
  have hb1 : Below w.heap.size w w1 := by rw [hw1]; exact (Below.refl _ _).alloc (Nat.le_refl _) _
  have p0 : w1.cell? ⟨w.heap.size, 0, none⟩ = some (pt mb) := by rw [hw1]; exact cell_alloc1 _ _ _
  have hs1 : w1.heap.size = w.heap.size + 1 := by rw [hw1]; simp
  have h1 := h.below hb1
  have hlt := blk_lt h.ck
  have hmf : ∀ (fn : Fn) (first cap : Array Value) (w : World), (Instr.makeFunc fn first cap).run Tryz.prog w = .ok (.func fn first cap) w := fun _ _ _ _ => rfl
  cases hd : X.dm with
  | none =>
    have HD := hid (do_first mb w.heap.size w1 (mcells X) p0 (by omega) (by omega) h1.ck (by simp [hd]) rfl ⟨_, rfl⟩)
    have H := hid (And.intro h (And.intro h1 (And.intro hb1 (And.intro hd (And.intro hfv hs1)))))
    have HW := hid hw1
    clear h h1 hb1 hd hfv hs1
    go_enter Tryz.func22, Tryz.ntmps22
    go_upto_region 1 with (fail)
    rw [← hw1]
    clear hw1
    go_upto_region 2 with (go_at_call 34; refine HD.out.mono ?_; rintro e w3 ⟨rfl, g3, k3, q3⟩; have e1 : w3.cell? ⟨w.heap.size, 0, none⟩ = some (pt mb) := (k3.cell (by have := H.out.2.2.2.2.2; omega) (by omega)).trans p0; have e2 : w3.cell? ⟨mb, 6, none⟩ = some (.map (some w1.heap.size)) := (by simp [World.cell?, q3, onceC]))
    obtain ⟨h, h1, hb1, hd, hfv, hs1⟩ := H.out
    have hmc : onceC (mcells X) w1.heap.size = mcells { X with dm := some w1.heap.size, fv := X.fv, fr := X.fr } := by simp [onceC, mcells]
    rw [hmc] at q3
    have h9 := h1.set (dm := some w1.heap.size) (fv := X.fv) (fr := X.fr) k3 q3 (fun q e => by cases e; exact g3) (h1.f.kept k3 fun q e => ((Ap.of h1.nd).f q e).1) (fun q e => by cases e; exact .inr ⟨Nat.le_refl _, hfv⟩) (.inl rfl)
    have h10 := (Stp.of_below hb1 (X.fp mb)).trans h9.2
    have HZ := hid (And.intro h9.1 h10)
    clear h h1 hb1 hd hfv hs1 hmc q3 h9 h10 g3 k3 HD H HW
    go_wp2_with fail
    go_ret
    exact ⟨_, rfl, HZ.out.1, HZ.out.2⟩
  | some dm =>
    have c3 : w1.cell? ⟨mb, 3, none⟩ = some (.int .u32 1) := by have := h1.cells.2.2.2.1; rw [hd] at this; exact this
    have c6 : w1.cell? ⟨mb, 6, none⟩ = some (.map (some dm)) := by have := h1.cells.2.2.2.2.2.2.1; rw [hd] at this; exact this
    have HD := hid (fun fv => do_done mb fv w1 c3)
    have hX : { X with dm := some dm } = X := by cases X; simp at hd; simp [hd]
    have H := hid (And.intro h1 (And.intro (Stp.of_below hb1 (X.fp mb)) hX))
    clear h h1 hb1 hd hfv c3 hX
    go_enter Tryz.func22, Tryz.ntmps22
    go_upto_region 1 with (fail)
    rw [← hw1]
    clear hw1
    go_wp2_with (go_at_call 34; refine (HD.out _).mono ?_; rintro e w3 ⟨rfl, rfl⟩)
    go_ret
    refine ⟨dm, rfl, ?_⟩
    rw [H.out.2.2]
    exact ⟨H.out.1, H.out.2.1⟩
end Go.Proofs.YtgkabcaodnofnaaGreat
