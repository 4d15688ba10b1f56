import Derived.Test.YtbklhhmcigangaaU
namespace Go.Proofs.Ytbklhhmcigangaa
open Go.RowKit Go.Mx Go.Lr Go.Maps
set_option linter.unusedVariables false
set_option linter.unusedSimpArgs false
/-- a cache in memory, its blocks not told -/
def HC (w : World) (base p : Nat) (c : CM) : Prop := ∃ m fs, CK w base p m c fs All
theorem HC.below {w w' : World} {base p : Nat} {c : CM} (h : HC w base p c) (hb : Below w.heap.size w w') : HC w' base p c := by
  obtain ⟨m, fs, h⟩ := h; exact ⟨m, fs, h.below hb⟩
theorem HC.base_le {w : World} {base p : Nat} {c : CM} (h : HC w base p c) : base ≤ w.heap.size := by obtain ⟨m, fs, h⟩ := h; exact h.base_le
theorem new_H (r : Nat) (w : World) (h1 : 1 ≤ r) (h2 : r ≤ 1024) : Calls Try.prog 10 #[.int .i64 r] w fun e w' => e = .returned (.tuple #[cp (w.heap.size + 1), .int .i64 0]) ∧ HC w' w.heap.size (w.heap.size + 1) ⟨r, [], 0⟩ ∧ Below w.heap.size w w' :=
  (new_any r w h1 h2).mono fun e w' ⟨he, hc, hb⟩ => ⟨he, ⟨_, _, hc⟩, hb⟩
section
variable {w w' : World} {base p : Nat} {c : CM}
theorem put_H (h : HC w base p c) (k : Int) (hk : isI k) (v : Value) (b : List UInt8) (B : Nat) (hb : SlB w B v b) (hB : B ≤ w.heap.size) (hl : b.length ≤ 1000000) (dirty : Bool) (hu : c.uses ≤ 1000000000) (hr : (Lr.lay c k b dirty).all.length ≤ c.room) (hr2 : c.room ≤ 1000000) :
    Calls Try.prog 13 #[cp p, .int .i64 k, v, .bool dirty] w fun e w' => e = .returned (.slice none 0 0) ∧ HC w' base p (Lr.lay c k b dirty) ∧ Below base w w' := by
  obtain ⟨m, fs, h⟩ := h
  exact (put_room h k hk v b B hb hB hl dirty hu hr hr2).mono fun e w' ⟨he, fs', hc, hs⟩ => ⟨he, ⟨m, fs', hc⟩, hs.bel⟩
theorem after_H (h : HC w base p c) (ok : OkC c) (k f : Int) (hk : isI k) (hf : isI f) {c' : CM} {r : Nat} (hm : afterM c k f = (c', r)) : Calls Try.prog 14 #[cp p, .int .i64 k, .int .i64 f] w fun e w' => e = .returned (.int .i64 r) ∧ HC w' base p c' ∧ Below base w w' := by
  obtain ⟨m, fs, h⟩ := h
  refine (after_any h k f hk hf ok.sm ok.is ok.wgt).mono fun e w' ⟨fs', he, hc, hp, hs⟩ => ?_
  rw [hm] at he hc
  exact ⟨he, ⟨m, fs', hc⟩, hs.bel⟩
theorem flush_H (h : HC w base p c) (ok : OkC c) : Calls Try.prog 15 #[cp p] w fun e w' => ∃ v, e = .returned v ∧ OwnI w' w.heap.size v (flushM c).2 ∧ HC w' base p (flushM c).1 ∧ Below base w w' := by
  obtain ⟨m, fs, h⟩ := h
  exact (flush_any h ok).mono fun e w' ⟨fs', v, he, hc, hp, hs, ho, hf⟩ => ⟨v, he, ho, ⟨m, fs', hc⟩, hs.bel⟩
theorem dirty_H (h : HC w base p c) (hl : c.all.length ≤ 1000000) : Calls Try.prog 16 #[cp p] w fun e w' => ∃ v, e = .returned v ∧ OwnI w' w.heap.size v (dirtyL c.all) ∧ Below w.heap.size w w' := by
  obtain ⟨m, fs, h⟩ := h
  exact dirtyL_any h hl
end
end Go.Proofs.Ytbklhhmcigangaa
