import Derived.Test.YtgkabcaodnofnaaGreatWS
set_option linter.unusedSimpArgs false
set_option linter.unusedVariables false
namespace Go.Md
/-- an image is flushed, if it was changed -/
def flushedM (M : MM) (n : Bs) : MM := if M.ch n = true then flushM M n else M
def flushedN (M : MM) (n : Bs) : Nat := if M.ch n = true then 1 else 0
end Go.Md
namespace Go.Proofs.YtgkabcaodnofnaaGreat
open Go.RowKit Go.Mx Go.Md
set_option linter.unusedVariables false
set_option linter.unusedSimpArgs false
variable {w w' : World} {base mb : Nat} {M : MM} {X : MX}
theorem MO.chAt (h : MO w base mb M X) (n : Bs) (hn : n.length ≤ maxLen) : (Instr.lookup 58 (.map (some X.hm)) (str n) false).run Tryz.prog w = .ok (.bool (M.ch n)) w := by
  have h1 := h.h.look K9 (t := 58) Tryz.underlying58 zero4 (zd := .lit (.bool false)) rfl n hn
  have h2 : (Mx.look X.cl n).getD (.bool false) = .bool (M.ch n) := by
    rw [h.hc n]
    cases hl : Mx.look X.cl n with
    | none => rfl
    | some v => have := h.ht _ (look_mem hl); simp only at this; rw [this]; rfl
  rw [h2] at h1; exact h1
set_option maxRecDepth 100000 in
set_option maxHeartbeats 1000000 in
/-- function 76 -/
theorem flushed_any (h : MO w base mb M X) (hbase : base ≤ w.heap.size) {x : XI} (hx : x ∈ X.xs) (hl : X.ks.length ≤ 100) (hfl : X.fr.length ≤ 1000000) :
    Calls Tryz.prog 76 #[pt mb, str x.n] w fun e w' => e = .returned (.tuple #[]) ∧ ∃ X', MO w' base mb (flushedM M x.n) X' ∧ X'.am = X.am ∧ X'.xs = X.xs ∧ X'.ks.length ≤ X.ks.length + 1 ∧ X'.fr.length = X.fr.length + flushedN M x.n ∧ X'.dm = X.dm ∧ X'.cl.length ≤ X.cl.length ∧ Stp w w' (X.fp mb) (X'.fp mb) := by
  have c2 := h.cells.2.2.1
  have lk := h.chAt x.n (Nat.le_trans (h.a.nl x hx) (by unfold maxLen; omega))
  have HF := hid (flush_any h hbase hx hl hfl)
  have H := hid h
  obtain ⟨b, hb⟩ : ∃ b, b = M.ch x.n := ⟨_, rfl⟩
  rw [← hb] at lk
  have HB := hid hb
  clear h hb
  go_enter Tryz.func76, Tryz.ntmps76
  cases b
  · have e1 : flushedM M x.n = M := by unfold flushedM; rw [← HB.out]; simp
    have e2 : flushedN M x.n = 0 := by unfold flushedN; rw [← HB.out]; simp
    rw [e1, e2]
    go_wp2_with fail
    go_end0
    exact ⟨rfl, X, H.out, rfl, rfl, Nat.le_succ _, rfl, rfl, Nat.le_refl _, Stp.refl _ _⟩
  · have e1 : flushedM M x.n = flushM M x.n := by unfold flushedM; rw [← HB.out]; simp
    have e2 : flushedN M x.n = 1 := by unfold flushedN; rw [← HB.out]; simp
    rw [e1, e2]
    go_wp2_with (go_at_call 77; refine HF.out.mono ?_; rintro e w5 ⟨rfl, hr⟩)
    go_end0
    exact ⟨rfl, hr⟩
end Go.Proofs.YtgkabcaodnofnaaGreat
