import Derived.Test.YtcmfmjmjamfndaaP74
namespace Go.Proofs.Ytcmfmjmjamfndaa
open Go.RowKit Go.Mx Go.Dk
theorem crash_fall {w : World} {base p room : Nat} {l : List Sec} (h : H1 w base p (S1 room l [] (idx 0 l) 0 true)) (h1 : SecsOk l) (hl : l.length ≤ 1000) (pv : Value) (hp : ∀ w', Fr base w w' → Picks w' pv (List.replicate l.length true)) :
    Calls Try.prog 18 #[dp p, pv] w fun e w' => e = .returned (.tuple #[]) ∧ H1 w' base p (S1 room l l [] 0 false) ∧ Fr base w w' := by
  have h3 : LogOk (idx 0 l) := ⟨by rw [idx_len]; omega, fun x hx => ⟨by have := (idx_mem l 0 x hx).1; omega, h1.2 _ (idx_mem l 0 x hx).2⟩⟩
  have := crash_S1 h h1 ok_nil h3 pv _ hp (by simp; omega)
  rw [pk1_all _ _ (by rw [idx_len]), show lay [] (idx 0 l) = l from lay_idx l []] at this
  exact this
end Go.Proofs.Ytcmfmjmjamfndaa
