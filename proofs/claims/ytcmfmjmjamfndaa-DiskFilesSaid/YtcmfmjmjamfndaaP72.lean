import Derived.Test.YtcmfmjmjamfndaaP71
import Derived.Test.YtcmfmjmjamfndaaP6
namespace Go.Proofs.Ytcmfmjmjamfndaa
open Go.RowKit Go.Mx Go.Dk
def idx : Nat → List Sec → List (Nat × Sec)
  | _, [] => []
  | k, s :: ss => (k, s) :: idx (k + 1) ss
theorem many_fall {room : Nat} {kept : List Sec} : ∀ (ss now : List Sec) (log : List (Nat × Sec)) (left : Nat), 1 ≤ left → left ≤ ss.length →
    Dk.many (S1 room now kept log left false) [102] now.length ss = (S1 room (now ++ ss.take (left - 1)) kept (log ++ idx now.length (ss.take (left - 1))) 0 true, false)
  | [], _, _, left, h1, h2 => by simp at h2; omega
  | s :: ss, now, log, left, h1, h2 => by
    simp only [Dk.many]
    rw [one_S1]
    by_cases hl : left = 1
    · subst hl; simp [idx]
    · obtain ⟨l, rfl⟩ : ∃ l, left = l + 2 := ⟨left - 2, by omega⟩
      have ih := many_fall (room := room) (kept := kept) ss (now ++ [s]) (log ++ [(now.length, s)]) (l + 1) (by omega) (by simp at h2; omega)
      rw [if_neg hl, put_snoc]
      rw [List.length_append] at ih
      simp only [List.length_singleton, Nat.add_sub_cancel, List.append_assoc] at ih
      simp only [Nat.add_sub_cancel, show l + 2 - 1 = l + 1 from rfl, List.take_succ_cons, idx, if_true]
      simpa using ih
end Go.Proofs.Ytcmfmjmjamfndaa
