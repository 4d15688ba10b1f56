import Derived.Test.YtcmfmjmjamfndaaP72
namespace Go.Proofs.Ytcmfmjmjamfndaa
open Go.RowKit Go.Mx Go.Dk
set_option linter.unusedSimpArgs false
set_option linter.unusedVariables false
theorem write_fall {w : World} {base p room left : Nat} {now kept : List Sec} {log : List (Nat × Sec)} (h : H1 w base p (S1 room now kept log left false)) (h1 : SecsOk now) (h2 : SecsOk kept) (h3 : LogOk log) (ss : List Sec) (hs : ∀ s ∈ ss, s.length = 16) (bv : Value) (hst : ∀ w', Fr base w w' → SlB w' w'.heap.size bv ss.flatten)
    (hn1 : now.length + ss.length ≤ 1000) (hf1 : now.length + ss.length ≤ room) (hroom : room ≤ 1048576) (hl1 : 1 ≤ left) (hl2 : left ≤ ss.length) :
    Calls Try.prog 14 #[dp p, fN, .int .i64 now.length, bv] w fun e w' => Fr base w w' ∧ e = .returned (.int .i64 8) ∧ H1 w' base p (S1 room (now ++ ss.take (left - 1)) kept (log ++ idx now.length (ss.take (left - 1))) 0 true) := by
  obtain ⟨fs, m, lv, x, h⟩ := h
  obtain ⟨f, hi, hf⟩ := file_S1 h
  have hn : f.fm.name = [102] := by rw [hf]
  have hw : f.fm.now = now := by rw [hf]
  have := write_any h (small_S1 h1 h2 h3) rfl hi (by rw [hn]; decide) now.length ss bv hst hs (by omega) (by omega) (by rw [used_S1]; show now.length ≤ room; omega) hroom (by show left ≤ _; omega) (by
    show (log.map _).length + _ ≤ _
    rw [List.length_map]; have := h3.1; omega)
  rw [hn] at this
  refine this.mono fun e w' ⟨hfr, hr⟩ => ⟨hfr, ?_⟩
  unfold WRes at hr
  rw [hn, many_fall ss now log left hl1 hl2] at hr
  rcases hr with ⟨_, he, fs', lv', x', hd⟩ | ⟨hnf, _⟩
  · exact ⟨he, _, _, _, _, hd⟩
  · exact absurd (.inr (by rw [used_S1, hw]; show now.length + ss.length + now.length ≤ room + now.length; omega)) hnf
end Go.Proofs.Ytcmfmjmjamfndaa
