import Derived.Test.YtcmfmjmjamfndaaP43
import Derived.Deep.OwnRows
namespace Go.Proofs.Ytcmfmjmjamfndaa
open Go.RowKit Go.Mx Go.Dk
set_option linter.unusedSimpArgs false
set_option linter.unusedVariables false
section
variable {w w' : World} {base p room L : Nat} {fl : FL}
theorem HG.cast {fl' : FL} {L' : Nat} (h : HG w base p room fl L) (e : fl = fl') (hL : L = L') : HG w base p room fl' L' := by rw [← e, ← hL]; exact h
theorem set_same {α : Type} {l : List α} {i : Nat} {y : α} (h : l[i]? = some y) : l.set i y = l := by
  apply List.ext_getElem?
  intro j
  rw [List.getElem?_set]
  split
  · rename_i e; subst e; rw [if_pos (List.getElem?_eq_some_iff.1 h).1, h]
  · rfl
/-- sectors of noughts that there is room for, ahead of the end or right behind it -/
theorem write_Z (h : HG w base p room fl L) {i : Nat} {nm : List UInt8} {l : Nat} (hi : fl[i]? = some (nm, l)) (hnl : nm.length ≤ maxLen) (K : Int) (k n : Nat) (hK : K = k) (bv : Value) (hst : ∀ w', Fr base w w' → SlB w' w'.heap.size bv (List.replicate (16 * n) 0)) (hk : k + n ≤ 65536) (hkl : k ≤ l ∨ 1 ≤ n)
    (hfit : k + n ≤ l ∨ k + n + (fl.map (·.2)).sum ≤ room + l) (hur : (fl.map (·.2)).sum ≤ room) (hroom : room ≤ 1048576) (hL : L + n ≤ 1000000) (NV : Value) (hNV : NV = nmv nm) :
    Calls Try.prog 14 #[dp p, NV, .int .i64 K, bv] w fun e w' => e = .returned (.int .i64 0) ∧ HG w' base p room (fl.set i (nm, max l (k + n))) (L + n) ∧ Fr base w w' := by
  subst hK; subst hNV
  by_cases hn : n = 0
  · subst hn
    obtain ⟨oa, c, hv, _⟩ := hst w (Fr.refl _ _)
    have e : (List.replicate (16 * 0) (0 : UInt8)).length = 0 := by simp
    rw [e] at hv
    subst hv
    refine (write_none h hi hnl k oa c).mono fun e w' ⟨he, hw⟩ => ⟨he, ?_, by rw [← hw]; exact Fr.refl _ _⟩
    rw [← hw, show max l (k + 0) = l by omega, set_same hi]
    exact h
  · refine (write_G h hi hnl k n bv hst hk (by omega) hur hroom hL).mono fun e w' ⟨hf, hr⟩ => ?_
    rcases hr with ⟨_, he, hg⟩ | ⟨hn, _⟩
    · exact ⟨he, hg, hf⟩
    · exact absurd hfit hn
/-- sectors of noughts that there is no room for -/
theorem write_7 (h : HG w base p room fl L) {i : Nat} {nm : List UInt8} {l : Nat} (hi : fl[i]? = some (nm, l)) (hnl : nm.length ≤ maxLen) (K : Int) (k n : Nat) (hK : K = k) (bv : Value) (hst : ∀ w', Fr base w w' → SlB w' w'.heap.size bv (List.replicate (16 * n) 0)) (hk : k + n ≤ 65536) (hn : 1 ≤ n)
    (hfit : ¬ (k + n ≤ l ∨ k + n + (fl.map (·.2)).sum ≤ room + l)) (hur : (fl.map (·.2)).sum ≤ room) (hroom : room ≤ 1048576) (hL : L + n ≤ 1000000) (NV : Value) (hNV : NV = nmv nm) :
    Calls Try.prog 14 #[dp p, NV, .int .i64 K, bv] w fun e w' => e = .returned (.int .i64 7) ∧ HG w' base p room fl L ∧ Fr base w w' := by
  subst hK; subst hNV
  refine (write_G h hi hnl k n bv hst hk hn hur hroom hL).mono fun e w' ⟨hf, hr⟩ => ?_
  rcases hr with ⟨h1, _⟩ | ⟨_, he, hg⟩
  · exact absurd h1 hfit
  · exact ⟨he, hg, hf⟩
end
abbrev aN : Value := .string ⟨#[97]⟩
abbrev bN : Value := .string ⟨#[98]⟩
theorem Try.info5z : (Try.prog.info? 5).map (fun i => (i.zero, i.size, i.bytes)) = some (some (.int .u8 0), 1, 1) := by kernel_rfl
/-- the world behind 'make([]byte, n)' -/
def mk5 (w : World) (n : Nat) : World := w.alloc (.cells (madeCells #[.int .u8 0] n) 5)
theorem run_mk5 (n : Nat) (hn : n ≤ 1000000) (N : Int) (hN : N = (n : Int)) (w : World) : (Instr.makeSlice 22 (.int .i64 N) (.int .i64 N)).run Try.prog w = .ok (.slice (some ⟨w.heap.size, 0, none⟩) n n) (mk5 w n) := by
  subst hN
  exact run_make_row' (P := Try.prog) 22 5 (.int .u8 0) 1 Try.underlying22 Try.info5z rfl .i64 .i64 n (by omega) (by omega) w
theorem mk5_own (w : World) (n : Nat) (hn : n ≤ 1000000) : OwnB (mk5 w n) w.heap.size 5 (.slice (some ⟨w.heap.size, 0, none⟩) n n) (List.replicate n 0) ∧ Below w.heap.size w (mk5 w n) := by
  obtain ⟨i0, hi0, hz0, hz1, hz2⟩ := info_parts Try.info5z
  obtain ⟨w', hrun, r1, r2⟩ := run_make_full (P := Try.prog) w w.heap.size 22 5 i0 _ 1 Try.underlying22 hi0 hz0 hz1 .i64 .i64 n (by rw [hz2]; omega) (by unfold maxLen; omega) (Nat.le_refl _)
  rw [run_mk5 n hn _ rfl w] at hrun
  injection hrun with e1 e2
  subst e2
  refine ⟨?_, ⟨r2.os, r2.tape, r2.output, r2.size, fun k hk => r2.block k hk (by simp)⟩⟩
  unfold OwnB
  have e1 : (madeCells (Value.int .u8 0).cells (n * 1)).toList = (List.replicate n (0 : UInt8)).map u8 := by
    rw [show (Value.int .u8 0).cells = #[Value.int .u8 0] from rfl, toList_madeCells_one]
    simp
  rw [e1] at r1
  simpa using r1
section
variable {w w' : World} {base p room L : Nat} {fl : FL}
theorem write_ZA (h : HG w base p room fl L) {i : Nat} {nm : List UInt8} {l : Nat} (hi : fl[i]? = some (nm, l)) (hnl : nm.length ≤ maxLen) (K : Int) (k n : Nat) (hK : K = k) (hk : k + n ≤ 60000) (hkl : k ≤ l ∨ 1 ≤ n)
    (hfit : k + n ≤ l ∨ k + n + (fl.map (·.2)).sum ≤ room + l) (hur : (fl.map (·.2)).sum ≤ room) (hroom : room ≤ 1048576) (hL : L + n ≤ 1000000) (NV : Value) (hNV : NV = nmv nm) (m : Nat) (hm : m = 16 * n) :
    Calls Try.prog 14 #[dp p, NV, .int .i64 K, .slice (some ⟨w.heap.size, 0, none⟩) m m] (mk5 w m) fun e w' => e = .returned (.int .i64 0) ∧ HG w' base p room (fl.set i (nm, max l (k + n))) (L + n) ∧ Fr base w w' := by
  subst hm
  obtain ⟨ho, hb⟩ := mk5_own w (16 * n) (by omega)
  exact (write_Z (h.below hb) hi hnl K k n hK _ (stab_own ho) (by omega) hkl hfit hur hroom hL NV hNV).mono fun e w' ⟨he, hg, hf⟩ => ⟨he, hg, (Fr.of_below hb h.base_le).trans hf⟩
theorem write_7A (h : HG w base p room fl L) {i : Nat} {nm : List UInt8} {l : Nat} (hi : fl[i]? = some (nm, l)) (hnl : nm.length ≤ maxLen) (K : Int) (k n : Nat) (hK : K = k) (hk : k + n ≤ 60000) (hn : 1 ≤ n)
    (hfit : ¬ (k + n ≤ l ∨ k + n + (fl.map (·.2)).sum ≤ room + l)) (hur : (fl.map (·.2)).sum ≤ room) (hroom : room ≤ 1048576) (hL : L + n ≤ 1000000) (NV : Value) (hNV : NV = nmv nm) (m : Nat) (hm : m = 16 * n) :
    Calls Try.prog 14 #[dp p, NV, .int .i64 K, .slice (some ⟨w.heap.size, 0, none⟩) m m] (mk5 w m) fun e w' => e = .returned (.int .i64 7) ∧ HG w' base p room fl L ∧ Fr base w w' := by
  subst hm
  obtain ⟨ho, hb⟩ := mk5_own w (16 * n) (by omega)
  exact (write_7 (h.below hb) hi hnl K k n hK _ (stab_own ho) (by omega) hn hfit hur hroom hL NV hNV).mono fun e w' ⟨he, hg, hf⟩ => ⟨he, hg, (Fr.of_below hb h.base_le).trans hf⟩
end
end Go.Proofs.Ytcmfmjmjamfndaa
