import Derived.Test.YtcmfmjmjamfndaaP81
namespace Go.Proofs.Ytcmfmjmjamfndaa
open Go.RowKit Go.Mx Go.Dk Go.Maps Go.Sort Go.Shelf
set_option linter.unusedSimpArgs false
set_option linter.unusedVariables false
section
variable {w w' : World} {base p room L : Nat} {fl : FL}
/-- the names of a disk's files, rising -/
def sorted (l : List (List UInt8)) : List (List UInt8) := l.mergeSort fun x y => decide (x ≤ y)
set_option maxHeartbeats 1000000 in
set_option maxRecDepth 100000 in
theorem list_G (h : HG w base p room fl L) (hlen : fl.length ≤ 1000) :
    Calls Try.prog 24 #[dp p] w fun e w' => ∃ v, e = .returned v ∧ OwnV w' w.heap.size 9 v ((sorted (fl.map (·.1))).map encStr) ∧ Below w.heap.size w w' := by
  obtain ⟨d, fs, m, lv, x, h, g⟩ := h
  obtain ⟨c0, c1, c2, c3, c4, c5⟩ := h.cells
  have e1 : fl.map (·.1) = (plOf fs).map (·.1) := by
    rw [plOf_names, ← g.fl, ← names_fl, h.files, List.map_map]; rfl
  have hpl : (plOf fs).length = fl.length := by
    have := congrArg List.length e1
    simpa using this.symm
  obtain ⟨D, hown, hsz, hnd, hle, hhas, hat⟩ := h.mp
  have hperm : ((plOf fs).map (·.1)).Perm (strKeys D) := by
    refine Collected.perm (left := fun _ => false) ⟨hnd, fun s => ?_⟩ hown (string_keyed Try.underlying9) Try.underlying9 (fun _ => rfl)
    rw [hhas s]
    have := look_none (plOf fs) s
    cases hl : Mx.look (plOf fs) s with
    | none => rw [hl] at this; simp [this.1 rfl]
    | some b =>
      rw [hl] at this
      simp only [reduceCtorEq, false_iff, Decidable.not_not] at this
      simp [this]
  have hmax : Maps.size D ≤ maxLen := by rw [hsz, hpl]; unfold maxLen; omega
  have hbytes : Maps.size D * 16 ≤ 140737488355328 := by rw [hsz, hpl]; omega
  have HP := hid (And.intro hperm e1)
  have HO := hid hown
  clear h hnd hle hhas hat hsz hperm e1 hown c0 c2 c3 c4 c5
  refine (callsIn_wide (n := 6)).1 ?_
  have hfK : Fence.wide.fn 32 := trivial
  have hfS : Fence.wide.fn 31 := trivial
  refine callsIn_of_wp Try.func24 rfl trivial ?_ rfl
  simp only [Try.ntmps24, List.size_toArray, List.length_cons, List.length_nil, Nat.reduceAdd, Nat.reduceSub, Array.replicate_succ, Array.replicate_zero, List.push_toArray, List.append_toArray, List.nil_append, List.cons_append]
  gi_wp2_with (first
    | (gi_at_call 32; refine (maps_Keys_32 _ _).mono ?_; rintro e w' ⟨rfl, rfl⟩)
    | (gi_at_call 31; refine (slices_Sorted_keys_31_32 _ _ D _ w HO.out hmax hbytes).mono ?_; rintro e w' ⟨v, ss, rfl, hS, hrow, hnil, hb⟩))
  go_ret
  refine ⟨v, rfl, ?_, ((Below.refl _ w).alloc (Nat.le_refl _) _).trans (hb.mono (by simp))⟩
  have e2 : ss.mergeSort (fun x y => decide (x ≤ y)) = sorted (fl.map (·.1)) := by
    rw [HP.out.2]; exact mergeSort_of_perm (hS.trans HP.out.1.symm)
  rw [e2] at hrow
  unfold OwnV
  have hl : ss.length = ((sorted (fl.map (·.1))).map encStr).length := by
    rw [← e2, List.length_map, (List.mergeSort_perm ss _).length_eq]
  rw [hl] at hrow
  exact ownsRow_base_a hrow (by simp)
end
end Go.Proofs.Ytcmfmjmjamfndaa
