import Derived.Test.YtcmfmjmjamfndaaP83
namespace Go.Proofs.Ytcmfmjmjamfndaa
open Go.RowKit Go.Mx Go.Dk
set_option linter.unusedSimpArgs false
set_option linter.unusedVariables false
section
variable {w w' : World} {base p room L : Nat} {fl : FL}
theorem again_G (h : HG w base p room fl L) {i : Nat} {nm : List UInt8} {l : Nat} (hi : fl[i]? = some (nm, l)) (hn1 : 1 ≤ nm.length) (hn2 : nm.length ≤ 16) (hfl : fl.length ≤ 1000) :
    Calls Try.prog 13 #[dp p, nmv nm] w fun e w' => e = .returned (.int .i64 0) ∧ HG w' base p room (fl.set i (nm, 0)) L ∧ Fr base w w' := by
  obtain ⟨d, fs, m, lv, x, h, g⟩ := h
  obtain ⟨f, hf, rfl, rfl⟩ := HG.at h g hi
  refine (create_again h g.small g.off hf hn1 hn2 (by rw [HG.lens h g]; exact hfl)).mono fun e w' ⟨he, ⟨b, lv', hd⟩, hfr⟩ => ⟨he, ⟨_, _, _, _, _, hd, ?_⟩, hfr⟩
  have hlf : (Dk.forget d.log f.fm.name 0).length ≤ d.log.length := List.length_filter_le _ _
  refine ⟨g.room, g.left, g.off, ?_, ⟨?_, ?_, ?_, ?_⟩, ?_⟩
  · rw [← g.fl]; simp [flOf, List.map_set]
  · intro r hr; exact g.small.log r (List.mem_filter.1 hr).1
  · have := g.small.llen; show (Dk.forget d.log f.fm.name 0).length ≤ _; omega
  · intro f' hf'
    rcases List.mem_or_eq_of_mem_set hf' with h1 | h1
    · exact g.small.now _ h1
    · rw [h1]; exact ok_nil
  · intro f' hf'
    rcases List.mem_or_eq_of_mem_set hf' with h1 | h1
    · exact g.small.kept _ h1
    · rw [h1]; exact ok_nil
  · have := g.len; show (Dk.forget d.log f.fm.name 0).length ≤ _; omega
/-- one sector of whatever bytes -/
theorem write_any1 (h : HG w base p room fl L) {i : Nat} {nm : List UInt8} {l : Nat} (hi : fl[i]? = some (nm, l)) (hnl : nm.length ≤ maxLen) (s : Sec) (hs : s.length = 16) (bv : Value) (hst : ∀ w', Fr base w w' → SlB w' w'.heap.size bv s)
    (hur : (fl.map (·.2)).sum ≤ room) (hroom : room ≤ 1048576) (hL : L + 1 ≤ 1000000) :
    Calls Try.prog 14 #[dp p, nmv nm, .int .i64 0, bv] w fun e w' => (∃ c, e = .returned (.int .i64 c)) ∧ Fr base w w' ∧ ∃ l', HG w' base p room (fl.set i (nm, l')) (L + 1) := by
  have hnd := h.nodup
  obtain ⟨d, fs, m, lv, x, h, g⟩ := h
  obtain ⟨f, hf, rfl, rfl⟩ := HG.at h g hi
  have hu : Dk.used d.files = (fl.map (·.2)).sum := by rw [used_fl, g.fl]
  refine Calls.mono (show Calls Try.prog 14 #[dp p, nmv f.fm.name, .int .i64 0, bv] w _ from write_any h g.small g.off hf hnl 0 [s] bv (by simpa using hst) (by simpa using hs) (by simp) (by simp) (by rw [hu, g.room]; exact hur) (by rw [g.room]; exact hroom) (by rw [g.left]; omega) (by have := g.len; simp; omega)) fun e w' ⟨hfr, hr⟩ => ?_
  unfold WRes at hr
  rcases hr with ⟨h1, he, fs', lv', x', hd⟩ | ⟨h1, he, hd⟩
  · obtain ⟨l', hl', hg', hb⟩ := G.many [s] fl L f.fm.now.length d 0 g hnd hi (by simp) (by simpa using hs) (by simpa using hL)
    exact ⟨⟨_, he⟩, hfr, l', _, _, _, _, _, hd, by simpa using hg'⟩
  · refine ⟨⟨_, he⟩, hfr, f.fm.now.length, _, _, _, _, _, hd, ?_⟩
    rw [set_same hi]
    exact ⟨g.room, g.left, g.off, g.fl, g.small, by have := g.len; omega⟩
theorem size_G (h : HG w base p room fl L) {i : Nat} {nm : List UInt8} {l : Nat} (hi : fl[i]? = some (nm, l)) (hnl : nm.length ≤ maxLen) :
    Calls Try.prog 22 #[dp p, nmv nm] w fun e w' => e = .returned (.tuple #[.int .i64 l, .int .i64 0]) ∧ w = w' := by
  obtain ⟨d, fs, m, lv, x, h, g⟩ := h
  obtain ⟨f, hf, rfl, rfl⟩ := HG.at h g hi
  have := size_any h (fun _ => trivial) f.fm.name hnl
  have e : sizeM d f.fm.name = ((f.fm.now.length : Int), 0) := by
    unfold sizeM
    rcases h.who f.fm.name with ⟨hl, _⟩ | ⟨j, f', hj, hjn, _, hfd⟩
    · rw [h.lookAt hf] at hl; cases hl
    · rw [hfd]
      have hnd := h.mp.nodup
      rw [plOf_names] at hnd
      obtain rfl := nodup_at hnd hj hf hjn
      rw [hf] at hj
      cases hj
      rfl
  rw [e] at this
  exact this
end
/-- the names that are made -/
def nmOf (j : Nat) : List UInt8 := [102, UInt8.ofNat (48 + j / 10), UInt8.ofNat (48 + j % 10)]
def jt (turn : Bool) (k t : Nat) : Nat := if turn then k - 1 - t else t
def flI (turn : Bool) (k i : Nat) : FL := (List.range (min i 32)).map fun t => (nmOf (jt turn k t), 0)
theorem nm_inj {a b : Nat} (ha : a < 40) (hb : b < 40) (h : nmOf a = nmOf b) : a = b := by
  unfold nmOf at h
  injection h with _ h
  injection h with h1 h
  injection h with h2 _
  have e1 := congrArg UInt8.toNat h1
  have e2 := congrArg UInt8.toNat h2
  simp only [UInt8.toNat_ofNat'] at e1 e2
  omega
theorem flI_succ {turn : Bool} {k i : Nat} (h : i < 32) : flI turn k (i + 1) = flI turn k i ++ [(nmOf (jt turn k i), 0)] := by
  unfold flI
  rw [show min (i + 1) 32 = min i 32 + 1 by omega, List.range_succ, List.map_append, show min i 32 = i by omega]; rfl
theorem flI_stay {turn : Bool} {k i : Nat} (h : 32 ≤ i) : flI turn k (i + 1) = flI turn k i := by
  unfold flI
  rw [show min (i + 1) 32 = min i 32 by omega]
theorem flI_len (turn : Bool) (k i : Nat) : (flI turn k i).length = min i 32 := by simp [flI]
theorem flI_names (turn : Bool) (k i : Nat) : (flI turn k i).map (·.1) = (List.range (min i 32)).map fun t => nmOf (jt turn k t) := by
  unfold flI; rw [List.map_map]; rfl
theorem jt_lt {turn : Bool} {k t : Nat} (h : t < k) : jt turn k t < k := by unfold jt; split <;> omega
theorem flI_not {turn : Bool} {k i : Nat} (hk : k ≤ 40) (hi : i < k) : nmOf (jt turn k i) ∉ (flI turn k i).map (·.1) := by
  rw [flI_names]
  intro h
  obtain ⟨t, ht, e⟩ := List.mem_map.1 h
  have ht := List.mem_range.1 ht
  have e2 := nm_inj (by have := jt_lt (turn := turn) (show t < k by omega); omega) (by have := jt_lt (turn := turn) hi; omega) e
  unfold jt at e2
  split at e2 <;> omega
theorem flI_nm {turn : Bool} {k i : Nat} {nm : List UInt8} (h : nm ∈ (flI turn k i).map (·.1)) : nm.length = 3 := by
  rw [flI_names] at h
  obtain ⟨t, _, rfl⟩ := List.mem_map.1 h
  rfl
theorem flI_sum (turn : Bool) (k i : Nat) : ((flI turn k i).map (·.2)).sum = 0 := by
  unfold flI
  rw [List.map_map]
  have : ∀ l : List Nat, (l.map ((fun x : List UInt8 × Nat => x.2) ∘ fun t => (nmOf (jt turn k t), 0))).sum = 0 := by
    intro l; induction l with
    | nil => rfl
    | cons a l ih => rw [List.map_cons, List.sum_cons, ih]; rfl
  exact this _
theorem sorted_len (l : List (List UInt8)) : (sorted l).length = l.length := (List.mergeSort_perm l _).length_eq
theorem sorted_mem {l : List (List UInt8)} {x : List UInt8} : x ∈ sorted l ↔ x ∈ l := (List.mergeSort_perm l _).mem_iff
theorem sorted_lt {l : List (List UInt8)} (hn : l.Nodup) (i : Nat) (hi : i + 1 < (sorted l).length) : (sorted l).getD i [] < (sorted l).getD (i + 1) [] := by
  have tr : ∀ a b c : List UInt8, decide (a ≤ b) = true → decide (b ≤ c) = true → decide (a ≤ c) = true := fun a b c h1 h2 => by simp only [decide_eq_true_eq] at *; exact List.le_trans h1 h2
  have to : ∀ a b : List UInt8, (decide (a ≤ b) || decide (b ≤ a)) = true := fun a b => by simp only [Bool.or_eq_true, decide_eq_true_eq]; exact List.le_total a b
  have hp := List.pairwise_iff_getElem.1 (List.pairwise_mergeSort (le := fun x y => decide (x ≤ y)) tr to l) i (i + 1) (by have := hi; unfold sorted at this; omega) hi (by omega)
  have hnd : (sorted l).Nodup := (List.mergeSort_perm l _).nodup_iff.2 hn
  have hne := List.pairwise_iff_getElem.1 hnd i (i + 1) (by omega) hi (by omega)
  simp only [List.getD_eq_getElem?_getD]
  rw [List.getElem?_eq_getElem (show i < (sorted l).length by omega), List.getElem?_eq_getElem hi]
  simp only [Option.getD_some]
  simp only [decide_eq_true_eq] at hp
  refine List.not_le.1 fun h => hne ?_
  exact List.le_antisymm hp h
theorem conv3 (w : World) (x y : UInt8) : (convert 22 9 (.slice (some ⟨w.heap.size, 0, none⟩) 3 3)).run Try.prog (w.alloc (.cells #[.int .u8 102, .int .u8 x.toNat, .int .u8 y.toNat] 5)) = .ok (nmv [102, x, y]) (w.alloc (.cells #[.int .u8 102, .int .u8 x.toNat, .int .u8 y.toNat] 5)) :=
  conv_own (sl_lit w [102, x, y] 5 (by simp [maxLen])) (by simp) _ (Below.refl _ _)
theorem ownV_fr' {w w' : World} {base b : Nat} {e : TypeId} {v : Value} {l : List Value} (h : OwnV w b e v l) (he : e ≠ 59 ∧ e ≠ 65 ∧ e ≠ 71 ∧ e ≠ 73) (hf : Fr base w w') : OwnV w' b e v l := by
  refine ownsRow_kept h hf.kept fun k hk => ?_
  rcases h.2 with ⟨rfl, _⟩ | ⟨g, cap, cur, rfl, _, hg, _⟩
  · cases hk
  · cases hk; exact ⟨_, _, _, hg, he.1, he.2.1, he.2.2.1, he.2.2.2⟩
theorem ownV_at {w : World} {b : Nat} {v : Value} {l : List Value} (h : OwnV w b 9 v l) (hl : 1 ≤ l.length) : ∃ g c, v = .slice (some ⟨g, 0, none⟩) l.length c ∧ (∀ w' (k : IntKind) (i : Nat), i < l.length → (Instr.indexAt 46 v (.int k (i : Int))).run Try.prog w' = .ok (.pointer (some ⟨g, i, none⟩)) w') := by
  rcases h.2 with ⟨rfl, h0⟩ | ⟨g, cap, cur, rfl, _, hg, _⟩
  · omega
  · refine ⟨g, cap, rfl, fun w' k i hi => ?_⟩
    have ht' : Try.prog.underlying 46 = some (.slice (Try.prog.elem 46)) := by rw [Try.underlying46]; simp [Program.elem, Try.underlying46]
    have hel : Try.prog.elem 46 = 9 := by simp [Program.elem, Try.underlying46]
    rw [run_indexAt_slice (h := ht'), if_pos (by omega), hel, show (sizeOf 9).run Try.prog w' = .ok 1 w' by kernel_rfl]
    simp [Result.andThen, Addr.add]
    try omega
end Go.Proofs.Ytcmfmjmjamfndaa
