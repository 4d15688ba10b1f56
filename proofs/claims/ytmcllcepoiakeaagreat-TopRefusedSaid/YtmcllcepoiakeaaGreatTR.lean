import Derived.Test.YtmcllcepoiakeaaGreatTP
import Derived.Test.YtmcllcepoiakeaaGreatDP
import Derived.Shelf.SlIter.Nil
import Derived.Shelf.SortM.Plain
import Derived.Shelf.SortM.SortNone
set_option linter.unusedSimpArgs false
set_option linter.unusedVariables false
namespace Go.Proofs.YtmcllcepoiakeaaGreat
open Go.RowKit Go.Mx Go.Proofs.YtmcllcepoiakeaaGreat.Dx Go.Dk
def nmA (i : Nat) : List UInt8 := [UInt8.ofNat (97 + i)]
def bkA (i : Nat) : List UInt8 := if i = 0 then [] else [UInt8.ofNat (96 + i)]
def chn (k : Nat) : List (List UInt8 × List UInt8) := (List.range k).map fun i => (nmA i, bkA i)
def Ch (k : Nat) (gs : List IG) : Prop := gs.map (fun g => (g.nm, g.bk)) = chn k
def ckC (k : Nat) (nm tgt : List UInt8) : Int := ckF (fun s => if s = nm then some tgt else pfind (chn k) s) 9 [nm] 1 tgt
theorem Ch.ck {k : Nat} {gs : List IG} (h : Ch k gs) (nm tgt : List UInt8) : ckG gs nm tgt = ckC k nm tgt := by
  unfold ckG ckC
  congr 1
  funext s
  unfold gat
  rw [gbk_pfind, h]
theorem ck_next : ∀ k, k < 8 → ckC k (nmA k) (bkA k) = 0 := by decide
theorem ck_cycle : ∀ k, k < 9 → ∀ j, j < k → ckC k (nmA 0) (nmA j) = 11 := by decide
theorem ck_deep : ckC 8 [122] (nmA 7) = 10 := by decide
theorem ck_last : ∀ k, k < 8 → 0 < k → ckC k [122] (nmA (k - 1)) = 0 := by decide
theorem Ch.len {k : Nat} {gs : List IG} (h : Ch k gs) : gs.length = k := by
  have := congrArg List.length h; simpa [chn] using this
theorem Ch.names {k : Nat} {gs : List IG} (h : Ch k gs) : gs.map (·.nm) = (List.range k).map nmA := by
  have := congrArg (List.map (·.1)) h
  simpa [chn, List.map_map, Function.comp_def] using this
theorem gpl_names (gs : List IG) : (gpl gs).map (·.1) = gs.map (·.nm) := by rw [gpl, List.map_map]; rfl
theorem Ch.look_none {k : Nat} {gs : List IG} (h : Ch k gs) {s : List UInt8} (hs : ∀ i, i < k → nmA i ≠ s) : Mp.look (gpl gs) s = none := by
  rw [Mp.look_none, gpl_names, h.names]
  intro hm
  obtain ⟨i, hi, he⟩ := List.mem_map.1 hm
  exact hs i (List.mem_range.1 hi) he
theorem Ch.look_some {k : Nat} {gs : List IG} (h : Ch k gs) {i : Nat} (hi : i < k) : ∃ g ∈ gs, g.nm = nmA i ∧ Mp.look (gpl gs) (nmA i) = some g.q := by
  have hm : nmA i ∈ gs.map (·.nm) := by rw [h.names]; exact List.mem_map.2 ⟨i, List.mem_range.2 hi, rfl⟩
  cases hl : Mp.look (gpl gs) (nmA i) with
  | none => rw [Mp.look_none, gpl_names] at hl; exact absurd hm hl
  | some b =>
    obtain ⟨g, hg, h1, h2⟩ := gpl_look hl
    exact ⟨g, hg, h1, by rw [h2]⟩
theorem Ch.snoc {k : Nat} {gs : List IG} (h : Ch k gs) {g : IG} (h1 : g.nm = nmA k) (h2 : g.bk = bkA k) : Ch (k + 1) (gs ++ [g]) := by
  unfold Ch chn at *
  rw [List.map_append, h, List.range_succ, List.map_append]
  simp [h1, h2]
theorem gfl_sum (gs : List IG) : ((gfl gs).map (·.2)).sum = 4 * gs.length := by
  unfold gfl
  rw [List.map_map]
  induction gs with
  | nil => rfl
  | cons g l ih => rw [List.map_cons, List.sum_cons, ih, List.length_cons]; simp [Function.comp]; omega
theorem nmA_ok : ∀ i, i < 8 → 97 ≤ (UInt8.ofNat (97 + i)).toNat ∧ (UInt8.ofNat (97 + i)).toNat ≤ 122 := by decide
theorem nmA_ne : ∀ k, k < 8 → ∀ i, i < k → nmA i ≠ nmA k := by decide
theorem bkA_some : ∀ k, k < 9 → 0 < k → bkA k = nmA (k - 1) := by decide
theorem bkA_ok : ∀ k, k < 9 → bkA k = [] ∨ (0 < k ∧ bkA k = [UInt8.ofNat (96 + k)] ∧ 97 ≤ (UInt8.ofNat (96 + k)).toNat ∧ (UInt8.ofNat (96 + k)).toNat ≤ 122) := by decide
theorem bkOk_A {k : Nat} (hk : k < 9) : BkOk (bkA k) := by
  rcases bkA_ok k hk with h | ⟨_, h1, h2, h3⟩
  · exact .inl h
  · exact .inr ⟨_, h1, h2, h3⟩
theorem do_stepR {w : World} {base p m aa am room L : Nat} {gs : List IG} (h : AR w base p m aa am room L gs) (hr : 36 ≤ room ∧ room ≤ 1048576) (hL : L ≤ 70000) {k : Nat} (hk : k < 8) (hch : Ch k gs) :
    Calls Tryz.prog 5 #[dp aa, .agg (cmdC 1 (nmA k) (bkA k) 0 0 4 nilS)] w fun e w' => e = .returned (rep 0) ∧ ∃ gs', AR w' base p m aa am room (L + 4) gs' ∧ KA base m am aa w w' ∧ Ch (k + 1) gs' := by
  have hl := hch.len
  refine (do_cr h (by omega) (nmA k) (bkA k) trivial (fun r gs' => r = 0 ∧ Ch (k + 1) gs') fun W hW => ?_).mono fun e w' ⟨r, gs', he, h1, h2, h3, h4⟩ => ⟨by rw [he, h3], gs', h1, h2, h4⟩
  have hck := (hch.ck (nmA k) (bkA k)).trans (ck_next k hk)
  have h0 : Mp.look (gpl gs) [UInt8.ofNat (97 + k)] = none := hch.look_none (nmA_ne k hk)
  have hsum : ((gfl gs).map (·.2)).sum + 4 ≤ room := by rw [gfl_sum]; omega
  rcases Nat.eq_zero_or_pos k with e0 | hpos
  · have he : (bkA k).isEmpty = true := by rw [e0]; rfl
    refine (create_go0 hW _ (nmA_ok k hk).1 (nmA_ok k hk).2 (bkA k) he (by omega) h0 hsum (by omega) (by omega)).mono fun e w' hp => ?_
    obtain ⟨he2, g, ha, hg1, hg2, hka⟩ := hp.2 hck
    exact ⟨0, _, he2, ha, hka, rfl, hch.snoc hg1 hg2⟩
  · obtain ⟨g0, hg0, hn0, hl0⟩ := hch.look_some (i := k - 1) (by omega)
    rw [← bkA_some k (by omega) hpos] at hn0 hl0
    refine (create_go1 hW _ (nmA_ok k hk).1 (nmA_ok k hk).2 (bkA k) g0 hg0 hn0 hl0 (bkOk_A (by omega)) (by omega) h0 hsum (by omega) (by omega)).mono fun e w' hp => ?_
    obtain ⟨he2, g, ha, hg1, hg2, hka⟩ := hp.2 hck
    exact ⟨0, _, he2, ha, hka, rfl, hch.snoc hg1 hg2⟩
theorem do_step {w : World} {base p m aa am L : Nat} {gs : List IG} (h : AR w base p m aa am 1048576 L gs) (hL : L ≤ 70000) {k : Nat} (hk : k < 8) (hch : Ch k gs) :
    Calls Tryz.prog 5 #[dp aa, .agg (cmdC 1 (nmA k) (bkA k) 0 0 4 nilS)] w fun e w' => e = .returned (rep 0) ∧ ∃ gs', AR w' base p m aa am 1048576 (L + 4) gs' ∧ KA base m am aa w w' ∧ Ch (k + 1) gs' := do_stepR h (by omega) hL hk hch
theorem z_ok : 97 ≤ (122 : UInt8).toNat ∧ (122 : UInt8).toNat ≤ 122 := by decide
theorem nmA_z : ∀ i, i < 8 → nmA i ≠ [122] := by decide
theorem AR_mono {w : World} {base p m aa am room L L' : Nat} {gs : List IG} (h : AR w base p m aa am room L gs) (hl : L ≤ L') : AR w base p m aa am room L' gs := by
  obtain ⟨dn, hd, ha⟩ := h.ar
  exact ⟨⟨dn, by omega, ha⟩, h.mp, h.im, HG_mono h.hg hl, h.nm, h.ne, h.ba, h.la, h.ls⟩
def none4 : List UInt8 := [110, 111, 110, 101]
theorem nmA_none : ∀ i, i < 8 → nmA i ≠ none4 := by decide
/-- the last create: too deep, or done -/
theorem do_last {w : World} {base p m aa am L : Nat} {gs : List IG} (h : AR w base p m aa am 1048576 L gs) (hL : L ≤ 70000) {k : Nat} (hk : k < 9) (hpos : 0 < k) (hch : Ch k gs) :
    Calls Tryz.prog 5 #[dp aa, .agg (cmdC 1 [122] (nmA (k - 1)) 0 0 4 nilS)] w fun e w' => e = .returned (rep (if k = 8 then 10 else 0)) ∧ KA base m am aa w w' := by
  have hl := hch.len
  refine (do_cr h (by omega) [122] (nmA (k - 1)) trivial (fun r gs' => r = if k = 8 then 10 else 0) fun W hW => ?_).mono fun e w' ⟨r, gs', he, h1, h2, h3⟩ => ⟨by rw [he, h3], h2⟩
  have h0 : Mp.look (gpl gs) [122] = none := hch.look_none fun i hi => nmA_z i (by omega)
  have hsum : ((gfl gs).map (·.2)).sum + 4 ≤ 1048576 := by rw [gfl_sum]; omega
  obtain ⟨g0, hg0, hn0, hl0⟩ := hch.look_some (i := k - 1) (by omega)
  have hbk : BkOk (nmA (k - 1)) := by have := bkOk_A hk; rwa [bkA_some k hk hpos] at this
  refine (create_go1 hW 122 z_ok.1 z_ok.2 (nmA (k - 1)) g0 hg0 hn0 hl0 hbk (by omega) h0 hsum (by omega) (by omega)).mono fun e w' hp => ?_
  by_cases e8 : k = 8
  · subst e8
    have hck : ckG gs [122] (nmA (8 - 1)) = 10 := (hch.ck _ _).trans ck_deep
    rw [hck] at hp
    obtain ⟨he2, hb⟩ := hp.1 (by decide)
    exact ⟨10, gs, he2, AR_mono (hW.below hb) (by omega), KA.of_below hb hW.hg.base_le, rfl⟩
  · have hck := (hch.ck [122] (nmA (k - 1))).trans (ck_last k (by omega) hpos)
    obtain ⟨he2, g, ha, _, _, hka⟩ := hp.2 hck
    exact ⟨0, _, he2, ha, hka, by rw [if_neg e8]⟩
/-- create onto a name that is not there -/
theorem do_z4 {w : World} {base p m aa am L : Nat} {gs : List IG} (h : AR w base p m aa am 1048576 L gs) (hL : L ≤ 70000) {k : Nat} (hk : k < 9) (hch : Ch k gs) :
    Calls Tryz.prog 5 #[dp aa, .agg (cmdC 1 [122] none4 0 0 4 nilS)] w fun e w' => e = .returned (rep 4) ∧ AR w' base p m aa am 1048576 (L + 4) gs ∧ KA base m am aa w w' := by
  have hl := hch.len
  refine (do_cr h (by omega) [122] none4 trivial (fun r gs' => r = 4 ∧ gs' = gs) fun W hW => ?_).mono fun e w' ⟨r, gs', he, h1, h2, h3, h4⟩ => ⟨by rw [he, h3], by rw [← h4]; exact h1, h2⟩
  refine (create_no hW 122 z_ok.1 z_ok.2 none4 (by unfold maxLen; decide) (by omega) (hch.look_none fun i hi => nmA_z i (by omega)) (by decide) (hch.look_none fun i hi => nmA_none i (by omega))).mono fun e w' ⟨he, hb⟩ => ⟨4, gs, he, AR_mono (hW.below hb) (by omega), KA.of_below hb hW.hg.base_le, rfl, rfl⟩
/-- rebase onto itself, or onto what stands upon it -/
theorem do_cyc {w : World} {base p m aa am L : Nat} {gs : List IG} (h : AR w base p m aa am 1048576 L gs) (hL : L ≤ 70000) {k : Nat} (hk : k < 9) (hch : Ch k gs) {j : Nat} (hj : j < k) :
    Calls Tryz.prog 5 #[dp aa, .agg (cmdC 20 (nmA 0) (nmA j) 0 0 0 nilS)] w fun e w' => e = .returned (rep 11) ∧ AR w' base p m aa am 1048576 (L + 1) gs ∧ KA base m am aa w w' := by
  have hl := hch.len
  obtain ⟨g0, hg0, hn0, hl0⟩ := hch.look_some (i := 0) (by omega)
  obtain ⟨g1, hg1, hn1, hl1⟩ := hch.look_some hj
  have hck := (hch.ck (nmA 0) (nmA j)).trans (ck_cycle k hk j hj)
  exact do_rb h (by omega) (nmA 0) (nmA j) (by unfold nmA maxLen; simp) hl0 fun W hW => whole_rb hW (nmA 0) (nmA j) (by unfold nmA maxLen; simp) fun W2 hb => rebased_chk (hW.below hb) (by omega) (nmA 0) (nmA j) (by unfold nmA maxLen; simp) (by unfold nmA maxLen; simp) hl1 hck (by decide)
theorem do_r4 {w : World} {base p m aa am L : Nat} {gs : List IG} (h : AR w base p m aa am 1048576 L gs) (hL : L ≤ 70000) {k : Nat} (hk : k < 9) (hpos : 0 < k) (hch : Ch k gs) :
    Calls Tryz.prog 5 #[dp aa, .agg (cmdC 20 (nmA 0) none4 0 0 0 nilS)] w fun e w' => e = .returned (rep 4) ∧ AR w' base p m aa am 1048576 (L + 1) gs ∧ KA base m am aa w w' := by
  obtain ⟨g0, hg0, hn0, hl0⟩ := hch.look_some (i := 0) hpos
  exact do_rb h (by omega) (nmA 0) none4 (by unfold nmA maxLen; simp) hl0 fun W hW => whole_rb hW (nmA 0) none4 (by unfold nmA maxLen; simp) fun W2 hb => rebased_no (hW.below hb) (nmA 0) none4 (by unfold maxLen; decide) (by decide) (hch.look_none fun i hi => nmA_none i (by omega))
end Go.Proofs.YtmcllcepoiakeaaGreat
namespace Go.Proofs.YtmcllcepoiakeaaGreat.Dx
open Go.RowKit Go.Maps Go.Sort Go.Shelf
def keys32_ren : Go.Shelf.Ren := ⟨fun | 7 => 22 | 10 => 56 | n => n, fun | 23 => 61 | 26 => 9 | 3 => 65 | 28 => 58 | 0 => 0 | 27 => 57 | 33 => 82 | 4 => 4 | n => n, fun | n => n⟩
theorem keys32 : Go.Proofs.SlLaysZ.n7 Tryz.prog keys32_ren where
  mixed := by kernel_rfl
  f7 := ⟨ "maps.Keys[map[string]*matryoshka/disk.file,string,*matryoshka/disk.file]", by decide, Tryz.func22.trans (congrArg some (by kernel_rfl))⟩
  f10 := ⟨ "maps.Keys[map[string]*matryoshka/disk.file,string,*matryoshka/disk.file]$1", by decide, Tryz.func56.trans (congrArg some (by kernel_rfl))⟩
  t0 := Tryz.underlying0
  a0 := Tryz.isAgg0
  z0 := Tryz.sizeOf0
  v0 := Tryz.zeroValue0
  t4 := Tryz.underlying4
  a4 := Tryz.isAgg4
  z4 := Tryz.sizeOf4
  v4 := Tryz.zeroValue4
  t23 := Tryz.underlying61
  a23 := Tryz.isAgg61
  z23 := Tryz.sizeOf61
  v23 := Tryz.zeroValue61
  t26 := Tryz.underlying9
  a26 := Tryz.isAgg9
  z26 := Tryz.sizeOf9
  v26 := Tryz.zeroValue9
  t27 := Tryz.underlying57
  a27 := Tryz.isAgg57
  z27 := Tryz.sizeOf57
  v27 := Tryz.zeroValue57
  t28 := Tryz.underlying58
  a28 := Tryz.isAgg58
  z28 := Tryz.sizeOf58
  v28 := Tryz.zeroValue58
  t33 := Tryz.underlying82
  a33 := Tryz.isAgg82
  z33 := Tryz.sizeOf82
  v33 := Tryz.zeroValue82
def sorted31_ren : Go.Shelf.Ren := ⟨fun | 6 => 17 | 8 => 33 | 9 => 34 | 11 => 67 | 13 => 69 | 12 => 68 | 23 => 148 | 24 => 149 | 14 => 139 | 15 => 140 | 16 => 141 | 17 => 142 | 18 => 143 | 19 => 144 | 20 => 145 | 21 => 146 | 22 => 147 | 25 => 215 | 26 => 216 | 27 => 217 | 28 => 218 | 29 => 219 | 30 => 220 | 31 => 255 | n => n, fun | 26 => 9 | 28 => 58 | 24 => 30 | 0 => 0 | 3 => 3 | 37 => 151 | 48 => 122 | 50 => 252 | 4 => 4 | 40 => 244 | 39 => 243 | 45 => 190 | 5 => 5 | 9 => 9 | 51 => 328 | 55 => 332 | 57 => 382 | 58 => 383 | 33 => 82 | n => n, fun | n => n⟩
theorem sorted31 : Go.Proofs.SlLaysZ.n6 Tryz.prog sorted31_ren where
  mixed := by kernel_rfl
  f6 := ⟨ "slices.Sorted[string]", by decide, Tryz.func17.trans (congrArg some (by kernel_rfl))⟩
  f8 := ⟨ "slices.Collect[string]", by decide, Tryz.func33.trans (congrArg some (by kernel_rfl))⟩
  f11 := ⟨ "slices.AppendSeq[[]string,string]", by decide, Tryz.func67.trans (congrArg some (by kernel_rfl))⟩
  t0 := Tryz.underlying0
  a0 := Tryz.isAgg0
  z0 := Tryz.sizeOf0
  v0 := Tryz.zeroValue0
  t24 := Tryz.underlying30
  a24 := Tryz.isAgg30
  z24 := Tryz.sizeOf30
  v24 := Tryz.zeroValue30
  t26 := Tryz.underlying9
  a26 := Tryz.isAgg9
  z26 := Tryz.sizeOf9
  v26 := Tryz.zeroValue9
  t28 := Tryz.underlying58
  a28 := Tryz.isAgg58
  z28 := Tryz.sizeOf58
  v28 := Tryz.zeroValue58
  i26 := by kernel_rfl
def sort40_ren : Go.Shelf.Ren := ⟨fun | 6 => 34 | 8 => 69 | 9 => 68 | 19 => 148 | 20 => 149 | 21 => 139 | 22 => 140 | 23 => 141 | 24 => 142 | 25 => 143 | 26 => 144 | 27 => 145 | 28 => 146 | 29 => 147 | 36 => 215 | 31 => 216 | 32 => 217 | 37 => 218 | 38 => 219 | 39 => 220 | 41 => 255 | n => n, fun | 27 => 30 | 29 => 9 | 3 => 3 | 32 => 151 | 26 => 30 | 0 => 0 | 44 => 122 | 46 => 252 | 4 => 4 | 36 => 244 | 35 => 243 | 41 => 190 | 5 => 5 | 9 => 9 | 53 => 328 | 57 => 332 | 63 => 382 | 64 => 383 | n => n, fun | n => n⟩
theorem sort40 : Go.Proofs.SlLaysM.n6 Tryz.prog sort40_ren where
  mixed := by kernel_rfl
  f6 := ⟨ "slices.Sort[[]string,string]", by decide, Tryz.func34.trans (congrArg some (by kernel_rfl))⟩
  f8 := Tryz.func69.trans (congrArg some (by kernel_rfl))
  f9 := ⟨ "slices.pdqsortOrdered[string]", by decide, Tryz.func68.trans (congrArg some (by kernel_rfl))⟩
  f19 := Tryz.func148.trans (congrArg some (by kernel_rfl))
  f20 := Tryz.func149.trans (congrArg some (by kernel_rfl))
  f21 := ⟨ "slices.insertionSortOrdered[string]", by decide, Tryz.func139.trans (congrArg some (by kernel_rfl))⟩
  f22 := ⟨ "slices.heapSortOrdered[string]", by decide, Tryz.func140.trans (congrArg some (by kernel_rfl))⟩
  f23 := ⟨ "slices.breakPatternsOrdered[string]", by decide, Tryz.func141.trans (congrArg some (by kernel_rfl))⟩
  f24 := ⟨ "slices.choosePivotOrdered[string]", by decide, Tryz.func142.trans (congrArg some (by kernel_rfl))⟩
  f25 := ⟨ "slices.reverseRangeOrdered[string]", by decide, Tryz.func143.trans (congrArg some (by kernel_rfl))⟩
  f26 := ⟨ "slices.partialInsertionSortOrdered[string]", by decide, Tryz.func144.trans (congrArg some (by kernel_rfl))⟩
  f27 := ⟨ "cmp.Less[string]", by decide, Tryz.func145.trans (congrArg some (by kernel_rfl))⟩
  f28 := ⟨ "slices.partitionEqualOrdered[string]", by decide, Tryz.func146.trans (congrArg some (by kernel_rfl))⟩
  f29 := ⟨ "slices.partitionOrdered[string]", by decide, Tryz.func147.trans (congrArg some (by kernel_rfl))⟩
  f31 := Tryz.func216.trans (congrArg some (by kernel_rfl))
  f32 := Tryz.func217.trans (congrArg some (by kernel_rfl))
  f36 := ⟨ "slices.siftDownOrdered[string]", by decide, Tryz.func215.trans (congrArg some (by kernel_rfl))⟩
  f37 := ⟨ "slices.medianAdjacentOrdered[string]", by decide, Tryz.func218.trans (congrArg some (by kernel_rfl))⟩
  f38 := ⟨ "slices.medianOrdered[string]", by decide, Tryz.func219.trans (congrArg some (by kernel_rfl))⟩
  f39 := ⟨ "cmp.isNaN[string]", by decide, Tryz.func220.trans (congrArg some (by kernel_rfl))⟩
  f41 := ⟨ "slices.order2Ordered[string]", by decide, Tryz.func255.trans (congrArg some (by kernel_rfl))⟩
  t0 := Tryz.underlying0
  a0 := Tryz.isAgg0
  z0 := Tryz.sizeOf0
  v0 := Tryz.zeroValue0
  t3 := Tryz.underlying3
  a3 := Tryz.isAgg3
  z3 := Tryz.sizeOf3
  v3 := Tryz.zeroValue3
  t4 := Tryz.underlying4
  a4 := Tryz.isAgg4
  z4 := Tryz.sizeOf4
  v4 := Tryz.zeroValue4
  t5 := Tryz.underlying5
  a5 := Tryz.isAgg5
  z5 := Tryz.sizeOf5
  v5 := Tryz.zeroValue5
  t9 := Tryz.underlying9
  a9 := Tryz.isAgg9
  z9 := Tryz.sizeOf9
  v9 := Tryz.zeroValue9
  t26 := Tryz.underlying30
  a26 := Tryz.isAgg30
  z26 := Tryz.sizeOf30
  v26 := Tryz.zeroValue30
  t27 := Tryz.underlying30
  a27 := Tryz.isAgg30
  z27 := Tryz.sizeOf30
  v27 := Tryz.zeroValue30
  t29 := Tryz.underlying9
  a29 := Tryz.isAgg9
  z29 := Tryz.sizeOf9
  v29 := Tryz.zeroValue9
  t32 := Tryz.underlying151
  a32 := Tryz.isAgg151
  z32 := Tryz.sizeOf151
  v32 := Tryz.zeroValue151
  t35 := Tryz.underlying243
  a35 := Tryz.isAgg243
  z35 := Tryz.sizeOf243
  v35 := Tryz.zeroValue243
  t36 := Tryz.underlying244
  a36 := Tryz.isAgg244
  z36 := Tryz.sizeOf244
  v36 := Tryz.zeroValue244
  t41 := Tryz.underlying190
  a41 := Tryz.isAgg190
  z41 := Tryz.sizeOf190
  v41 := Tryz.zeroValue190
  t44 := Tryz.underlying122
  a44 := Tryz.isAgg122
  z44 := Tryz.sizeOf122
  v44 := Tryz.zeroValue122
  t46 := Tryz.underlying252
  a46 := Tryz.isAgg252
  z46 := Tryz.sizeOf252
  v46 := Tryz.zeroValue252
  t53 := Tryz.underlying328
  a53 := Tryz.isAgg328
  z53 := Tryz.sizeOf328
  v53 := Tryz.zeroValue328
  t57 := Tryz.underlying332
  a57 := Tryz.isAgg332
  z57 := Tryz.sizeOf332
  v57 := Tryz.zeroValue332
  t63 := Tryz.underlying382
  a63 := Tryz.isAgg382
  z63 := Tryz.sizeOf382
  v63 := Tryz.zeroValue382
  t64 := Tryz.underlying383
  a64 := Tryz.isAgg383
  z64 := Tryz.sizeOf383
  v64 := Tryz.zeroValue383
theorem sorts31 (m : Nat) : AnyZ.SortsIn Tryz.prog sorted31_ren Fence.wide m :=
  ⟨fun blk off cap ss W hH hblk hsz => callsIn_wide.2 (AnyM.slices_Sort_string sort40 blk off cap ss W hH hblk hsz),
   fun p cap W => callsIn_wide.2 (AnyM.slices_Sort_string_none sort40 p cap W)⟩
theorem maps_Keys_32 (mb : Option Nat) (W : World) : CallsIn Fence.wide 5 Tryz.prog 22 #[.map mb] W fun e w' => e = .returned (.func (.func 56) #[] #[.pointer (some ⟨W.heap.size, 0, none⟩)]) ∧ w' = W.alloc (.cells #[.map mb] 61) :=
  AnyZ.keys_in keys32 Fence.wide 5 trivial rfl mb W
set_option maxHeartbeats 1000000 in
theorem slices_Sorted_keys_31_32 {H : Type} (b nn : Nat) (D0 : DataW H) (R : Value → Option (DataW H × List MemPlace)) (w : World) (hown : w.ownsMap Tryz.prog 9 R b nn D0) (hmax : Maps.size D0 ≤ maxLen) (hbytes : Maps.size D0 * 16 ≤ 140737488355328) :
    CallsIn Fence.wide 5 Tryz.prog 17 #[.func (.func 56) #[] #[.pointer (some ⟨w.heap.size, 0, none⟩)]] (w.alloc (.cells #[.map (some b)] 61)) fun e w' => ∃ (v : Value) (ss : List (List UInt8)), e = .returned v ∧ ss.Perm (strKeys D0) ∧
      w'.ownsRow (w.alloc (.cells #[.map (some b)] 61)).heap.size 9 1 v ss.length ((ss.mergeSort (fun x y => decide (x ≤ y))).map encStr) ∧ (v = .slice none 0 0 ↔ ss = []) ∧ Below (w.alloc (.cells #[.map (some b)] 61)).heap.size (w.alloc (.cells #[.map (some b)] 61)) w' := by
  have hbl := hown.lt
  have hseq : SeqGives Fence.wide 2 Tryz.prog 56 #[.pointer (some ⟨w.heap.size, 0, none⟩)] encStr (fun ss => ss.Perm (strKeys D0)) (Maps.size D0) (w.alloc (.cells #[.map (some b)] 61)) :=
    AnyZ.keys_gives (ρ := keys32_ren) { keys32 with } Fence.wide _ trivial rfl (by omega) w.heap.size b nn D0 _ (by simp) (by simp) (by
      obtain ⟨es, clock, hb, Ft, hs, hD⟩ := hown
      exact ⟨es, clock, (Below.heap_alloc _ _ b hbl).trans hb, Ft, hs, hD⟩)
  exact AnyZ.sorted_in sorted31 Fence.wide 5 trivial trivial trivial trivial rfl (by omega) (sorts31 _) (enters_of Tryz.func34 (by kernel_rfl) rfl) 56 #[.pointer (some ⟨w.heap.size, 0, none⟩)] trivial (enters_of Tryz.func56 (by kernel_rfl) rfl) _ _ hmax hbytes _ hseq
open Go.RowKit Go.Mx Go.Mp Go.Dk Go.Maps Go.Sort Go.Shelf
section
variable {w w' : World} {base p m room L : Nat} {fl : FL}
/-- the names of a disk's files, rising -/
def sorted (l : List (List UInt8)) : List (List UInt8) := l.mergeSort fun x y => decide (x ≤ y)
set_option maxHeartbeats 1000000 in
set_option maxRecDepth 100000 in
theorem list_G (h : HG w base p m room fl L) (hlen : fl.length ≤ 1000) :
    Calls Tryz.prog 8 #[dp p] w fun e w' => ∃ v, e = .returned v ∧ OwnV w' w.heap.size 9 v ((sorted (fl.map (·.1))).map encStr) ∧ Below w.heap.size w w' := by
  obtain ⟨d, fs, lv, x, h, g⟩ := h
  obtain ⟨c0, c1, c2, c3, c4, c5⟩ := h.cells
  have e1 : fl.map (·.1) = (plOf fs).map (·.1) := by
    rw [plOf_names, ← g.fl, ← names_fl, h.files, List.map_map]; rfl
  have hpl : (plOf fs).length = fl.length := by
    have := congrArg List.length e1
    simpa using this.symm
  obtain ⟨D, hown, hsz, hnd, hle, hhas, hat⟩ := h.mp
  have hperm : ((plOf fs).map (·.1)).Perm (strKeys D) := by
    refine Collected.perm (left := fun _ => false) ⟨hnd, fun s => ?_⟩ hown (string_keyed Tryz.underlying9) Tryz.underlying9 (fun _ => rfl)
    rw [hhas s]
    have := look_none (plOf fs) s
    cases hl : Mp.look (plOf fs) s with
    | none => rw [hl] at this; simp [this.1 rfl]
    | some b =>
      rw [hl] at this
      simp only [reduceCtorEq, false_iff, Decidable.not_not] at this
      simp [this]
  have hmax : Maps.size D ≤ maxLen := by rw [hsz, hpl]; unfold maxLen; omega
  have hbytes : Maps.size D * 16 ≤ 140737488355328 := by rw [hsz, hpl]; omega
  have HP := hid (And.intro hperm e1)
  have HO := hid hown
  clear h hnd hle hhas hat hsz hperm e1 hown c0 c2 c3 c4 c5
  refine (callsIn_wide (n := 6)).1 ?_
  have hfK : Fence.wide.fn 22 := trivial
  have hfS : Fence.wide.fn 17 := trivial
  refine callsIn_of_wp Tryz.func8 rfl trivial ?_ rfl
  simp only [Tryz.ntmps8, List.size_toArray, List.length_cons, List.length_nil, Nat.reduceAdd, Nat.reduceSub, Array.replicate_succ, Array.replicate_zero, List.push_toArray, List.append_toArray, List.nil_append, List.cons_append]
  gi_wp2_with (first
    | (gi_at_call 22; refine (maps_Keys_32 _ _).mono ?_; rintro e w' ⟨rfl, rfl⟩)
    | (gi_at_call 17; refine (slices_Sorted_keys_31_32 _ _ D _ w HO.out hmax hbytes).mono ?_; rintro e w' ⟨v, ss, rfl, hS, hrow, hnil, hb⟩))
  go_ret
  refine ⟨v, rfl, ?_, ((Below.refl _ w).alloc (Nat.le_refl _) _).trans (hb.mono (by simp))⟩
  have e2 : ss.mergeSort (fun x y => decide (x ≤ y)) = sorted (fl.map (·.1)) := by
    rw [HP.out.2]; exact mergeSort_of_perm (hS.trans HP.out.1.symm)
  rw [e2] at hrow
  unfold OwnV
  have hl : ss.length = ((sorted (fl.map (·.1))).map encStr).length := by
    rw [← e2, List.length_map, (List.mergeSort_perm ss _).length_eq]
  rw [hl] at hrow
  exact ownsRow_base_a hrow (by simp)
end
end Go.Proofs.YtmcllcepoiakeaaGreat.Dx
namespace Go.Proofs.YtmcllcepoiakeaaGreat
open Go.RowKit Go.Mx Go.Proofs.YtmcllcepoiakeaaGreat.Dx Go.Dk
theorem standing_nil (w : World) : Calls Tryz.prog 24 #[nilS] w fun e w' => e = .returned nilS ∧ w = w' := by
  have hln := fun w' => (SlG.nil w w.heap.size 2).len (P := Tryz.prog) (ty := 3) Tryz.underlying70 w'
  go_enter Tryz.func24, Tryz.ntmps24
  go_wp2_with fail
  refine wp_loop_once ?_
  go_wp2_with fail
  go_ret
  exact ⟨rfl, rfl⟩
theorem backs_nil {w : World} {base p m room L : Nat} (hd : HG w base p m room [] L) : Calls Tryz.prog 23 #[dp p] w fun e w' => e = .returned nilS ∧ Below w.heap.size w w' := by
  have HL := hid (list_G hd (by simp))
  clear hd
  go_enter Tryz.func23, Tryz.ntmps23
  go_wp2_with fail
  refine HL.out.mono ?_
  rintro e w1 ⟨v, rfl, ho, hb⟩
  obtain ⟨va, vc, rfl⟩ : ∃ a c, v = .slice a 0 c := by
    have ho2 := ho.2
    rw [show (List.map encStr (sorted (List.map (fun x => x.fst) ([] : FL)))).length = 0 by simp [sorted]] at ho2
    rcases ho2 with ⟨h, _⟩ | ⟨g, cap, cur, h, _⟩
    · exact ⟨_, _, h⟩
    · exact ⟨_, _, h⟩
  have hln : ∀ w', (Builtin.len_ #[30] 3 #[.slice va 0 vc]).run Tryz.prog w' = .ok (.int .i64 0) w' := fun w' => by cases va <;> simp [Builtin.len_, run_underlying Tryz.underlying30, go_sem]
  clear ho
  go_wp2_with fail
  refine wp_loop_once ?_
  go_wp2_with fail
  refine (standing_nil w1).mono ?_
  rintro e w2 ⟨rfl, rfl⟩
  go_wp2_with fail
  go_ret
  exact ⟨rfl, hb⟩
theorem open_any {w : World} {base p m room L : Nat} (hd : HG w base p m room [] L) : Calls Tryz.prog 12 #[dp p] w fun e w' => ∃ aa am, e = .returned (.tuple #[dp aa, .int .i64 0]) ∧ AR w' base p m aa am room L [] ∧ Below w.heap.size w w' := by
  have HP := hid (power_any hd (by simp))
  have HD := hid hd
  have hln := fun w' => (SlG.nil w w.heap.size 2).len (P := Tryz.prog) (ty := 3) Tryz.underlying70 w'
  have hmm := @run_makeMap Tryz.prog
  clear hd
  go_enter Tryz.func12, Tryz.ntmps12
  go_wp2_with fail
  refine HP.out.mono ?_
  rintro e w' ⟨rfl, rfl⟩
  go_wp2_with fail
  refine (backs_nil HD.out).mono ?_
  rintro e w1 ⟨rfl, hb⟩
  have H1 := hid (And.intro hb (HD.out.below hb))
  clear hb
  go_wp2_with fail
  rw [show (min (0 : Int) 16).toNat = 0 by decide]
  have e1 := new2_1 w1 (.map #[] 0) (.cells #[dp p, .map (some w1.heap.size), .int .i64 0] 53)
  have b2 := bel2 w1 (.map #[] 0) (.cells #[dp p, .map (some w1.heap.size), .int .i64 0] 53)
  have hp := (Mp.PM.made (P := Tryz.prog) (k := 9) w1).block (w' := (w1.alloc (.map #[] 0)).alloc (.cells #[dp p, .map (some w1.heap.size), .int .i64 0] 53)) (alloc_old (by simp))
  have hmlt : m < w1.heap.size := by obtain ⟨es, cc, h⟩ := H1.out.2.facts.2.1; exact (Array.getElem?_eq_some_iff.1 h).1
  have hbs := H1.out.2.base_le
  have HA := hid (show AR ((w1.alloc (.map #[] 0)).alloc (.cells #[dp p, .map (some w1.heap.size), .int .i64 0] 53)) base p m (w1.heap.size + 1) w1.heap.size room L [] from
    ⟨⟨0, Nat.zero_le _, e1⟩, hp, fun g hg => (by cases hg), H1.out.2.below b2, fun g hg => (by cases hg), by omega, ⟨hbs, by omega⟩, fun g hg => (by cases hg), fun g hg => (by cases hg)⟩)
  have HB := hid (belT H1.out.1 b2)
  clear e1 b2 hp
  generalize (w1.alloc (.map #[] 0)).alloc (.cells #[dp p, .map (some w1.heap.size), .int .i64 0] 53) = w2 at *
  refine (standing_nil w2).mono ?_
  rintro e w3 ⟨rfl, rfl⟩
  go_wp2_with fail
  refine wp_loop_once ?_
  go_wp2_with fail
  exact bodyPost_ret (v := .tuple #[dp (w1.heap.size + 1), .int .i64 0]) (by simp [results, Tryz.results12, go_sem]) rfl ⟨_, _, rfl, HA.out, HB.out⟩
theorem num7 (n : Int) (w : World) : Calls Tryz.prog 7 #[.int .i64 n] w fun e w' => e = .returned (.int .i64 n) ∧ w = w' := by
  go_enter Tryz.func7, Tryz.ntmps7
  go_wp2
  go_ret
  exact ⟨rfl, rfl⟩
theorem num11 (n : Int) (w : World) : Calls Tryz.prog 11 #[.int .i64 n] w fun e w' => e = .returned (.int .i64 n) ∧ w = w' := by
  go_enter Tryz.func11, Tryz.ntmps11
  go_wp2
  go_ret
  exact ⟨rfl, rfl⟩
theorem empty_any (room : Nat) (w : World) (h1 : 1 ≤ room) (h2 : room ≤ 1048576) : Calls Tryz.prog 4 #[.int .i64 room] w fun e w' => ∃ p m aa am, e = .returned (.tuple #[dp p, dp aa]) ∧ AR w' w.heap.size p m aa am room 0 [] ∧ Below w.heap.size w w' := by
  go_enter Tryz.func4, Tryz.ntmps4
  go_wp2_with fail
  refine (Dx.new_any room w (by omega)).mono ?_
  rintro e w1 ⟨rfl, hd, hb⟩
  have HD := hid (And.intro (HG.empty hd) hb)
  clear hd hb
  go_wp2_with (first | (go_at_call 11; refine (num11 _ _).mono ?_; rintro e w' ⟨rfl, rfl⟩))
  refine (open_any HD.out.1).mono ?_
  rintro e w2 ⟨aa, am, rfl, ha, hb⟩
  have HA := hid (And.intro ha (belT HD.out.2 hb))
  clear ha hb
  go_wp2_with (first | (go_at_call 11; refine (num11 _ _).mono ?_; rintro e w' ⟨rfl, rfl⟩))
  refine bodyPost_ret (v := .tuple #[dp (w.heap.size + 1), dp aa]) (by simp [results, Tryz.results4, go_sem]) rfl ⟨w.heap.size + 1, w.heap.size, aa, am, rfl, ?_, HA.out.2⟩
  have := HA.out.1
  rwa [show ((room : Int)).toNat = room by simp] at this
end Go.Proofs.YtmcllcepoiakeaaGreat
