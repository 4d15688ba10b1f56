import Derived.Test.YtpgdncpomacghaaQ5
namespace Go.Proofs.Ytpgdncpomacghaa
open Go.RowKit Go.Mx Go.Cnt
set_option linter.unusedSimpArgs false
set_option linter.unusedVariables false
theorem Try.info53 : (Try.prog.info? 53).map (fun i => (i.zero, i.size, i.bytes)) = some (some (.agg #[.string ⟨#[]⟩, .int .i64 0, .slice none 0 0]), 3, 48) := by kernel_rfl
theorem three (w : World) (a b c : Obj) : Below w.heap.size w (((w.alloc a).alloc b).alloc c) ∧ (((w.alloc a).alloc b).alloc c).heap[w.heap.size]? = some a ∧ (((w.alloc a).alloc b).alloc c).heap[w.heap.size + 1]? = some b ∧
    (((w.alloc a).alloc b).alloc c).heap[w.heap.size + 1 + 1]? = some c ∧ (((w.alloc a).alloc b).alloc c).heap.size = w.heap.size + 1 + 1 + 1 := by
  have h1 : Below (w.heap.size + 1) (w.alloc a) (((w.alloc a).alloc b).alloc c) := ((Below.refl _ _).alloc (by simp) _).alloc (by simp <;> omega) _
  have h2 : Below (w.heap.size + 2) ((w.alloc a).alloc b) (((w.alloc a).alloc b).alloc c) := (Below.refl _ _).alloc (by simp) _
  have h3 := alloc_new (w.alloc a) b
  simp only [World.size_alloc] at h3
  have h4 := alloc_new ((w.alloc a).alloc b) c
  simp only [World.size_alloc] at h4
  exact ⟨(((Below.refl _ _).alloc (Nat.le_refl _) _).alloc (by simp) _).alloc (by simp <;> omega) _, (h1.block _ (by omega)).trans (alloc_new w a), (h2.block _ (by omega)).trans h3, h4, by simp⟩
set_option maxRecDepth 100000 in
set_option maxHeartbeats 4000000 in
theorem copy_any (m : MetaM) (tv sv mv cv : Value) (w : World) (hm : IsMeta w w.heap.size m tv sv mv cv) (hs : SmallX m) :
    Calls Try.prog 35 #[metaV m tv sv mv cv] w fun e w' => ∃ (tv' sv' : Value) (ma : Option Addr) (mn mc : Nat) (ca : Option Addr) (cn cc : Nat), e = .returned (metaV m tv' sv' (.slice ma mn mc) (.slice ca cn cc)) ∧ TabO w' w.heap.size tv' m.t ∧ ShotsO w' w.heap.size sv' m.ss ∧ Below w.heap.size w w' := by
  obtain ⟨cl, sz, bk, t, ss, ms, cs⟩ := m
  obtain ⟨ht, hss, hmp, hcs⟩ := hm
  simp only at ht hss hmp hcs
  unfold metaV
  simp only
  have hls := fun w' => hss.len w' (ty := 3)
  obtain ⟨ta, tn, tc, htv⟩ := ht.shape
  obtain ⟨sa, sn, sc, hsv⟩ : ∃ oa n c, sv = .slice oa n c := by obtain ⟨lvs, _, ⟨oa, cap, h, _⟩, _⟩ := hss; exact ⟨_, _, _, h⟩
  obtain ⟨ma, mn, mc, hmv⟩ : ∃ oa n c, mv = .slice oa n c := by obtain ⟨lvs, _, ⟨oa, cap, h, _⟩, _⟩ := hmp; exact ⟨_, _, _, h⟩
  obtain ⟨ca, cn, cc, hcv⟩ : ∃ oa n c, cv = .slice oa n c := by obtain ⟨oa, cap, h, _⟩ := hcs; exact ⟨_, _, _, h⟩
  subst htv; subst hsv; subst hmv; subst hcv
  have HM := hid (And.intro ht (And.intro hss (And.intro hmp (And.intro hcs hs))))
  clear ht hss hmp hcs hs
  go_enter Try.func35, Try.ntmps35
  obtain ⟨X, hX⟩ : ∃ X : Array Value, X = #[.int .i64 cl, .int .i64 sz, .string ⟨bk.toArray⟩, .slice ta tn tc, .slice sa sn sc, .slice ma mn mc, .slice ca cn cc] := ⟨_, rfl⟩
  obtain ⟨Z, hZ⟩ : ∃ Z : Array Value, Z = #[.int .i64 0, .int .i64 0, .string ⟨#[]⟩, .slice none 0 0, .slice none 0 0, .slice none 0 0, .slice none 0 0] := ⟨_, rfl⟩
  obtain ⟨W3, hW3⟩ : ∃ W, W = ((w.alloc (.cells X 29)).alloc (.cells Z 29)).alloc (.cells X 29) := ⟨_, rfl⟩
  have h3 := three w (.cells X 29) (.cells Z 29) (.cells X 29)
  rw [← hW3] at h3
  have HX := hid (And.intro hX hZ)
  have H3 := hid h3
  clear h3
  rw [hX, hZ] at hW3
  go_wp2_with fail
  rw [← hW3]
  clear hW3 hX hZ
  refine (tcopy_any t (.slice ta tn tc) W3 ((HM.out.1.below H3.out.1 (Nat.le_refl _)).mono (by rw [H3.out.2.2.2.2]; omega)) HM.out.2.2.2.2.t).mono ?_
  rintro e w4 ⟨tv', rfl, hT4, hb4⟩
  obtain ⟨ta', tn', tc', rfl⟩ := hT4.shape
  have hz3 := H3.out.2.2.2.2
  have q1 := (hb4.block w.heap.size (by omega)).trans H3.out.2.1
  have q2 := (hb4.block (w.heap.size + 1) (by omega)).trans H3.out.2.2.1
  have q3 := (hb4.block (w.heap.size + 1 + 1) (by omega)).trans H3.out.2.2.2.1
  have hq3 := q3
  rw [HX.out.1] at hq3
  have e3 : w4.cell? ⟨w.heap.size + 1 + 1, 3, none⟩ = some (.slice ta tn tc) := by simp [World.cell?, hq3]
  have e4 : w4.cell? ⟨w.heap.size + 1 + 1, 4, none⟩ = some (.slice sa sn sc) := by simp [World.cell?, hq3]
  have f3 : ∀ j, w4.frozen? ⟨w.heap.size + 1 + 1, j, none⟩ = false := fun j => by simp [World.frozen?, hq3]
  have q4 := heap_setCell_at' w4 (w.heap.size + 1 + 1) 3 (.slice ta' tn' tc') _ 29 (0, 0) q3
  have q5 := heap_setCell_at' (w4.setCell ⟨w.heap.size + 1 + 1, 3, none⟩ (.slice ta' tn' tc')) (w.heap.size + 1 + 1) 4 (.slice none 0 0) _ 29 (0, 0) q4
  have K4 : Kept w4 ((w4.setCell ⟨w.heap.size + 1 + 1, 3, none⟩ (.slice ta' tn' tc')).setCell ⟨w.heap.size + 1 + 1, 4, none⟩ (.slice none 0 0)) (fun q => q ≠ w.heap.size + 1 + 1) := (Kept.set w4 _ 3 _ fun h => h rfl).trans (Kept.set _ _ 4 _ fun h => h rfl)
  have hS : SRel w ((w4.setCell ⟨w.heap.size + 1 + 1, 3, none⟩ (.slice ta' tn' tc')).setCell ⟨w.heap.size + 1 + 1, 4, none⟩ (.slice none 0 0)) X Z (fun a b => #[.int .i64 cl, .int .i64 sz, .string ⟨bk.toArray⟩, a, b, .slice ma mn mc, .slice ca cn cc]) t ss (.slice ta' tn' tc') (.slice none 0 0) 0 [] := by
    refine ⟨((H3.out.1.trans (hb4.mono (by omega))).setCell (p := ⟨w.heap.size + 1 + 1, 3, none⟩) (by show _ ≤ w.heap.size + 1 + 1; omega) _).setCell (p := ⟨w.heap.size + 1 + 1, 4, none⟩) (by show _ ≤ w.heap.size + 1 + 1; omega) _, (K4.block _ (blk_lt q1) (by omega)).trans q1, (K4.block _ (blk_lt q2) (by omega)).trans q2, ?_, rfl, OwnG.nil _ _ _ _, ?_, fun i hi => absurd hi (by omega)⟩
    · rw [q5, HX.out.1]; rfl
    · exact (hT4.any_base (by omega)).kept K4 fun q c e f hq he => blk_ne hq q3 (by rcases he with rfl | rfl <;> decide)
  have HS := hid hS
  clear hS q1 q2 q3 hq3 q4 q5 K4 hT4 hb4 hz3
  go_wp2_with fail
  go_loopw [4] (fun s4 wr => ∃ (k : Nat) (oa : Option Addr) (on oc : Nat) (tvs : List Value), s4 = .int .i64 k ∧ k ≤ ss.length ∧ SRel w wr X Z (fun a b => #[.int .i64 cl, .int .i64 sz, .string ⟨bk.toArray⟩, a, b, .slice ma mn mc, .slice ca cn cc]) t ss (.slice ta' tn' tc') (.slice oa on oc) k tvs) (fun s4 _ => ss.length - (intOf s4).toNat)
  case atStart => exact ⟨0, _, _, _, _, rfl, by omega, HS.out⟩
  case round =>
    clear e3 e4 f3
    obtain ⟨k, oa, on, oc, tvs, rfl, hk, hS⟩ := hrel
    have hq1 := hS.q1
    rw [HX.out.1] at hq1
    have c4 : wr.cell? ⟨w.heap.size, 4, none⟩ = some (.slice sa sn sc) := by simp [World.cell?, hq1]
    have c5 : wr.cell? ⟨w.heap.size, 5, none⟩ = some (.slice ma mn mc) := by simp [World.cell?, hq1]
    have hq3 := hS.q3
    have HSR := hid hS
    clear hS hq1
    by_cases hlt : k < ss.length
    · obtain ⟨b, o, ti, hbb, hia, d0, d1, d2, htk⟩ := (HM.out.2.1.below HSR.out.bel (Nat.le_refl _)).at k hlt
      have hts := HM.out.2.2.2.2.ss k hlt
      have hsl := HM.out.2.2.2.2.sl
      simp only at hts hsl
      obtain ⟨S, hS⟩ : ∃ S, S = ss.getD k default := ⟨_, rfl⟩
      rw [← hS] at d0 d1 htk hts
      have HSK := hid hS
      clear hS
      obtain ⟨nm, szk, tk⟩ := S
      simp only at d0 d1 htk hts
      obtain ⟨ia, iN, ic, hti⟩ := htk.shape
      subst hti
      have hsb := HSR.out.bel.size
      have hA : Below wr.heap.size wr (wr.alloc (.cells #[.string ⟨nm.toArray⟩, .int .i64 szk, .slice ia iN ic] 53)) := (Below.refl _ _).alloc (Nat.le_refl _) _
      have HT5 := hid (tcopy_any tk (.slice ia iN ic) (wr.alloc (.cells #[.string ⟨nm.toArray⟩, .int .i64 szk, .slice ia iN ic] 53)) (((htk.mono hsb).below hA (Nat.le_refl _)).mono hA.size) hts)
      clear htk hts hq3
      go_wp2_with fail
      refine HT5.out.mono ?_
      rintro e w5 ⟨v1, rfl, hT5, hb5⟩
      obtain ⟨ja, jn, jc, rfl⟩ := hT5.shape
      have hzA : (wr.alloc (.cells #[.string ⟨nm.toArray⟩, .int .i64 szk, .slice ia iN ic] 53)).heap.size = wr.heap.size + 1 := by simp
      rw [hzA] at hT5 hb5
      have q5 : w5.heap[wr.heap.size]? = some (.cells #[.string ⟨nm.toArray⟩, .int .i64 szk, .slice ia iN ic] 53 (0, 0)) := (hb5.block wr.heap.size (by omega)).trans (alloc_new wr _)
      have e0 : w5.cell? ⟨wr.heap.size, 0, none⟩ = some (.string ⟨nm.toArray⟩) := by simp [World.cell?, q5]
      have e1 : w5.cell? ⟨wr.heap.size, 1, none⟩ = some (.int .i64 szk) := by simp [World.cell?, q5]
      have e2 : w5.cell? ⟨wr.heap.size, 2, none⟩ = some (.slice ia iN ic) := by simp [World.cell?, q5]
      have f2 : w5.frozen? ⟨wr.heap.size, 2, none⟩ = false := by simp [World.frozen?, q5]
      obtain ⟨W, hW⟩ : ∃ W, W = w5.setCell ⟨wr.heap.size, 2, none⟩ (.slice ja jn jc) := ⟨_, rfl⟩
      have hWz : W.heap.size = w5.heap.size := by rw [hW]; simp
      have hb5w : Below wr.heap.size wr w5 := hA.trans (hb5.mono (by omega))
      have hbW : Below wr.heap.size wr W := by rw [hW]; exact hb5w.setCell (p := ⟨wr.heap.size, 2, none⟩) (Nat.le_refl _) _
      have hTW : TabO W wr.heap.size (.slice ja jn jc) tk := by
        rw [hW]
        exact (hT5.any_base (by omega)).kept (Kept.set w5 wr.heap.size 2 _ (N := fun q => q ≠ wr.heap.size) fun h => h rfl) fun q c e f hq he => blk_ne hq q5 (by rcases he with rfl | rfl <;> decide)
      have qW := (hbW.block _ (blk_lt HSR.out.q3)).trans HSR.out.q3
      have qw5 := (hb5w.block _ (blk_lt HSR.out.q3)).trans HSR.out.q3
      have i4 : W.cell? ⟨w.heap.size + 1 + 1, 4, none⟩ = some (.slice oa on oc) := by simp [World.cell?, qW]
      have i5 : w5.cell? ⟨w.heap.size + 1 + 1, 4, none⟩ = some (.slice oa on oc) := by simp [World.cell?, qw5]
      have hbZ : Below wr.heap.size wr (W.alloc (.cells #[.string ⟨nm.toArray⟩, .int .i64 szk, .slice ja jn jc] 53)) := hbW.alloc hbW.size _
      have hownZ := HSR.out.own.below hbZ (Nat.le_refl _)
      have hrc := row_cells W [.string ⟨nm.toArray⟩, .int .i64 szk, .slice ja jn jc] 53
      rw [hWz] at hrc
      have hr1 : ∀ u ∈ [Value.string ⟨nm.toArray⟩, .int .i64 szk, .slice ja jn jc], u.oneCell' = true := by intro u hu; simp at hu; rcases hu with rfl | rfl | rfl <;> rfl
      have hzl : (List.zipWith shotC (ss.take k) tvs).length ≤ 20 := by rw [List.length_zipWith, List.length_take]; omega
      have hm1 : ((List.zipWith shotC (ss.take k) tvs).length + 1) * 48 ≤ 140737488355328 := by omega
      have hm2 : (List.zipWith shotC (ss.take k) tvs).length + 1 ≤ 140737488355328 := by omega
      have hBZ : w.heap.size ≤ (W.alloc (.cells #[.string ⟨nm.toArray⟩, .int .i64 szk, .slice ja jn jc] 53)).heap.size := by have := hbZ.size; omega
      have HZ := hid (And.intro hownZ (And.intro hrc (And.intro hbZ hBZ)))
      have HW := hid (And.intro hbW hTW)
      have HS6 : Hid (∀ w6, (W.alloc (.cells #[.string ⟨nm.toArray⟩, .int .i64 szk, .slice ja jn jc] 53)).grownBy w6 (Value.slice oa on oc).ownBlock → w6.cell? ⟨w.heap.size + 1 + 1, 4, none⟩ = some (.slice oa on oc) ∧ w6.frozen? ⟨w.heap.size + 1 + 1, 4, none⟩ = false) :=
        hid fun w6 hg => by
          have h1 := (hg.block (w.heap.size + 1 + 1) (by have := blk_lt HSR.out.q3; have := HZ.out.2.2.1.size; omega) (fun e => own_not HSR.out.own HSR.out.q3 (by decide) e.symm)).trans ((HZ.out.2.2.1.block _ (blk_lt HSR.out.q3)).trans HSR.out.q3)
          exact ⟨by simp [World.cell?, h1], by simp [World.frozen?, h1]⟩
      clear hownZ hrc hbZ hBZ hbW hTW hT5 hb5 hb5w q5 qW qw5 hWz hzA hA HT5
      subst hW
      go_wp2_with (at_builtin; refine append_g _ rfl _ _ 25 53 _ 3 48 rfl Try.underlying25 Try.info53 rfl (by decide) w.heap.size _ (List.zipWith shotC (ss.take k) tvs) rfl HZ.out.1 _ _ [.string ⟨nm.toArray⟩, .int .i64 szk, .slice ja jn jc] rfl rfl HZ.out.2.1 hr1 hm1 hm2 HZ.out.2.2.2 ?_)
      intro v2 w6 ho6 hg6 hb6
      obtain ⟨ya, yn, yc, rfl⟩ := own_shape ho6
      obtain ⟨j4, jf⟩ := HS6.out w6 hg6
      have hst := HSR.out.step hlt HW.out.1 (by rw [← HSK.out]; exact HW.out.2) _ (by rw [← HSK.out]; exact ho6) hg6 rfl
      have HST := hid hst
      clear hst ho6 hg6 hb6 e0 e1 e2 f2 i4 i5 d0 d1 d2
      go_wp2_with fail
      go_roundw
      case rel => exact ⟨k + 1, _, _, _, _, by go_num, by omega, HST.out⟩
      case measure => simp [intOf]; omega
    · obtain rfl : k = ss.length := by omega
      clear hq3
      have hsb := HSR.out.bel.size
      have hq2 := HSR.out.q2
      rw [HX.out.2] at hq2
      have hq1 := HSR.out.q1
      rw [HX.out.1] at hq1
      have hq3 : wr.heap[w.heap.size + 1 + 1]? = some (.cells #[.int .i64 cl, .int .i64 sz, .string ⟨bk.toArray⟩, .slice ta' tn' tc', .slice oa on oc, .slice ma mn mc, .slice ca cn cc] 29 (0, 0)) := HSR.out.q3
      have HQ := hid (And.intro hq1 (And.intro hq2 hq3))
      clear hq1 hq2 hq3
      go_wp2_with fail
      refine (copyMaps_any ms (.slice ma mn mc) wr ((HM.out.2.2.1.below HSR.out.bel (Nat.le_refl _)).mono hsb) HM.out.2.2.2.2.ml HM.out.2.2.2.2.ms).mono ?_
      rintro e w7 ⟨pa, pn, pc, rfl, hb7⟩
      have q1 := (hb7.block _ (blk_lt HQ.out.1)).trans HQ.out.1
      have q2 := (hb7.block _ (blk_lt HQ.out.2.1)).trans HQ.out.2.1
      have q3 := (hb7.block _ (blk_lt HQ.out.2.2)).trans HQ.out.2.2
      have g5 : w7.cell? ⟨w.heap.size + 1 + 1, 5, none⟩ = some (.slice ma mn mc) := by simp [World.cell?, q3]
      have fz7 : w7.frozen? ⟨w.heap.size + 1 + 1, 5, none⟩ = false := by simp [World.frozen?, q3]
      obtain ⟨W7, hW7⟩ : ∃ W, W = w7.setCell ⟨w.heap.size + 1 + 1, 5, none⟩ (.slice pa pn pc) := ⟨_, rfl⟩
      have hz7 : W7.heap.size = w7.heap.size := by rw [hW7]; simp
      have k7 : Kept w7 W7 (fun q => q ≠ w.heap.size + 1 + 1) := by rw [hW7]; exact Kept.set w7 _ 5 _ fun h => h rfl
      have p3 : W7.heap[w.heap.size + 1 + 1]? = some (.cells #[.int .i64 cl, .int .i64 sz, .string ⟨bk.toArray⟩, .slice ta' tn' tc', .slice oa on oc, .slice pa pn pc, .slice ca cn cc] 29 (0, 0)) := by
        rw [hW7]; exact heap_setCell_at' w7 (w.heap.size + 1 + 1) 5 (.slice pa pn pc) _ 29 (0, 0) q3
      have p1 := (k7.block _ (blk_lt q1) (by omega)).trans q1
      have p2 := (k7.block _ (blk_lt q2) (by omega)).trans q2
      have hAl : Below W7.heap.size W7 (W7.alloc (.cells #[] 3)) := (Below.refl _ _).alloc (Nat.le_refl _) _
      have hbW7 : Below w.heap.size w W7 := by rw [hW7]; exact (HSR.out.bel.trans (hb7.mono hsb)).setCell (p := ⟨w.heap.size + 1 + 1, 5, none⟩) (by show _ ≤ w.heap.size + 1 + 1; omega) _
      have c6 : W7.cell? ⟨w.heap.size, 6, none⟩ = some (.slice ca cn cc) := by simp [World.cell?, p1]
      have c6A : (W7.alloc (.cells #[] 3)).cell? ⟨w.heap.size, 6, none⟩ = some (.slice ca cn cc) := (hAl.cell (p := ⟨w.heap.size, 6, none⟩) (blk_lt p1)).trans c6
      have hE1 := OwnG.empty W7 3 1
      rw [hz7] at hE1
      have hE2 : SlG (W7.alloc (.cells #[] 3)) w.heap.size 1 (.slice ca cn cc) (cs.map fun n => [.int .i64 n]) := (SlG.below HM.out.2.2.2.1 hbW7 (Nat.le_refl _)).below hAl hbW7.size
      have hrl : ∀ r ∈ cs.map (fun n => [Value.int .i64 n]), r.length = 1 := by intro r hr; simp at hr; obtain ⟨x, _, rfl⟩ := hr; rfl
      have hone : ∀ r ∈ cs.map (fun n => [Value.int .i64 n]), ∀ u ∈ r, u.oneCell' = true := by intro r hr u hu; simp at hr; obtain ⟨x, _, rfl⟩ := hr; simp at hu; subst hu; rfl
      have hcl := HM.out.2.2.2.2.cl
      simp only at hcl
      have hl1 : (([] : List (List Value)).length + (cs.map fun n => [Value.int .i64 n]).length) * 8 ≤ 140737488355328 := by rw [List.length_map]; simp only [List.length_nil]; omega
      have hl2 : ([] : List (List Value)).length + (cs.map fun n => [Value.int .i64 n]).length ≤ 140737488355328 := by rw [List.length_map]; simp only [List.length_nil]; omega
      have hB : w7.heap.size ≤ (W7.alloc (.cells #[] 3)).heap.size := by rw [World.size_alloc, hz7]; omega
      have k07 : Kept wr W7 (fun q => q ≠ w.heap.size + 1 + 1) := (Kept.of_below hb7 fun _ h _ => h : Kept wr w7 _).trans k7
      have HE := hid (And.intro hE1 (And.intro hE2 (And.intro hrl hone)))
      have HP := hid (And.intro p1 (And.intro p2 (And.intro p3 (And.intro hAl (And.intro hbW7 (And.intro k07 hz7))))))
      clear hE1 hE2 hrl hone p1 p2 p3 hAl hbW7 k7 k07 q1 q2 q3 hb7 c4 c5 hz7 c6
      subst hW7
      go_wp2_with (at_builtin; refine append_sg _ rfl _ _ 27 3 _ 1 8 rfl Try.underlying27 Try.info3 rfl (by decide) w7.heap.size _ [] rfl HE.out.1 w.heap.size _ (cs.map fun n => [.int .i64 n]) rfl HE.out.2.1 HE.out.2.2.1 HE.out.2.2.2 hl1 hl2 hB ?_)
      intro v8 w8 ho8 hg8 hb8
      obtain ⟨ra, rn, rc, rfl⟩ := own_shape ho8
      have hz7 := HP.out.2.2.2.2.2.2
      rw [← hz7] at hb8
      have hb78 := HP.out.2.2.2.1.trans hb8
      have r1 := (hb78.block _ (blk_lt HP.out.1)).trans HP.out.1
      have r2 := (hb78.block _ (blk_lt HP.out.2.1)).trans HP.out.2.1
      have r3 := (hb78.block _ (blk_lt HP.out.2.2.1)).trans HP.out.2.2.1
      have g0 : w8.cell? ⟨w.heap.size + 1 + 1, 0, none⟩ = some (.int .i64 cl) := by simp [World.cell?, r3]
      have g1 : w8.cell? ⟨w.heap.size + 1 + 1, 1, none⟩ = some (.int .i64 sz) := by simp [World.cell?, r3]
      have g2 : w8.cell? ⟨w.heap.size + 1 + 1, 2, none⟩ = some (.string ⟨bk.toArray⟩) := by simp [World.cell?, r3]
      have g3 : w8.cell? ⟨w.heap.size + 1 + 1, 3, none⟩ = some (.slice ta' tn' tc') := by simp [World.cell?, r3]
      have g4 : w8.cell? ⟨w.heap.size + 1 + 1, 4, none⟩ = some (.slice oa on oc) := by simp [World.cell?, r3]
      have g5' : w8.cell? ⟨w.heap.size + 1 + 1, 5, none⟩ = some (.slice pa pn pc) := by simp [World.cell?, r3]
      have g6 : w8.cell? ⟨w.heap.size + 1 + 1, 6, none⟩ = some (.slice ca cn cc) := by simp [World.cell?, r3]
      have fz8 : ∀ j, w8.frozen? ⟨w.heap.size + 1 + 1, j, none⟩ = false := fun j => by simp [World.frozen?, r3]
      have fz2 : ∀ j, w8.frozen? ⟨w.heap.size + 1, j, none⟩ = false := fun j => by simp [World.frozen?, r2]
      have K8 : Kept w8 (w8.setCell ⟨w.heap.size + 1 + 1, 6, none⟩ (.slice ra rn rc)) (fun q => q ≠ w.heap.size + 1 + 1) := Kept.set w8 _ 6 _ fun h => h rfl
      have s2 := (K8.block _ (blk_lt r2) (by omega)).trans r2
      have z0 : (w8.setCell ⟨w.heap.size + 1 + 1, 6, none⟩ (.slice ra rn rc)).cell? ⟨w.heap.size + 1, 0, none⟩ = some (.int .i64 0) := by simp only [World.cell?, s2]; rfl
      have z1 : (w8.setCell ⟨w.heap.size + 1 + 1, 6, none⟩ (.slice ra rn rc)).cell? ⟨w.heap.size + 1, 1, none⟩ = some (.int .i64 0) := by simp only [World.cell?, s2]; rfl
      have z2 : (w8.setCell ⟨w.heap.size + 1 + 1, 6, none⟩ (.slice ra rn rc)).cell? ⟨w.heap.size + 1, 2, none⟩ = some (.string ⟨#[]⟩) := by simp only [World.cell?, s2]; rfl
      have z3 : (w8.setCell ⟨w.heap.size + 1 + 1, 6, none⟩ (.slice ra rn rc)).cell? ⟨w.heap.size + 1, 3, none⟩ = some (.slice none 0 0) := by simp only [World.cell?, s2]; rfl
      have z4 : (w8.setCell ⟨w.heap.size + 1 + 1, 6, none⟩ (.slice ra rn rc)).cell? ⟨w.heap.size + 1, 4, none⟩ = some (.slice none 0 0) := by simp only [World.cell?, s2]; rfl
      have z5 : (w8.setCell ⟨w.heap.size + 1 + 1, 6, none⟩ (.slice ra rn rc)).cell? ⟨w.heap.size + 1, 5, none⟩ = some (.slice none 0 0) := by simp only [World.cell?, s2]; rfl
      have z6 : (w8.setCell ⟨w.heap.size + 1 + 1, 6, none⟩ (.slice ra rn rc)).cell? ⟨w.heap.size + 1, 6, none⟩ = some (.slice none 0 0) := by simp only [World.cell?, s2]; rfl
      have KA : Kept wr (w8.setCell ⟨w.heap.size + 1 + 1, 6, none⟩ (.slice ra rn rc)) (fun q => q ≠ w.heap.size + 1 + 1) := (HP.out.2.2.2.2.2.1.trans (Kept.of_below hb78 fun _ h _ => h)).trans K8
      have hbF : Below w.heap.size w (w8.setCell ⟨w.heap.size + 1 + 1, 6, none⟩ (.slice ra rn rc)) := (HP.out.2.2.2.2.1.trans (hb78.mono HP.out.2.2.2.2.1.size)).setCell (p := ⟨w.heap.size + 1 + 1, 6, none⟩) (by show _ ≤ w.heap.size + 1 + 1; omega) _
      have HF := hid (And.intro KA (And.intro hbF s2))
      clear KA hbF s2 K8 hb78 hb8 hg8 ho8 r1 r2 r3 hz7
      go_wp2_with fail
      obtain ⟨W9, hW9⟩ : ∃ W, W = ((((((((w8.setCell ⟨w.heap.size + 1 + 1, 6, none⟩ (.slice ra rn rc)).setCell ⟨w.heap.size + 1, 0, none⟩ (.int .i64 cl)).setCell ⟨w.heap.size + 1, 1, none⟩ (.int .i64 sz)).setCell ⟨w.heap.size + 1, 2, none⟩ (.string ⟨bk.toArray⟩)).setCell ⟨w.heap.size + 1, 3, none⟩ (.slice ta' tn' tc')).setCell ⟨w.heap.size + 1, 4, none⟩ (.slice oa on oc)).setCell ⟨w.heap.size + 1, 5, none⟩ (.slice pa pn pc)).setCell ⟨w.heap.size + 1, 6, none⟩ (.slice ra rn rc)) := ⟨_, rfl⟩
      obtain ⟨k1, k2, k3⟩ := sets7 _ _ _ _ _ _ _ _ _ _ _ _ _ _ _ _ HF.out.2.2 W9 hW9
      rw [← hW9]
      have y0 : W9.cell? ⟨w.heap.size + 1, 0, none⟩ = some (.int .i64 cl) := by simp [World.cell?, k1]
      have y1 : W9.cell? ⟨w.heap.size + 1, 1, none⟩ = some (.int .i64 sz) := by simp [World.cell?, k1]
      have y2 : W9.cell? ⟨w.heap.size + 1, 2, none⟩ = some (.string ⟨bk.toArray⟩) := by simp [World.cell?, k1]
      have y3 : W9.cell? ⟨w.heap.size + 1, 3, none⟩ = some (.slice ta' tn' tc') := by simp [World.cell?, k1]
      have y4 : W9.cell? ⟨w.heap.size + 1, 4, none⟩ = some (.slice oa on oc) := by simp [World.cell?, k1]
      have y5 : W9.cell? ⟨w.heap.size + 1, 5, none⟩ = some (.slice pa pn pc) := by simp [World.cell?, k1]
      have y6 : W9.cell? ⟨w.heap.size + 1, 6, none⟩ = some (.slice ra rn rc) := by simp [World.cell?, k1]
      have KK : Kept wr W9 (fun q => q ≠ w.heap.size + 1 + 1 ∧ q ≠ w.heap.size + 1) := (Kept.imp' HF.out.1 fun q _ h => h.1).trans (Kept.imp' k2 fun q _ h => h.2)
      have hN : ∀ q c e f, wr.heap[q]? = some (.cells c e f) → (e = 39 ∨ e = 76 ∨ e = 53) → q ≠ w.heap.size + 1 + 1 ∧ q ≠ w.heap.size + 1 := fun q c e f hq he =>
        ⟨blk_ne hq HSR.out.q3 (by rcases he with rfl | rfl | rfl <;> decide), blk_ne hq HSR.out.q2 (by rcases he with rfl | rfl | rfl <;> decide)⟩
      have hSO : ShotsO wr w.heap.size (.slice oa on oc) ss := ⟨tvs, HSR.out.len, by have := HSR.out.own; rwa [List.take_length] at this, HSR.out.tabs⟩
      refine bodyPost_ret (v := .agg #[.int .i64 cl, .int .i64 sz, .string ⟨bk.toArray⟩, .slice ta' tn' tc', .slice oa on oc, .slice pa pn pc, .slice ra rn rc]) (by simp [results, Try.results35, go_sem, y0, y1, y2, y3, y4, y5, y6]) rfl ⟨_, _, _, _, _, _, _, _, rfl, ?_, ?_, ?_⟩
      · exact HSR.out.tab.kept KK fun q c e f hq he => hN q c e f hq (by rcases he with h | h <;> simp [h])
      · exact hSO.kept KK hN
      · exact k3 _ _ HF.out.2.1 (by omega)
end Go.Proofs.Ytpgdncpomacghaa
