import Derived.Test.YtpgdncpomacghaaQ7
import Derived.Test.YtpgdncpomacghaaU
namespace Go.Proofs.Ytpgdncpomacghaa
open Go.RowKit Go.Mx Go.Cnt
set_option linter.unusedSimpArgs false
set_option linter.unusedVariables false
theorem two (w : World) (a b : Obj) : Below w.heap.size w ((w.alloc a).alloc b) ∧ ((w.alloc a).alloc b).heap[w.heap.size]? = some a ∧ ((w.alloc a).alloc b).heap[w.heap.size + 1]? = some b ∧ ((w.alloc a).alloc b).heap.size = w.heap.size + 1 + 1 := by
  have h1 : Below (w.heap.size + 1) (w.alloc a) ((w.alloc a).alloc b) := (Below.refl _ _).alloc (by simp) _
  have h3 := alloc_new (w.alloc a) b
  simp only [World.size_alloc] at h3
  exact ⟨((Below.refl _ _).alloc (Nat.le_refl _) _).alloc (by simp) _, (h1.block _ (by omega)).trans (alloc_new w a), h3, by simp⟩
set_option maxRecDepth 100000 in
set_option maxHeartbeats 8000000 in
theorem addShot_any (m : MetaM) (tv sv mv cv : Value) (nm : List UInt8) (hn : nm.length ≤ 1000) (w : World) (hm : IsMeta w w.heap.size m tv sv mv cv) (hs : SmallX m) :
    Calls Try.prog 21 #[metaV m tv sv mv cv, .string ⟨nm.toArray⟩] w (AddP m nm w) := by
  obtain ⟨cl, sz, bk, t, ss, ms, cs⟩ := m
  have hm0 := hm
  obtain ⟨ht, hss, hmp, hcs⟩ := hm
  simp only at ht hss hmp hcs
  unfold metaV
  simp only
  have hls := fun w' => hss.len w' (ty := 3)
  obtain ⟨ta, tn, tc, htv⟩ := ht.shape
  obtain ⟨sa, sn, sc, hsv⟩ : ∃ oa n c, sv = .slice oa n c := by obtain ⟨lvs, _, ⟨oa, cap, h, _⟩, _⟩ := hss; exact ⟨_, _, _, h⟩
  obtain ⟨ma, mn, mc, hmv⟩ : ∃ oa n c, mv = .slice oa n c := by obtain ⟨lvs, _, ⟨oa, cap, h, _⟩, _⟩ := hmp; exact ⟨_, _, _, h⟩
  obtain ⟨ca, cn, cc, hcv⟩ : ∃ oa n c, cv = .slice oa n c := by obtain ⟨oa, cap, h, _⟩ := hcs; exact ⟨_, _, _, h⟩
  subst htv; subst hsv; subst hmv; subst hcv
  have HM := hid (And.intro hm0 (And.intro ht (And.intro hss hs)))
  clear ht hss hmp hcs hs hm0
  obtain ⟨W2, hW2⟩ : ∃ W, W = (w.alloc (.cells #[.int .i64 cl, .int .i64 sz, .string ⟨bk.toArray⟩, .slice ta tn tc, .slice sa sn sc, .slice ma mn mc, .slice ca cn cc] 29)).alloc (.cells #[.int .i64 0, .int .i64 0, .string ⟨#[]⟩, .slice none 0 0, .slice none 0 0, .slice none 0 0, .slice none 0 0] 29) := ⟨_, rfl⟩
  have h2 := two w (.cells #[.int .i64 cl, .int .i64 sz, .string ⟨bk.toArray⟩, .slice ta tn tc, .slice sa sn sc, .slice ma mn mc, .slice ca cn cc] 29) (.cells #[.int .i64 0, .int .i64 0, .string ⟨#[]⟩, .slice none 0 0, .slice none 0 0, .slice none 0 0, .slice none 0 0] 29)
  rw [← hW2] at h2
  have H2 := hid h2
  clear h2
  go_enter Try.func21, Try.ntmps21
  go_wp2_with fail
  rw [← hW2]
  clear hW2
  refine (name_any nm W2 (by omega)).mono ?_
  rintro e w3 ⟨b3, rfl, _, hb3⟩
  have hz2 := H2.out.2.2.2
  have q1 := (hb3.block w.heap.size (by omega)).trans H2.out.2.1
  have q2 := (hb3.block (w.heap.size + 1) (by omega)).trans H2.out.2.2.1
  have hbw3 : Below w.heap.size w w3 := H2.out.1.trans (hb3.mono (by omega))
  have c0 : w3.cell? ⟨w.heap.size, 0, none⟩ = some (.int .i64 cl) := by simp [World.cell?, q1]
  have c1 : w3.cell? ⟨w.heap.size, 1, none⟩ = some (.int .i64 sz) := by simp [World.cell?, q1]
  have c2 : w3.cell? ⟨w.heap.size, 2, none⟩ = some (.string ⟨bk.toArray⟩) := by simp [World.cell?, q1]
  have c3 : w3.cell? ⟨w.heap.size, 3, none⟩ = some (.slice ta tn tc) := by simp [World.cell?, q1]
  have c4 : w3.cell? ⟨w.heap.size, 4, none⟩ = some (.slice sa sn sc) := by simp [World.cell?, q1]
  have c5 : w3.cell? ⟨w.heap.size, 5, none⟩ = some (.slice ma mn mc) := by simp [World.cell?, q1]
  have c6 : w3.cell? ⟨w.heap.size, 6, none⟩ = some (.slice ca cn cc) := by simp [World.cell?, q1]
  have z0 : w3.cell? ⟨w.heap.size + 1, 0, none⟩ = some (.int .i64 0) := by simp only [World.cell?, q2]; rfl
  have z1 : w3.cell? ⟨w.heap.size + 1, 1, none⟩ = some (.int .i64 0) := by simp only [World.cell?, q2]; rfl
  have z2 : w3.cell? ⟨w.heap.size + 1, 2, none⟩ = some (.string ⟨#[]⟩) := by simp only [World.cell?, q2]; rfl
  have z3 : w3.cell? ⟨w.heap.size + 1, 3, none⟩ = some (.slice none 0 0) := by simp only [World.cell?, q2]; rfl
  have z4 : w3.cell? ⟨w.heap.size + 1, 4, none⟩ = some (.slice none 0 0) := by simp only [World.cell?, q2]; rfl
  have z5 : w3.cell? ⟨w.heap.size + 1, 5, none⟩ = some (.slice none 0 0) := by simp only [World.cell?, q2]; rfl
  have z6 : w3.cell? ⟨w.heap.size + 1, 6, none⟩ = some (.slice none 0 0) := by simp only [World.cell?, q2]; rfl
  have fz : ∀ j, w3.frozen? ⟨w.heap.size + 1, j, none⟩ = false := fun j => by simp [World.frozen?, q2]
  have H3 := hid (And.intro q1 (And.intro q2 hbw3))
  clear q1 q2 hbw3 hb3 hz2
  cases b3
  · go_wp2_with fail
    obtain ⟨W9, hW9⟩ : ∃ W, W = (((((((w3.setCell ⟨w.heap.size + 1, 0, none⟩ (.int .i64 0)).setCell ⟨w.heap.size + 1, 1, none⟩ (.int .i64 0)).setCell ⟨w.heap.size + 1, 2, none⟩ (.string ⟨#[]⟩)).setCell ⟨w.heap.size + 1, 3, none⟩ (.slice none 0 0)).setCell ⟨w.heap.size + 1, 4, none⟩ (.slice none 0 0)).setCell ⟨w.heap.size + 1, 5, none⟩ (.slice none 0 0)).setCell ⟨w.heap.size + 1, 6, none⟩ (.slice none 0 0)) := ⟨_, rfl⟩
    obtain ⟨k1, k2, k3⟩ := sets7 _ _ _ _ _ _ _ _ _ _ _ _ _ _ _ _ H3.out.2.1 W9 hW9
    rw [← hW9]
    have y0 : W9.cell? ⟨w.heap.size + 1, 0, none⟩ = some (.int .i64 0) := by simp [World.cell?, k1]
    have y1 : W9.cell? ⟨w.heap.size + 1, 1, none⟩ = some (.int .i64 0) := by simp [World.cell?, k1]
    have y2 : W9.cell? ⟨w.heap.size + 1, 2, none⟩ = some (.string ⟨#[]⟩) := by simp [World.cell?, k1]
    have y3 : W9.cell? ⟨w.heap.size + 1, 3, none⟩ = some (.slice none 0 0) := by simp [World.cell?, k1]
    have y4 : W9.cell? ⟨w.heap.size + 1, 4, none⟩ = some (.slice none 0 0) := by simp [World.cell?, k1]
    have y5 : W9.cell? ⟨w.heap.size + 1, 5, none⟩ = some (.slice none 0 0) := by simp [World.cell?, k1]
    have y6 : W9.cell? ⟨w.heap.size + 1, 6, none⟩ = some (.slice none 0 0) := by simp [World.cell?, k1]
    exact bodyPost_ret (v := .tuple #[.agg #[.int .i64 0, .int .i64 0, .string ⟨#[]⟩, .slice none 0 0, .slice none 0 0, .slice none 0 0, .slice none 0 0], .int .i64 1]) (by simp [results, Try.results21, go_sem, y0, y1, y2, y3, y4, y5, y6]) rfl ⟨_, _, _, _, _, _, _, _, _, _, _, _, _, _, _, _, rfl, k3 _ _ H3.out.2.2 (by omega), fun h => absurd h (by decide)⟩
  clear z0 z1 z2 z3 z4 z5 z6 fz
  go_wp2_with fail
  have hb3s := H3.out.2.2.size
  refine (shot_any _ _ _ _ _ _ _ ss _ w3 ((HM.out.2.2.1.below H3.out.2.2 (Nat.le_refl _)).mono hb3s)).mono ?_
  rintro e w4 ⟨n4, rfl, hb4⟩
  have q1 := (hb4.block _ (blk_lt H3.out.1)).trans H3.out.1
  have q2 := (hb4.block _ (blk_lt H3.out.2.1)).trans H3.out.2.1
  have hbw4 : Below w.heap.size w w4 := H3.out.2.2.trans (hb4.mono hb3s)
  clear c0 c1 c2 c3 c4 c5 c6
  have c0 : w4.cell? ⟨w.heap.size, 0, none⟩ = some (.int .i64 cl) := by simp [World.cell?, q1]
  have c1 : w4.cell? ⟨w.heap.size, 1, none⟩ = some (.int .i64 sz) := by simp [World.cell?, q1]
  have c2 : w4.cell? ⟨w.heap.size, 2, none⟩ = some (.string ⟨bk.toArray⟩) := by simp [World.cell?, q1]
  have c3 : w4.cell? ⟨w.heap.size, 3, none⟩ = some (.slice ta tn tc) := by simp [World.cell?, q1]
  have c4 : w4.cell? ⟨w.heap.size, 4, none⟩ = some (.slice sa sn sc) := by simp [World.cell?, q1]
  have c5 : w4.cell? ⟨w.heap.size, 5, none⟩ = some (.slice ma mn mc) := by simp [World.cell?, q1]
  have c6 : w4.cell? ⟨w.heap.size, 6, none⟩ = some (.slice ca cn cc) := by simp [World.cell?, q1]
  have z0 : w4.cell? ⟨w.heap.size + 1, 0, none⟩ = some (.int .i64 0) := by simp only [World.cell?, q2]; rfl
  have z1 : w4.cell? ⟨w.heap.size + 1, 1, none⟩ = some (.int .i64 0) := by simp only [World.cell?, q2]; rfl
  have z2 : w4.cell? ⟨w.heap.size + 1, 2, none⟩ = some (.string ⟨#[]⟩) := by simp only [World.cell?, q2]; rfl
  have z3 : w4.cell? ⟨w.heap.size + 1, 3, none⟩ = some (.slice none 0 0) := by simp only [World.cell?, q2]; rfl
  have z4 : w4.cell? ⟨w.heap.size + 1, 4, none⟩ = some (.slice none 0 0) := by simp only [World.cell?, q2]; rfl
  have z5 : w4.cell? ⟨w.heap.size + 1, 5, none⟩ = some (.slice none 0 0) := by simp only [World.cell?, q2]; rfl
  have z6 : w4.cell? ⟨w.heap.size + 1, 6, none⟩ = some (.slice none 0 0) := by simp only [World.cell?, q2]; rfl
  have fz : ∀ j, w4.frozen? ⟨w.heap.size + 1, j, none⟩ = false := fun j => by simp [World.frozen?, q2]
  have H4 := hid (And.intro q1 (And.intro q2 hbw4))
  clear q1 q2 hbw4 hb4 hb3s
  by_cases hn4 : 0 ≤ n4
  · have t4 : decide (0 ≤ n4) = true := by simpa using hn4
    go_wp2_with fail
    obtain ⟨W9, hW9⟩ : ∃ W, W = (((((((w4.setCell ⟨w.heap.size + 1, 0, none⟩ (.int .i64 0)).setCell ⟨w.heap.size + 1, 1, none⟩ (.int .i64 0)).setCell ⟨w.heap.size + 1, 2, none⟩ (.string ⟨#[]⟩)).setCell ⟨w.heap.size + 1, 3, none⟩ (.slice none 0 0)).setCell ⟨w.heap.size + 1, 4, none⟩ (.slice none 0 0)).setCell ⟨w.heap.size + 1, 5, none⟩ (.slice none 0 0)).setCell ⟨w.heap.size + 1, 6, none⟩ (.slice none 0 0)) := ⟨_, rfl⟩
    obtain ⟨k1, k2, k3⟩ := sets7 _ _ _ _ _ _ _ _ _ _ _ _ _ _ _ _ H4.out.2.1 W9 hW9
    rw [← hW9]
    have y0 : W9.cell? ⟨w.heap.size + 1, 0, none⟩ = some (.int .i64 0) := by simp [World.cell?, k1]
    have y1 : W9.cell? ⟨w.heap.size + 1, 1, none⟩ = some (.int .i64 0) := by simp [World.cell?, k1]
    have y2 : W9.cell? ⟨w.heap.size + 1, 2, none⟩ = some (.string ⟨#[]⟩) := by simp [World.cell?, k1]
    have y3 : W9.cell? ⟨w.heap.size + 1, 3, none⟩ = some (.slice none 0 0) := by simp [World.cell?, k1]
    have y4 : W9.cell? ⟨w.heap.size + 1, 4, none⟩ = some (.slice none 0 0) := by simp [World.cell?, k1]
    have y5 : W9.cell? ⟨w.heap.size + 1, 5, none⟩ = some (.slice none 0 0) := by simp [World.cell?, k1]
    have y6 : W9.cell? ⟨w.heap.size + 1, 6, none⟩ = some (.slice none 0 0) := by simp [World.cell?, k1]
    exact bodyPost_ret (v := .tuple #[.agg #[.int .i64 0, .int .i64 0, .string ⟨#[]⟩, .slice none 0 0, .slice none 0 0, .slice none 0 0, .slice none 0 0], .int .i64 5]) (by simp [results, Try.results21, go_sem, y0, y1, y2, y3, y4, y5, y6]) rfl ⟨_, _, _, _, _, _, _, _, _, _, _, _, _, _, _, _, rfl, k3 _ _ H4.out.2.2 (by omega), fun h => absurd h (by decide)⟩
  have t4 : decide (0 ≤ n4) = false := by simpa using hn4
  by_cases h8 : 8 ≤ ss.length
  · have t8 : decide ((8 : Int) ≤ (ss.length : Int)) = true := by simp; omega
    go_wp2_with fail
    obtain ⟨W9, hW9⟩ : ∃ W, W = (((((((w4.setCell ⟨w.heap.size + 1, 0, none⟩ (.int .i64 0)).setCell ⟨w.heap.size + 1, 1, none⟩ (.int .i64 0)).setCell ⟨w.heap.size + 1, 2, none⟩ (.string ⟨#[]⟩)).setCell ⟨w.heap.size + 1, 3, none⟩ (.slice none 0 0)).setCell ⟨w.heap.size + 1, 4, none⟩ (.slice none 0 0)).setCell ⟨w.heap.size + 1, 5, none⟩ (.slice none 0 0)).setCell ⟨w.heap.size + 1, 6, none⟩ (.slice none 0 0)) := ⟨_, rfl⟩
    obtain ⟨k1, k2, k3⟩ := sets7 _ _ _ _ _ _ _ _ _ _ _ _ _ _ _ _ H4.out.2.1 W9 hW9
    rw [← hW9]
    have y0 : W9.cell? ⟨w.heap.size + 1, 0, none⟩ = some (.int .i64 0) := by simp [World.cell?, k1]
    have y1 : W9.cell? ⟨w.heap.size + 1, 1, none⟩ = some (.int .i64 0) := by simp [World.cell?, k1]
    have y2 : W9.cell? ⟨w.heap.size + 1, 2, none⟩ = some (.string ⟨#[]⟩) := by simp [World.cell?, k1]
    have y3 : W9.cell? ⟨w.heap.size + 1, 3, none⟩ = some (.slice none 0 0) := by simp [World.cell?, k1]
    have y4 : W9.cell? ⟨w.heap.size + 1, 4, none⟩ = some (.slice none 0 0) := by simp [World.cell?, k1]
    have y5 : W9.cell? ⟨w.heap.size + 1, 5, none⟩ = some (.slice none 0 0) := by simp [World.cell?, k1]
    have y6 : W9.cell? ⟨w.heap.size + 1, 6, none⟩ = some (.slice none 0 0) := by simp [World.cell?, k1]
    exact bodyPost_ret (v := .tuple #[.agg #[.int .i64 0, .int .i64 0, .string ⟨#[]⟩, .slice none 0 0, .slice none 0 0, .slice none 0 0, .slice none 0 0], .int .i64 9]) (by simp [results, Try.results21, go_sem, y0, y1, y2, y3, y4, y5, y6]) rfl ⟨_, _, _, _, _, _, _, _, _, _, _, _, _, _, _, _, rfl, k3 _ _ H4.out.2.2 (by omega), fun h => absurd h (by decide)⟩
  have t8 : decide ((8 : Int) ≤ (ss.length : Int)) = false := by simp; omega
  clear z0 z1 z2 z3 z4 z5 z6 fz
  have hb4s := H4.out.2.2.size
  have HCP := hid (copy_any ⟨cl, sz, bk, t, ss, ms, cs⟩ (.slice ta tn tc) (.slice sa sn sc) (.slice ma mn mc) (.slice ca cn cc) w4 ((HM.out.1.below H4.out.2.2 (Nat.le_refl _)).mono hb4s) HM.out.2.2.2)
  unfold metaV at HCP
  go_wp2_with fail
  refine HCP.out.mono ?_
  rintro e w5 ⟨tv', sv', ma', mn', mc', ca', cn', cc', rfl, hT5, hS5, hb5⟩
  obtain ⟨ta', tn', tc', rfl⟩ := hT5.shape
  obtain ⟨sa', sn', sc', rfl⟩ := hS5.shape
  have q1 := (hb5.block _ (blk_lt H4.out.1)).trans H4.out.1
  have q2 := (hb5.block _ (blk_lt H4.out.2.1)).trans H4.out.2.1
  have hbw5 : Below w.heap.size w w5 := H4.out.2.2.trans (hb5.mono hb4s)
  obtain ⟨Y, hY⟩ : ∃ Y : Array Value, Y = #[.int .i64 cl, .int .i64 sz, .string ⟨bk.toArray⟩, .slice ta' tn' tc', .slice sa' sn' sc', .slice ma' mn' mc', .slice ca' cn' cc'] := ⟨_, rfl⟩
  obtain ⟨W6, hW6⟩ : ∃ W, W = w5.alloc (.cells Y 29) := ⟨_, rfl⟩
  have hal6 : Below w5.heap.size w5 W6 := by rw [hW6]; exact (Below.refl _ _).alloc (Nat.le_refl _) _
  have hlow : w.heap.size + 1 < w5.heap.size := blk_lt q2
  have hsz6 : W6.heap.size = w5.heap.size + 1 := by rw [hW6]; simp
  have qb : W6.heap[w5.heap.size]? = some (.cells Y 29 (0, 0)) := by rw [hW6]; exact alloc_new w5 _
  have p1 := (hal6.block _ (blk_lt q1)).trans q1
  have p2 := (hal6.block _ (blk_lt q2)).trans q2
  have hT6 := (hT5.below hal6).any_base hb4s
  have hS6 := (hS5.below hal6).any_base hb4s
  have hbw6 : Below w.heap.size w W6 := hbw5.trans (hal6.mono (by have := hb5.size; omega))
  obtain ⟨tvs, htv, hrows, htabs⟩ := id hS6
  have hdr : Below W6.heap.size W6 W6.drew := (Below.refl _ _).drew
  have hw6s : w.heap.size ≤ W6.heap.size := hbw6.size
  have HT := hid (tcopy_any t (.slice ta tn tc) W6.drew ((((HM.out.2.1.below hbw6 (Nat.le_refl _)).mono hw6s).below hdr (Nat.le_refl _)).mono hdr.size) HM.out.2.2.2.t)
  have hqY := qb
  rw [hY] at hqY
  have d4 : ∀ W, Below W6.heap.size W6 W → W.cell? ⟨w5.heap.size, 4, none⟩ = some (.slice sa' sn' sc') := fun W h => by
    have h9 := (h.block _ (blk_lt hqY)).trans hqY
    simp [World.cell?, h9]
  have d1 : ∀ W, Below W6.heap.size W6 W → W.cell? ⟨w.heap.size, 1, none⟩ = some (.int .i64 sz) := fun W h => by
    have h9 := (h.block _ (blk_lt p1)).trans p1
    simp [World.cell?, h9]
  have x4 := d4 W6 (Below.refl _ _)
  have x1 := d1 W6 (Below.refl _ _)
  have x3 : W6.cell? ⟨w.heap.size, 3, none⟩ = some (.slice ta tn tc) := by simp [World.cell?, p1]
  have x5 := d4 W6.drew hdr
  have x6 := d1 W6.drew hdr
  have x7 : W6.drew.cell? ⟨w.heap.size, 3, none⟩ = some (.slice ta tn tc) := x3
  have HD := hid (And.intro d4 d1)
  have hzl : (List.zipWith shotC ss tvs).length ≤ 20 := by rw [List.length_zipWith]; have := HM.out.2.2.2.sl; simp only at this; omega
  have hm1 : ((List.zipWith shotC ss tvs).length + 1) * 48 ≤ 140737488355328 := by omega
  have hm2 : (List.zipWith shotC ss tvs).length + 1 ≤ 140737488355328 := by omega
  have HA : Hid (∀ (w7 : World) (c : Array Value), Below W6.heap.size W6 w7 → OwnG (w7.alloc (.cells c 53)) w.heap.size 53 3 (.slice sa' sn' sc') (List.zipWith shotC ss tvs) ∧ w.heap.size ≤ (w7.alloc (.cells c 53)).heap.size ∧ Below W6.heap.size W6 (w7.alloc (.cells c 53))) :=
    hid fun w7 c h => by
      have hb := h.alloc h.size (.cells c 53)
      exact ⟨hrows.below hb (Nat.le_refl _), by have := hb.size; omega, hb⟩
  have HW : Hid (∀ (W w8 : World), Below W6.heap.size W6 W → W.grownBy w8 (Value.slice sa' sn' sc').ownBlock → w8.heap[w5.heap.size]? = some (.cells Y 29 (0, 0)) ∧ w8.heap[w.heap.size + 1]? = W6.heap[w.heap.size + 1]?) :=
    hid fun W w8 hb hg => ⟨(hg.block _ (by have := blk_lt qb; have := hb.size; omega) (fun e => own_not hrows qb (by decide) e.symm)).trans ((hb.block _ (blk_lt qb)).trans qb),
      (hg.block _ (by have := blk_lt p2; have := hb.size; omega) (fun e => own_not hrows p2 (by decide) e.symm)).trans (hb.block _ (blk_lt p2))⟩
  have HQ := hid (And.intro qb (And.intro p2 (And.intro hT6 (And.intro hS6 (And.intro hbw6 (And.intro htv (And.intro hrows (And.intro htabs (And.intro hY hsz6)))))))))
  have hW6' := hW6
  rw [hY] at hW6'
  clear q1 q2 p1 qb hT5 hS5 hb5 hT6 hS6 hal6 hqY d4 d1 htabs hrows htv hbw5 hbw6 hW6 p2 hY HCP
  go_wp2_with fail
  rw [← hW6']
  clear hW6'
  go_region_law (first
    | (refine step_append_g _ (by rfl) (.tmp 24) (.tmp 32) 25 53 _ 3 48 rfl Try.underlying25 Try.info53 rfl (by decide) w.heap.size _ (List.zipWith shotC ss tvs) (by rfl) (HA.out w7 _ hb7).1 w7.heap.size 1 [.string ⟨nm.toArray⟩, .int .i64 sz, .slice ta7 tn7 tc7] (by rfl) rfl (row_cells w7 _ 53) (by intro u hu; simp at hu; rcases hu with rfl | rfl | rfl <;> rfl) hm1 hm2 (HA.out w7 _ hb7).2.1 ?_; intro v8 w8 ho8 hg8 hb8; obtain ⟨va, vn, vc, rfl⟩ := own_shape ho8; obtain ⟨r8, r2⟩ := HW.out _ w8 (HA.out w7 _ hb7).2.2 hg8; have m4 : w8.cell? ⟨w5.heap.size, 4, none⟩ = some (.slice sa' sn' sc') := (by simp [World.cell?, r8, HQ.out.2.2.2.2.2.2.2.2.1]); have mf : w8.frozen? ⟨w5.heap.size, 4, none⟩ = false := (by simp [World.frozen?, r8]))
    | (go_simp; go_wp2_with (go_at_call 36; refine HT.out.mono ?_; rintro e w7 ⟨tv7, rfl, hT7, hb7'⟩; obtain ⟨ta7, tn7, tc7, rfl⟩ := hT7.shape; have hb7 : Below W6.heap.size W6 w7 := hdr.trans hb7'; have y4 := HD.out.1 w7 hb7; have y1 := HD.out.2 w7 hb7; have y5 := HD.out.1 _ (HA.out w7 #[.string ⟨nm.toArray⟩, .int .i64 sz, .slice ta7 tn7 tc7] hb7).2.2; clear hb7')))
  all_goals
    obtain ⟨u1, u2, u3, u4⟩ := shots_snoc (s := ⟨nm, sz, t⟩) HQ.out.2.2.2.1 hw6s HQ.out.1 hb7 hT7 _ tvs HQ.out.2.2.2.2.2.1 HQ.out.2.2.2.2.2.2.1 HQ.out.2.2.2.2.2.2.2.1 ho8 hg8
    have hY := HQ.out.2.2.2.2.2.2.2.2.1
    have r8' := r8
    rw [hY] at r8' u3
    have r2' := r2.trans HQ.out.2.1
    have g0 : w8.cell? ⟨w5.heap.size, 0, none⟩ = some (.int .i64 cl) := by simp [World.cell?, r8']
    have g1 : w8.cell? ⟨w5.heap.size, 1, none⟩ = some (.int .i64 sz) := by simp [World.cell?, r8']
    have g2 : w8.cell? ⟨w5.heap.size, 2, none⟩ = some (.string ⟨bk.toArray⟩) := by simp [World.cell?, r8']
    have g3 : w8.cell? ⟨w5.heap.size, 3, none⟩ = some (.slice ta' tn' tc') := by simp [World.cell?, r8']
    have g5 : w8.cell? ⟨w5.heap.size, 5, none⟩ = some (.slice ma' mn' mc') := by simp [World.cell?, r8']
    have g6 : w8.cell? ⟨w5.heap.size, 6, none⟩ = some (.slice ca' cn' cc') := by simp [World.cell?, r8']
    have K8 : Kept w8 (w8.setCell ⟨w5.heap.size, 4, none⟩ (.slice va vn vc)) (fun q => q ≠ w5.heap.size) := Kept.set w8 _ 4 _ fun h => h rfl
    have hne : w.heap.size + 1 ≠ w5.heap.size := by have := HQ.out.2.2.2.2.2.2.2.2.2; have := hlow; omega
    have s2 := (K8.block _ (blk_lt r2') hne).trans r2'
    have z0 : (w8.setCell ⟨w5.heap.size, 4, none⟩ (.slice va vn vc)).cell? ⟨w.heap.size + 1, 0, none⟩ = some (.int .i64 0) := by simp only [World.cell?, s2]; rfl
    have z1 : (w8.setCell ⟨w5.heap.size, 4, none⟩ (.slice va vn vc)).cell? ⟨w.heap.size + 1, 1, none⟩ = some (.int .i64 0) := by simp only [World.cell?, s2]; rfl
    have z2 : (w8.setCell ⟨w5.heap.size, 4, none⟩ (.slice va vn vc)).cell? ⟨w.heap.size + 1, 2, none⟩ = some (.string ⟨#[]⟩) := by simp only [World.cell?, s2]; rfl
    have z3 : (w8.setCell ⟨w5.heap.size, 4, none⟩ (.slice va vn vc)).cell? ⟨w.heap.size + 1, 3, none⟩ = some (.slice none 0 0) := by simp only [World.cell?, s2]; rfl
    have z4 : (w8.setCell ⟨w5.heap.size, 4, none⟩ (.slice va vn vc)).cell? ⟨w.heap.size + 1, 4, none⟩ = some (.slice none 0 0) := by simp only [World.cell?, s2]; rfl
    have z5 : (w8.setCell ⟨w5.heap.size, 4, none⟩ (.slice va vn vc)).cell? ⟨w.heap.size + 1, 5, none⟩ = some (.slice none 0 0) := by simp only [World.cell?, s2]; rfl
    have z6 : (w8.setCell ⟨w5.heap.size, 4, none⟩ (.slice va vn vc)).cell? ⟨w.heap.size + 1, 6, none⟩ = some (.slice none 0 0) := by simp only [World.cell?, s2]; rfl
    have fz : ∀ j, (w8.setCell ⟨w5.heap.size, 4, none⟩ (.slice va vn vc)).frozen? ⟨w.heap.size + 1, j, none⟩ = false := fun j => by simp [World.frozen?, s2]
    have fy : ∀ j, w8.frozen? ⟨w.heap.size + 1, j, none⟩ = false := fun j => by simp [World.frozen?, r2']
    have hTF : TabO (w8.setCell ⟨w5.heap.size, 4, none⟩ (.slice va vn vc)) w.heap.size (.slice ta' tn' tc') t := HQ.out.2.2.1.kept u2 fun q c e f hq he => ⟨own_not HQ.out.2.2.2.2.2.2.1 hq (by rcases he with rfl | rfl <;> decide), blk_ne hq HQ.out.1 (by rcases he with rfl | rfl <;> decide)⟩
    have HF := hid (And.intro u1 (And.intro hTF (And.intro (HQ.out.2.2.2.2.1.trans (u4 (by have := HQ.out.2.2.2.2.2.2.2.2.2; omega))) s2)))
    clear u1 u2 u3 u4 hTF s2 K8 r8 r8' r2 r2' hT7 ho8 hg8 hb8 hY x1 x3 x4 x5 x6 x7 c0 c1 c2 c3 c4 c5 c6 y4 y1 y5 hdr
    go_wp2_with fail
    obtain ⟨W9, hW9⟩ : ∃ W, W = ((((((((w8.setCell ⟨w5.heap.size, 4, none⟩ (.slice va vn vc)).setCell ⟨w.heap.size + 1, 0, none⟩ (.int .i64 cl)).setCell ⟨w.heap.size + 1, 1, none⟩ (.int .i64 sz)).setCell ⟨w.heap.size + 1, 2, none⟩ (.string ⟨bk.toArray⟩)).setCell ⟨w.heap.size + 1, 3, none⟩ (.slice ta' tn' tc')).setCell ⟨w.heap.size + 1, 4, none⟩ (.slice va vn vc)).setCell ⟨w.heap.size + 1, 5, none⟩ (.slice ma' mn' mc')).setCell ⟨w.heap.size + 1, 6, none⟩ (.slice ca' cn' cc')) := ⟨_, rfl⟩
    obtain ⟨k1, k2, k3⟩ := sets7 _ _ _ _ _ _ _ _ _ _ _ _ _ _ _ _ HF.out.2.2.2 W9 hW9
    rw [← hW9]
    have y0 : W9.cell? ⟨w.heap.size + 1, 0, none⟩ = some (.int .i64 cl) := by simp [World.cell?, k1]
    have y1 : W9.cell? ⟨w.heap.size + 1, 1, none⟩ = some (.int .i64 sz) := by simp [World.cell?, k1]
    have y2 : W9.cell? ⟨w.heap.size + 1, 2, none⟩ = some (.string ⟨bk.toArray⟩) := by simp [World.cell?, k1]
    have y3 : W9.cell? ⟨w.heap.size + 1, 3, none⟩ = some (.slice ta' tn' tc') := by simp [World.cell?, k1]
    have y4 : W9.cell? ⟨w.heap.size + 1, 4, none⟩ = some (.slice va vn vc) := by simp [World.cell?, k1]
    have y5 : W9.cell? ⟨w.heap.size + 1, 5, none⟩ = some (.slice ma' mn' mc') := by simp [World.cell?, k1]
    have y6 : W9.cell? ⟨w.heap.size + 1, 6, none⟩ = some (.slice ca' cn' cc') := by simp [World.cell?, k1]
    exact bodyPost_ret (v := .tuple #[.agg #[.int .i64 cl, .int .i64 sz, .string ⟨bk.toArray⟩, .slice ta' tn' tc', .slice va vn vc, .slice ma' mn' mc', .slice ca' cn' cc'], .int .i64 0]) (by simp [results, Try.results21, go_sem, y0, y1, y2, y3, y4, y5, y6]) rfl
      ⟨_, _, _, _, _, _, _, _, _, _, _, _, _, _, _, _, rfl, k3 _ _ HF.out.2.2.1 (by omega), fun _ =>
        ⟨HF.out.2.1.kept k2 fun q c e f hq he => blk_ne hq HF.out.2.2.2 (by rcases he with rfl | rfl <;> decide), HF.out.1.kept k2 fun q c e f hq he => blk_ne hq HF.out.2.2.2 (by rcases he with rfl | rfl | rfl <;> decide)⟩⟩
end Go.Proofs.Ytpgdncpomacghaa
