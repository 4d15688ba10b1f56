import Derived.Test.YtmcllcepoiakeaaGreatTN
set_option linter.unusedSimpArgs false
set_option linter.unusedVariables false
namespace Go.Proofs.YtmcllcepoiakeaaGreat
open Go.RowKit Go.Mx Go.Proofs.YtmcllcepoiakeaaGreat.Dx Go.Dk
theorem AR.of_create {w w' : World} {base p m aa am room L : Nat} {gs : List IG} (h : AR w base p m aa am room L gs) (hf : Fr base m w w') {g : IG} (hnm : g.nm.length = 1 ∧ BkOk g.bk) (hml : g.ml ≠ am) (hls : g.a = 1 ∧ g.b = 2 ∧ g.c = 21 + g.bk.length)
    (hi : IM w' base p m g.q g.nm g.bk g.a g.b g.c g.s false g.kn g.rd g.ml) (hd : HG w' base p m room (gfl gs ++ [(g.nm, 4)]) (L + 3)) {w2 : World} (hp : Mp.PM Tryz.prog 9 w2 am (gpl gs ++ [(g.nm, g.q)])) (hg : w'.grownBy w2 (some am)) (hz : w2.heap.size = w'.heap.size) :
    AR w2 base p m aa am room (L + 3) (gs ++ [g]) ∧ KA base m am aa w w2 := by
  have hmm := h.hg.facts.2.1
  have hmm' := hd.facts.2.1
  have kp : Kept w' w2 (· ≠ am) := Kept.grown hg fun k hk => by cases hk; simp
  obtain ⟨dn, hdn, ha⟩ := h.ar
  have ha' : w'.heap[aa]? = _ := (hf.keptO none).cells ha (not_map hmm ha) (by decide) (by simp)
  have hne : ∀ {k : Nat} {c : Array Value} {t : TypeId} {fr : Nat × Nat}, w'.heap[k]? = some (.cells c t fr) → k ≠ am := fun {k c t fr} hc e => by
    obtain ⟨es, ck, h2⟩ := h.mp.isMap
    have h3 : w'.heap[am]? = w.heap[am]? := hf.kept.block am h.mp.lt ⟨h.ne, fun c t fr e => by rw [h2] at e; cases e⟩
    rw [← e, hc, e, h2] at h3; cases h3
  have him : ∀ x ∈ gs ++ [g], IM w' base p m x.q x.nm x.bk x.a x.b x.c x.s false x.kn x.rd x.ml := fun g' hg' => by
    rcases List.mem_append.1 hg' with h1 | h1
    · exact (h.im g' h1).fr hf hmm
    · rw [List.mem_singleton.1 h1]; exact hi
  have hKA : KA base m am aa w w2 := ⟨hf.bel.grown hg (Nat.le_trans h.hg.base_le hf.bel.size) fun k hk => by cases hk; exact h.ba.1, ⟨by rw [hz]; exact hf.kept.size, fun k hk hF => (kp.block k (Nat.lt_of_lt_of_le hk hf.kept.size) hF.2.1).trans (hf.kept.block k hk hF.1)⟩⟩
  refine ⟨⟨⟨dn, by omega, (kp.block _ (blk_lt ha') (hne ha')).trans ha'⟩, ?_, fun g' hg' => ?_, ?_, fun g' hg' => ?_, h.ne, h.ba, fun g' hg' => ?_, fun g' hg' => ?_⟩, hKA⟩
  · have e : gpl (gs ++ [g]) = gpl gs ++ [(g.nm, g.q)] := by simp [gpl]
    rw [e]; exact hp
  · have hI := him g' hg'
    refine ⟨(kp.block _ (blk_lt hI.im) (hne hI.im)).trans hI.im, (kp.block _ (blk_lt hI.ki) (hne hI.ki)).trans hI.ki, (kp.block _ (blk_lt hI.ri) (hne hI.ri)).trans hI.ri, hI.pm.block (kp.block _ hI.pm.lt ?_), hI.ne, hI.bs⟩
    rcases List.mem_append.1 hg' with h1 | h1
    · exact h.la g' h1
    · rw [List.mem_singleton.1 h1]; exact hml
  · have e : gfl (gs ++ [g]) = gfl gs ++ [(g.nm, 4)] := by simp [gfl]
    rw [e]
    exact HG.kept hd kp fun k hF e => hF (by subst e; exact ⟨h.ne, fun c t fr e => absurd rfl (hne e)⟩)
  · rcases List.mem_append.1 hg' with h1 | h1
    · exact h.nm g' h1
    · rw [List.mem_singleton.1 h1]; exact hnm
  · rcases List.mem_append.1 hg' with h1 | h1
    · exact h.la g' h1
    · rw [List.mem_singleton.1 h1]; exact hml
  · rcases List.mem_append.1 hg' with h1 | h1
    · exact h.ls g' h1
    · rw [List.mem_singleton.1 h1]; exact hls
-- CREATE 0
set_option maxRecDepth 100000 in
set_option maxHeartbeats 4000000 in
theorem create_go0 {w : World} {base p m aa am room L : Nat} {gs : List IG} (h : AR w base p m aa am room L gs) (c : UInt8) (hc1 : 97 ≤ c.toNat) (hc2 : c.toNat ≤ 122) (tgt : List UInt8) (hemp : tgt.isEmpty = true) (hgl : gs.length < 16)
    (hl0 : Mp.look (gpl gs) [c] = none) (hur : ((gfl gs).map (·.2)).sum + 4 ≤ room) (hroom : room ≤ 1048576) (hL : L ≤ 80000) : Calls Tryz.prog 16 #[dp aa, .agg (cmdC 1 [c] tgt 0 0 4 nilS)] w fun e w' =>
      (ckG gs [c] tgt ≠ 0 → e = .returned (.int .i64 (ckG gs [c] tgt)) ∧ Below w.heap.size w w') ∧
      (ckG gs [c] tgt = 0 → e = .returned (.int .i64 0) ∧ ∃ g : IG, AR w' base p m aa am room (L + 3) (gs ++ [g]) ∧ g.nm = [c] ∧ g.bk = tgt ∧ KA base m am aa w w') := by
  have hbk : BkOk tgt := .inl (by cases tgt with | nil => rfl | cons a l => cases hemp)
  have ht : tgt.length ≤ maxLen := by have := bk_len hbk; unfold maxLen; omega
  have b1 := bel1 w (.cells (cmdC 1 [c] tgt 0 0 4 nilS) 28)
  have e1 := alloc_new w (.cells (cmdC 1 [c] tgt 0 0 4 nilS) 28)
  have hN := hid (name_one c hc1 hc2)
  have yk0 := h.look [c] (by unfold maxLen; simp)
  have yc := h.cell.2
  have yd := h.cell.1
  have hln : ∀ W, Below w.heap.size w W → (Builtin.len_ #[46] 3 #[.map (some am)]).run Tryz.prog W = .ok (.int .i64 gs.length) W := fun W hW => by
    have := (h.below hW).mp.len Tryz.underlying46 3; rwa [gpl, List.length_map] at this
  have hno : [c] ∉ (gfl gs).map (·.1) := by
    have h1 := (Mp.look_none _ _).1 hl0
    intro h2; apply h1
    rw [gpl, List.map_map]; rw [gfl, List.map_map] at h2; exact h2
  have HC := hid fun (W : World) (hW : Below w.heap.size w W) => create_any (bk := tgt) c hc1 hc2 (h.hg.below hW) hno (by rw [gfl, List.length_map]; omega) hbk hur hroom (by omega)
  rw [hl0] at yk0
  simp only [Option.map_none] at yk0
  have tl : decide ((16 : Int) ≤ gs.length) = false := by simp; omega
  have HLK := hid fun (W : World) (hW : Below w.heap.size w W) => links_any (h.below hW) (by omega) [c] tgt
  have HCK := hid fun (W : World) (os : List (List UInt8 × List UInt8)) (lv : Value) (B : Nat) (hLk : Lks gs [c] tgt (fun _ => false) os) (ho : OwnG W B 74 2 lv ((([c], tgt) :: os).map lkR2)) => check_links (gpl_nodup h.mp) (by omega) hLk h.nm (show [c].length ≤ maxLen by unfold maxLen; simp) ht ho
  have H := hid (And.intro h hbk)
  have HNM := hid (And.intro hc1 hc2)
  have HL0 := hid hl0
  obtain ⟨r, hr⟩ : ∃ r, r = ckG gs [c] tgt := ⟨_, rfl⟩
  rw [← hr] at HCK ⊢
  clear hc1 hc2 h hl0 hbk hno hr 
  go_enter Tryz.func16, Tryz.ntmps16
  simp only [cmdC] at b1 e1 ⊢
  go_upto_region 1 with (fail)
  have hz1 : w.heap.size < (w.alloc (.cells #[.int .i64 1, nmv [c], nmv tgt, .int .i64 0, .int .i64 0, .int .i64 4, nilS] 28)).heap.size := by simp
  generalize w.alloc (.cells #[.int .i64 1, nmv [c], nmv tgt, .int .i64 0, .int .i64 0, .int .i64 4, nilS] 28) = w1 at *
  have zk0 : ∀ W, Below w1.heap.size w1 W → _ := fun W hW => yk0 W (belT b1 hW)
  have zc : ∀ W, Below w1.heap.size w1 W → W.cell? ⟨aa, 1, none⟩ = _ := fun W hW => yc W (belT b1 hW)
  have zd : ∀ W, Below w1.heap.size w1 W → W.cell? ⟨aa, 0, none⟩ = _ := fun W hW => yd W (belT b1 hW)
  have zl : ∀ W, Below w1.heap.size w1 W → _ := fun W hW => hln W (belT b1 hW)
  have zb : ∀ W, Below w1.heap.size w1 W → ∀ j, W.cell? ⟨w.heap.size, j, none⟩ = _ := fun W hW j => cell_of (qk_below e1 hW) j
  have B1 := hid b1
  have b0 := Below.refl w1.heap.size w1
  clear yk0 yc yd hln b1 
  go_wp2_with (go_at_call 28; refine (hN.out _).mono ?_; rintro e w' ⟨rfl, rfl⟩)
  have q2 := zb _ b0
  go_quiet (fail)
  obtain ⟨w2, hw2⟩ : ∃ x, x = w1.drewN nq := ⟨_, rfl⟩
  rw [← hw2]
  have b2 : Below w1.heap.size w1 w2 := by rw [hw2]; exact below_drewN b0 _
  clear hw2 q2
  go_wp2_with fail
  go_region_held3 (fun w' => Below (World.heap w1).size w1 w') (first | with_reducible exact (Below.refl _ _).drew | with_reducible assumption | with_reducible exact Below.drew (by with_reducible assumption)) (fail)
  have b3 := b2.drew
  go_wp2_with fail
  have q3 := zb _ b3
  go_quiet (fail)
  obtain ⟨w4, hw4⟩ : ∃ x, x = w2.drew.drewN nq := ⟨_, rfl⟩
  rw [← hw4]
  have b4 : Below w1.heap.size w1 w4 := by rw [hw4]; exact below_drewN b3 _
  clear hw4 b2 b3 q3
  go_wp2_with fail
  go_region_held3 (fun w' => Below (World.heap w1).size w1 w') (first | with_reducible exact (Below.refl _ _).drew | with_reducible assumption | with_reducible exact Below.drew (by with_reducible assumption)) (first
    | (go_at_call 30; refine (HLK.out _ (belT B1.out (by first | with_reducible assumption | with_reducible exact Below.drew (by with_reducible assumption)))).mono ?_; rintro e w5 ⟨lv, os, rfl, ho, hLk, hb5⟩; obtain ⟨la, ln, lc, rfl⟩ := slG_sh ho.slG; have hb5' := belT (by first | with_reducible assumption | with_reducible exact Below.drew (by with_reducible assumption) : Below w1.heap.size w1 _) hb5)
    | (go_at_call 29; refine (HCK.out _ _ _ _ hLk ho).mono ?_; rintro e w6 ⟨rfl, hb6⟩; have hb6' := belT (by first | with_reducible assumption | with_reducible exact Below.drew (by with_reducible assumption) : Below w1.heap.size w1 _) hb6))
  have B6 := hid (belT B1.out hb6')
  by_cases hr0 : r = 0
  rotate_left
  · have tr : decide (r = 0) = false := by simpa using hr0
    go_wp2_with fail
    go_ret
    exact ⟨fun _ => ⟨rfl, B6.out⟩, fun h => absurd h hr0⟩
  subst hr0
  have q6 := zb _ hb6'
  go_wp2_with fail
  obtain ⟨w7, hw7⟩ : ∃ x, x = w6 := ⟨_, rfl⟩
  rw [← hw7]
  have b7 : Below w1.heap.size w1 w7 := by rw [hw7]; exact hb6'
  clear hw7
  have B7 := hid (belT B1.out b7)
  obtain ⟨dn, hdn, ha0⟩ := H.out.1.ar
  have ea7 := qk_below ha0 B7.out
  have ec7 := qk_below e1 b7
  have A7 := hid (H.out.1.below B7.out)
  have hm7 := hid A7.out.hg.facts.2.1
  have sa : ∀ W : World, W.heap[aa]? = some (.cells #[dp p, .map (some am), .int .i64 dn] 53 (0, 0)) → ∀ j, W.cell? ⟨aa, j, none⟩ = _ := fun W h j => cell_of h j
  have sc : ∀ W : World, W.heap[w.heap.size]? = some (.cells #[.int .i64 1, nmv [c], nmv tgt, .int .i64 0, .int .i64 0, .int .i64 4, nilS] 28 (0, 0)) → ∀ j, W.cell? ⟨w.heap.size, j, none⟩ = _ := fun W h j => cell_of h j
  clear zk0 zc zd zl zb q6 
  go_cut [7, 8] from 91 to 105 (fun s7 s8 wx => ∃ q kn rd ml cnt sum : Nat, s7 = dp q ∧ s8 = .int .i64 0 ∧ Hid (IM wx base p m q [c] tgt 1 2 cnt sum false kn rd ml ∧ (w7.heap.size ≤ ml ∧ cnt = 21 + tgt.length) ∧ HG wx base p m room (gfl gs ++ [([c], 4)]) (L + 3) ∧ Fr base m w7 wx))
  case first =>
    go_region_held3 (fun W => W.heap[aa]? = some (.cells #[dp p, .map (some am), .int .i64 dn] 53 (0, 0)) ∧ W.heap[w.heap.size]? = some (.cells #[.int .i64 1, nmv [c], nmv tgt, .int .i64 0, .int .i64 0, .int .i64 4, nilS] 28 (0, 0))) (first | with_reducible assumption | with_reducible exact ⟨ea7, ec7⟩ | with_reducible exact ⟨qk_drew ea7, qk_drew ec7⟩) (first
      | (go_at_call 32; refine (HC.out _ (B7.out.drew)).mono ?_; rintro e w8 ⟨q, kn, rd, ml, cnt, sum, rfl, hi8, hml8, hcn8, hg8, hf8⟩; have hcn9 := hid hcn8; clear hcn8; have hS8 := And.intro ((hf8.keptO none).cells (qk_drew ea7) (not_map hm7.out ea7) (by decide) (by simp)) ((hf8.keptO none).cells (qk_drew ec7) (not_map hm7.out ec7) (by decide) (by simp))))
    go_wp2_with fail
    go_meet
    case rel => exact ⟨q, kn, rd, ml, cnt, sum, rfl, rfl, hid ⟨hi8, ⟨hml8.2, hcn9.out⟩, hg8, (Fr.of_below (Below.refl _ _).drew A7.out.hg.base_le).trans hf8⟩⟩
  case rest =>
    obtain ⟨q, kn, rd, ml, cnt, sum, rfl, rfl, hA⟩ := hcut
    have ea8 := qk_drew ((hA.out.2.2.2.keptO none).cells ea7 (not_map hm7.out ea7) (by decide) (by simp))
    have ec8 := qk_drew ((hA.out.2.2.2.keptO none).cells ec7 (not_map hm7.out ec7) (by decide) (by simp))
    have hp8 : Mp.PM Tryz.prog 9 wc.drew am (gpl gs) := A7.out.mp.block (hA.out.2.2.2.kept.block am A7.out.mp.lt ⟨A7.out.ne, fun c t fr e => by obtain ⟨es, ck, h2⟩ := A7.out.mp.isMap; rw [h2] at e; cases e⟩)
    obtain ⟨w10, hrun, hpm, hg10, hz10, hf10⟩ := hp8.upd (t := 46) Tryz.underlying9 Tryz.underlying46 [c] (by unfold maxLen; simp) q (by unfold gpl maxLen; rw [List.length_map]; omega)
    have hrun2 : (Instr.mapUpdate 46 (.map (some am)) (nmv [c]) (dp q)).run Tryz.prog wc.drew = .ok () w10 := hrun
    have hup : Mp.upd (gpl gs) [c] q = gpl gs ++ [([c], q)] := by unfold Mp.upd; rw [HL0.out]; simp
    rw [hup] at hpm
    have hnm : ∀ (k : Nat) (cc : Array Value) (t : TypeId) (fr : Nat × Nat), wc.drew.heap[k]? = some (.cells cc t fr) → some k ≠ some am := fun k cc t fr hc e => by
      cases e; obtain ⟨es, ck, h2⟩ := hp8.isMap; rw [h2] at hc; cases hc
    have hS10 := And.intro ((hg10.block _ (blk_lt ea8) (hnm _ _ _ _ ea8)).trans ea8) ((hg10.block _ (blk_lt ec8) (hnm _ _ _ _ ec8)).trans ec8)
    have hfin := AR.of_create A7.out ((show Fr base m w7 wc.drew from hA.out.2.2.2.trans (Fr.of_below (Below.refl _ _).drew (Nat.le_trans A7.out.hg.base_le hA.out.2.2.2.kept.size)))) (g := ⟨[c], tgt, q, kn, rd, ml, 1, 2, cnt, sum⟩) ⟨rfl, H.out.2⟩ (by have := hA.out.2.1.1; have := A7.out.mp.lt; show ml ≠ am; omega) ⟨rfl, rfl, hA.out.2.1.2⟩ (hA.out.1.below (Below.refl _ _).drew) (hA.out.2.2.1.below (Below.refl _ _).drew) hpm hg10 hz10
    have HF := hid hfin
    clear hrun hpm hg10 hz10 hf10 hup hnm hfin ea7 ec7
    go_wp2_with fail
    go_region_held3 (fun W => W.heap[aa]? = some (.cells #[dp p, .map (some am), .int .i64 dn] 53 (0, 0)) ∧ W.heap[w.heap.size]? = some (.cells #[.int .i64 1, nmv [c], nmv tgt, .int .i64 0, .int .i64 0, .int .i64 4, nilS] 28 (0, 0))) (first | with_reducible assumption | with_reducible exact ⟨ea8, ec8⟩) (fail)
    go_wp2_with fail
    go_ret
    exact ⟨rfl, _, HF.out.1, rfl, rfl, (KA.of_below B7.out H.out.1.hg.base_le).trans HF.out.2⟩
-- CREATE 1
set_option maxRecDepth 100000 in
set_option maxHeartbeats 4000000 in
theorem create_go1 {w : World} {base p m aa am room L : Nat} {gs : List IG} (h : AR w base p m aa am room L gs) (c : UInt8) (hc1 : 97 ≤ c.toNat) (hc2 : c.toNat ≤ 122) (tgt : List UInt8) (g0 : IG) (hg0 : g0 ∈ gs) (hgn : g0.nm = tgt) (hlt : Mp.look (gpl gs) tgt = some g0.q) (hbk : BkOk tgt) (hgl : gs.length < 16)
    (hl0 : Mp.look (gpl gs) [c] = none) (hur : ((gfl gs).map (·.2)).sum + 4 ≤ room) (hroom : room ≤ 1048576) (hL : L ≤ 80000) : Calls Tryz.prog 16 #[dp aa, .agg (cmdC 1 [c] tgt 0 0 4 nilS)] w fun e w' =>
      (ckG gs [c] tgt ≠ 0 → e = .returned (.int .i64 (ckG gs [c] tgt)) ∧ Below w.heap.size w w') ∧
      (ckG gs [c] tgt = 0 → e = .returned (.int .i64 0) ∧ ∃ g : IG, AR w' base p m aa am room (L + 3) (gs ++ [g]) ∧ g.nm = [c] ∧ g.bk = tgt ∧ KA base m am aa w w') := by
  have ht : tgt.length ≤ maxLen := by have := bk_len hbk; unfold maxLen; omega
  have hemp : tgt.isEmpty = false := by have := (h.nm g0 hg0).1; rw [hgn] at this; cases tgt with | nil => cases this | cons a l => rfl
  have b1 := bel1 w (.cells (cmdC 1 [c] tgt 0 0 4 nilS) 28)
  have e1 := alloc_new w (.cells (cmdC 1 [c] tgt 0 0 4 nilS) 28)
  have hN := hid (name_one c hc1 hc2)
  have yk0 := h.look [c] (by unfold maxLen; simp)
  have ykt := h.look tgt ht
  have yc := h.cell.2
  have yd := h.cell.1
  have hln : ∀ W, Below w.heap.size w W → (Builtin.len_ #[46] 3 #[.map (some am)]).run Tryz.prog W = .ok (.int .i64 gs.length) W := fun W hW => by
    have := (h.below hW).mp.len Tryz.underlying46 3; rwa [gpl, List.length_map] at this
  have hno : [c] ∉ (gfl gs).map (·.1) := by
    have h1 := (Mp.look_none _ _).1 hl0
    intro h2; apply h1
    rw [gpl, List.map_map]; rw [gfl, List.map_map] at h2; exact h2
  have HC := hid fun (W : World) (hW : Below w.heap.size w W) => create_any (bk := tgt) c hc1 hc2 (h.hg.below hW) hno (by rw [gfl, List.length_map]; omega) hbk hur hroom (by omega)
  obtain ⟨i0, hi0⟩ := h.at hg0
  have HFL := hid fun (W : World) (hW : Below w.heap.size w W) => flush_no (h.hg.below hW) hi0 (by have := (h.nm g0 hg0).1; omega) ((h.im g0 hg0).below hW)
  rw [hl0] at yk0
  rw [hlt] at ykt
  simp only [Option.map_none, Option.map_some] at yk0 ykt
  have tl : decide ((16 : Int) ≤ gs.length) = false := by simp; omega
  have HLK := hid fun (W : World) (hW : Below w.heap.size w W) => links_any (h.below hW) (by omega) [c] tgt
  have HCK := hid fun (W : World) (os : List (List UInt8 × List UInt8)) (lv : Value) (B : Nat) (hLk : Lks gs [c] tgt (fun _ => false) os) (ho : OwnG W B 74 2 lv ((([c], tgt) :: os).map lkR2)) => check_links (gpl_nodup h.mp) (by omega) hLk h.nm (show [c].length ≤ maxLen by unfold maxLen; simp) ht ho
  have H := hid (And.intro h hbk)
  have HNM := hid (And.intro hc1 hc2)
  have HL0 := hid hl0
  obtain ⟨r, hr⟩ : ∃ r, r = ckG gs [c] tgt := ⟨_, rfl⟩
  rw [← hr] at HCK ⊢
  clear hc1 hc2 h hl0 hbk hno hr hlt hi0 hg0 hgn
  go_enter Tryz.func16, Tryz.ntmps16
  simp only [cmdC] at b1 e1 ⊢
  go_upto_region 1 with (fail)
  have hz1 : w.heap.size < (w.alloc (.cells #[.int .i64 1, nmv [c], nmv tgt, .int .i64 0, .int .i64 0, .int .i64 4, nilS] 28)).heap.size := by simp
  generalize w.alloc (.cells #[.int .i64 1, nmv [c], nmv tgt, .int .i64 0, .int .i64 0, .int .i64 4, nilS] 28) = w1 at *
  have zk0 : ∀ W, Below w1.heap.size w1 W → _ := fun W hW => yk0 W (belT b1 hW)
  have zkt : ∀ W, Below w1.heap.size w1 W → _ := fun W hW => ykt W (belT b1 hW)
  have zc : ∀ W, Below w1.heap.size w1 W → W.cell? ⟨aa, 1, none⟩ = _ := fun W hW => yc W (belT b1 hW)
  have zd : ∀ W, Below w1.heap.size w1 W → W.cell? ⟨aa, 0, none⟩ = _ := fun W hW => yd W (belT b1 hW)
  have zl : ∀ W, Below w1.heap.size w1 W → _ := fun W hW => hln W (belT b1 hW)
  have zb : ∀ W, Below w1.heap.size w1 W → ∀ j, W.cell? ⟨w.heap.size, j, none⟩ = _ := fun W hW j => cell_of (qk_below e1 hW) j
  have B1 := hid b1
  have b0 := Below.refl w1.heap.size w1
  clear yk0 yc yd hln b1 ykt
  go_wp2_with (go_at_call 28; refine (hN.out _).mono ?_; rintro e w' ⟨rfl, rfl⟩)
  have q2 := zb _ b0
  go_quiet (fail)
  obtain ⟨w2, hw2⟩ : ∃ x, x = w1.drewN nq := ⟨_, rfl⟩
  rw [← hw2]
  have b2 : Below w1.heap.size w1 w2 := by rw [hw2]; exact below_drewN b0 _
  clear hw2 q2
  go_wp2_with fail
  go_region_held3 (fun w' => Below (World.heap w1).size w1 w') (first | with_reducible exact (Below.refl _ _).drew | with_reducible assumption | with_reducible exact Below.drew (by with_reducible assumption)) (fail)
  have b3 := b2.drew
  go_wp2_with fail
  go_region_held3 (fun w' => Below (World.heap w1).size w1 w') (first | with_reducible exact (Below.refl _ _).drew | with_reducible assumption | with_reducible exact Below.drew (by with_reducible assumption)) (fail)
  obtain ⟨w4, hw4⟩ : ∃ x, x = w2.drew.drew := ⟨_, rfl⟩
  rw [← hw4]
  have b4 : Below w1.heap.size w1 w4 := by rw [hw4]; exact b3.drew
  clear hw4 b2 b3 
  go_wp2_with fail
  go_region_held3 (fun w' => Below (World.heap w1).size w1 w') (first | with_reducible exact (Below.refl _ _).drew | with_reducible assumption | with_reducible exact Below.drew (by with_reducible assumption)) (first
    | (go_at_call 30; refine (HLK.out _ (belT B1.out (by first | with_reducible assumption | with_reducible exact Below.drew (by with_reducible assumption)))).mono ?_; rintro e w5 ⟨lv, os, rfl, ho, hLk, hb5⟩; obtain ⟨la, ln, lc, rfl⟩ := slG_sh ho.slG; have hb5' := belT (by first | with_reducible assumption | with_reducible exact Below.drew (by with_reducible assumption) : Below w1.heap.size w1 _) hb5)
    | (go_at_call 29; refine (HCK.out _ _ _ _ hLk ho).mono ?_; rintro e w6 ⟨rfl, hb6⟩; have hb6' := belT (by first | with_reducible assumption | with_reducible exact Below.drew (by with_reducible assumption) : Below w1.heap.size w1 _) hb6))
  have B6 := hid (belT B1.out hb6')
  by_cases hr0 : r = 0
  rotate_left
  · have tr : decide (r = 0) = false := by simpa using hr0
    go_wp2_with fail
    go_ret
    exact ⟨fun _ => ⟨rfl, B6.out⟩, fun h => absurd h hr0⟩
  subst hr0
  have q6 := zb _ hb6'
  go_wp2_with fail
  go_region_held3 (fun w' => Below (World.heap w1).size w1 w') (first | with_reducible exact (Below.refl _ _).drew | with_reducible assumption | with_reducible exact Below.drew (by with_reducible assumption)) (first
    | (go_at_call 31; refine (HFL.out _ (belT B1.out (by first | with_reducible assumption | with_reducible exact Below.drew (by with_reducible assumption)))).mono ?_; rintro e w7 ⟨rfl, hb7⟩; have hb7' := belT (by first | with_reducible assumption | with_reducible exact Below.drew (by with_reducible assumption) : Below w1.heap.size w1 _) hb7))
  have b7 : Below w1.heap.size w1 w7 := hb7'
  go_wp2_with fail
  have B7 := hid (belT B1.out b7)
  obtain ⟨dn, hdn, ha0⟩ := H.out.1.ar
  have ea7 := qk_below ha0 B7.out
  have ec7 := qk_below e1 b7
  have A7 := hid (H.out.1.below B7.out)
  have hm7 := hid A7.out.hg.facts.2.1
  have sa : ∀ W : World, W.heap[aa]? = some (.cells #[dp p, .map (some am), .int .i64 dn] 53 (0, 0)) → ∀ j, W.cell? ⟨aa, j, none⟩ = _ := fun W h j => cell_of h j
  have sc : ∀ W : World, W.heap[w.heap.size]? = some (.cells #[.int .i64 1, nmv [c], nmv tgt, .int .i64 0, .int .i64 0, .int .i64 4, nilS] 28 (0, 0)) → ∀ j, W.cell? ⟨w.heap.size, j, none⟩ = _ := fun W h j => cell_of h j
  clear zk0 zc zd zl zb q6 zkt
  go_cut [7, 8] from 91 to 105 (fun s7 s8 wx => ∃ q kn rd ml cnt sum : Nat, s7 = dp q ∧ s8 = .int .i64 0 ∧ Hid (IM wx base p m q [c] tgt 1 2 cnt sum false kn rd ml ∧ (w7.heap.size ≤ ml ∧ cnt = 21 + tgt.length) ∧ HG wx base p m room (gfl gs ++ [([c], 4)]) (L + 3) ∧ Fr base m w7 wx))
  case first =>
    go_region_held3 (fun W => W.heap[aa]? = some (.cells #[dp p, .map (some am), .int .i64 dn] 53 (0, 0)) ∧ W.heap[w.heap.size]? = some (.cells #[.int .i64 1, nmv [c], nmv tgt, .int .i64 0, .int .i64 0, .int .i64 4, nilS] 28 (0, 0))) (first | with_reducible assumption | with_reducible exact ⟨ea7, ec7⟩ | with_reducible exact ⟨qk_drew ea7, qk_drew ec7⟩) (first
      | (go_at_call 32; refine (HC.out _ (B7.out.drew)).mono ?_; rintro e w8 ⟨q, kn, rd, ml, cnt, sum, rfl, hi8, hml8, hcn8, hg8, hf8⟩; have hcn9 := hid hcn8; clear hcn8; have hS8 := And.intro ((hf8.keptO none).cells (qk_drew ea7) (not_map hm7.out ea7) (by decide) (by simp)) ((hf8.keptO none).cells (qk_drew ec7) (not_map hm7.out ec7) (by decide) (by simp))))
    go_wp2_with fail
    go_meet
    case rel => exact ⟨q, kn, rd, ml, cnt, sum, rfl, rfl, hid ⟨hi8, ⟨hml8.2, hcn9.out⟩, hg8, (Fr.of_below (Below.refl _ _).drew A7.out.hg.base_le).trans hf8⟩⟩
  case rest =>
    obtain ⟨q, kn, rd, ml, cnt, sum, rfl, rfl, hA⟩ := hcut
    have ea8 := qk_drew ((hA.out.2.2.2.keptO none).cells ea7 (not_map hm7.out ea7) (by decide) (by simp))
    have ec8 := qk_drew ((hA.out.2.2.2.keptO none).cells ec7 (not_map hm7.out ec7) (by decide) (by simp))
    have hp8 : Mp.PM Tryz.prog 9 wc.drew am (gpl gs) := A7.out.mp.block (hA.out.2.2.2.kept.block am A7.out.mp.lt ⟨A7.out.ne, fun c t fr e => by obtain ⟨es, ck, h2⟩ := A7.out.mp.isMap; rw [h2] at e; cases e⟩)
    obtain ⟨w10, hrun, hpm, hg10, hz10, hf10⟩ := hp8.upd (t := 46) Tryz.underlying9 Tryz.underlying46 [c] (by unfold maxLen; simp) q (by unfold gpl maxLen; rw [List.length_map]; omega)
    have hrun2 : (Instr.mapUpdate 46 (.map (some am)) (nmv [c]) (dp q)).run Tryz.prog wc.drew = .ok () w10 := hrun
    have hup : Mp.upd (gpl gs) [c] q = gpl gs ++ [([c], q)] := by unfold Mp.upd; rw [HL0.out]; simp
    rw [hup] at hpm
    have hnm : ∀ (k : Nat) (cc : Array Value) (t : TypeId) (fr : Nat × Nat), wc.drew.heap[k]? = some (.cells cc t fr) → some k ≠ some am := fun k cc t fr hc e => by
      cases e; obtain ⟨es, ck, h2⟩ := hp8.isMap; rw [h2] at hc; cases hc
    have hS10 := And.intro ((hg10.block _ (blk_lt ea8) (hnm _ _ _ _ ea8)).trans ea8) ((hg10.block _ (blk_lt ec8) (hnm _ _ _ _ ec8)).trans ec8)
    have hfin := AR.of_create A7.out ((show Fr base m w7 wc.drew from hA.out.2.2.2.trans (Fr.of_below (Below.refl _ _).drew (Nat.le_trans A7.out.hg.base_le hA.out.2.2.2.kept.size)))) (g := ⟨[c], tgt, q, kn, rd, ml, 1, 2, cnt, sum⟩) ⟨rfl, H.out.2⟩ (by have := hA.out.2.1.1; have := A7.out.mp.lt; show ml ≠ am; omega) ⟨rfl, rfl, hA.out.2.1.2⟩ (hA.out.1.below (Below.refl _ _).drew) (hA.out.2.2.1.below (Below.refl _ _).drew) hpm hg10 hz10
    have HF := hid hfin
    clear hrun hpm hg10 hz10 hf10 hup hnm hfin ea7 ec7
    go_wp2_with fail
    go_region_held3 (fun W => W.heap[aa]? = some (.cells #[dp p, .map (some am), .int .i64 dn] 53 (0, 0)) ∧ W.heap[w.heap.size]? = some (.cells #[.int .i64 1, nmv [c], nmv tgt, .int .i64 0, .int .i64 0, .int .i64 4, nilS] 28 (0, 0))) (first | with_reducible assumption | with_reducible exact ⟨ea8, ec8⟩) (fail)
    go_wp2_with fail
    go_ret
    exact ⟨rfl, _, HF.out.1, rfl, rfl, (KA.of_below B7.out H.out.1.hg.base_le).trans HF.out.2⟩
set_option maxRecDepth 100000 in
set_option maxHeartbeats 2000000 in
theorem do_cr {w : World} {base p m aa am room L : Nat} {gs : List IG} (h : AR w base p m aa am room L gs) (hL : L ≤ 80000) (nm tgt : List UInt8) (hL' : True) (Q : Int → List IG → Prop)
    (hc : ∀ W, AR W base p m aa am room (L + 1) gs → Calls Tryz.prog 16 #[dp aa, .agg (cmdC 1 nm tgt 0 0 4 nilS)] W fun e w' => ∃ (r : Int) (gs' : List IG), e = .returned (.int .i64 r) ∧ AR w' base p m aa am room (L + 4) gs' ∧ KA base m am aa W w' ∧ Q r gs') :
    Calls Tryz.prog 5 #[dp aa, .agg (cmdC 1 nm tgt 0 0 4 nilS)] w fun e w' => ∃ (r : Int) (gs' : List IG), e = .returned (rep r) ∧ AR w' base p m aa am room (L + 4) gs' ∧ KA base m am aa w w' ∧ Q r gs' := by
  have hno : ([] : List UInt8) ∉ (gfl gs).map (·.1) := fun hm => by
    obtain ⟨x, hx, he⟩ := List.mem_map.1 hm
    obtain ⟨g, hg, rfl⟩ := List.mem_map.1 hx
    have h1 := (h.nm g hg).1
    have h2 : g.nm = [] := he
    rw [h2] at h1; cases h1
  obtain ⟨dn, hdn, ha⟩ := h.ar
  have b2 := bel2 w (.cells (cmdC 1 nm tgt 0 0 4 nilS) 28) (.cells #[.int .i64 0, nilS, nilS, nilS, .int .i64 0, .int .i64 0] 33)
  have e1 := new2_0 w (.cells (cmdC 1 nm tgt 0 0 4 nilS) 28) (.cells #[.int .i64 0, nilS, nilS, nilS, .int .i64 0, .int .i64 0] 33)
  have e2 := new2_1 w (.cells (cmdC 1 nm tgt 0 0 4 nilS) 28) (.cells #[.int .i64 0, nilS, nilS, nilS, .int .i64 0, .int .i64 0] 33)
  have H := hid (And.intro h (And.intro ha hno))
  have hc2 := hid hc
  clear h ha hno hc
  go_enter Tryz.func5, Tryz.ntmps5
  simp only [cmdC] at b2 e1 e2 ⊢
  go_upto_region 3 with (fail)
  have hz1 : w.heap.size + 2 ≤ ((w.alloc (.cells #[.int .i64 1, nmv nm, nmv tgt, .int .i64 0, .int .i64 0, .int .i64 4, nilS] 28)).alloc (.cells #[.int .i64 0, nilS, nilS, nilS, .int .i64 0, .int .i64 0] 33)).heap.size := by simp
  generalize (w.alloc (.cells #[.int .i64 1, nmv nm, nmv tgt, .int .i64 0, .int .i64 0, .int .i64 4, nilS] 28)).alloc (.cells #[.int .i64 0, nilS, nilS, nilS, .int .i64 0, .int .i64 0] 33) = w1 at *
  have ya := fun j => cell_of (qk_below H.out.2.1 b2) j
  have fa := fun j => fz_of (qk_below H.out.2.1 b2) j
  have H1 := hid (And.intro (H.out.1.below b2) (And.intro (qk_below H.out.2.1 b2) (And.intro b2 (And.intro e1 e2))))
  clear b2 e1 e2
  go_wp2_with fail
  refine (power_any H1.out.1.hg H.out.2.2).mono ?_
  rintro e w2 ⟨rfl, rfl⟩
  go_wp2_with fail
  refine (aadd aa 2 dn 1 w1 (ya 2) (fa 2) (by omega)).mono ?_
  rintro e w2 ⟨rfl, hw2⟩
  obtain ⟨a2, k2⟩ := H1.out.1.done hdn H1.out.2.1
  have hne : aa < w.heap.size := blk_lt H.out.2.1
  have e12 := qk_set (i := 2) (v := .int .i64 ((dn : Int) + 1)) H1.out.2.2.2.1 (show w.heap.size ≠ aa by omega)
  have e22 := qk_set (i := 2) (v := .int .i64 ((dn : Int) + 1)) H1.out.2.2.2.2 (show w.heap.size + 1 ≠ aa by omega)
  rw [← hw2] at a2 k2 e12 e22
  have k02 := (KA.of_below (m := m) (am := am) (aa := aa) H1.out.2.2.1 H.out.1.hg.base_le).trans k2
  have hz2 := k2.bel.size
  have H2 := hid (And.intro a2 (And.intro k02 (And.intro e12 e22)))
  have yb2 := fun j => cell_of e12 j
  have hc3 := hid (hc2.out w2 a2)
  clear a2 k2 e12 e22 k02 hw2 ya fa
  simp only [cmdC] at hc3
  go_wp2_with fail
  refine hc3.out.mono ?_
  rintro e w4 ⟨r, gs', rfl, a4, k4, hQ⟩
  have hmm := H2.out.1.hg.facts.2.1
  have e4 := k4.cells H2.out.2.2.2 ⟨not_map hmm H2.out.2.2.2, not_map H2.out.1.mp.isMap H2.out.2.2.2, by omega⟩ (by decide)
  have H4 := hid (And.intro a4 (And.intro k4 (And.intro hQ e4)))
  have hz4 := k4.bel.size
  clear a4 k4 hQ e4 hmm yb2
  go_wp2_with fail
  refine (reply_any r w4).mono ?_
  rintro e w5 ⟨rfl, hb5⟩
  have e5 := qk_below H4.out.2.2.2 hb5
  have H5 := hid (And.intro (H4.out.1.below hb5) (And.intro ((H2.out.2.1.trans H4.out.2.1).trans (KA.of_below hb5 H4.out.1.hg.base_le)) e5))
  have ye := fun j => cell_of e5 j
  have fe := fun j => fz_of e5 j
  simp only [rep]
  clear hb5 e5
  go_wp2_with fail
  have a6 := H5.out.1.other (stL_kept (w.heap.size + 1) [.int .i64 r, nilS, nilS, nilS, .int .i64 0, .int .i64 0] 0 w5) H5.out.2.2 (by decide)
  have k6 := H5.out.2.1.stL (b := w.heap.size + 1) (by omega) H.out.1.hg.base_le 0 [.int .i64 r, nilS, nilS, nilS, .int .i64 0, .int .i64 0]
  have q6 := stL_heap [.int .i64 r, nilS, nilS, nilS, .int .i64 0, .int .i64 0] w5 0 _ H5.out.2.2
  change bodyPost Tryz.prog Tryz.f5 _ _ _ (Mx.stL w5 (w.heap.size + 1) 0 [.int .i64 r, nilS, nilS, nilS, .int .i64 0, .int .i64 0])
  generalize Mx.stL w5 (w.heap.size + 1) 0 [.int .i64 r, nilS, nilS, nilS, .int .i64 0, .int .i64 0] = w6 at *
  have hk := fun j => cell_of q6 j
  exact bodyPost_ret (v := rep r) (by simp [results, Tryz.results5, go_sem, hk, rep, wrL]) rfl ⟨r, gs', rfl, a6, k6, H4.out.2.2.1⟩
end Go.Proofs.YtmcllcepoiakeaaGreat
