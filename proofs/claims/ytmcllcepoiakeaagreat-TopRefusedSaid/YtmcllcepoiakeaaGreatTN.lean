import Derived.Test.YtmcllcepoiakeaaGreatTL
set_option linter.unusedSimpArgs false
set_option linter.unusedVariables false
namespace Go.Proofs.YtmcllcepoiakeaaGreat
open Go.RowKit Go.Mx Go.Proofs.YtmcllcepoiakeaaGreat.Dx Go.Dk
def rep (c : Int) : Value := .agg #[.int .i64 c, nilS, nilS, nilS, .int .i64 0, .int .i64 0]
theorem reply_any (c : Int) (w : World) : Calls Tryz.prog 13 #[.int .i64 c] w fun e w' => e = .returned (rep c) ∧ Below w.heap.size w w' := by
  go_enter Tryz.func13, Tryz.ntmps13
  go_wp2_with fail
  have hk := fun j => cell_of (alloc_new w (.cells #[.int .i64 c, nilS, nilS, nilS, .int .i64 0, .int .i64 0] 33)) j
  have hb := bel1 w (.cells #[.int .i64 c, nilS, nilS, nilS, .int .i64 0, .int .i64 0] 33)
  generalize w.alloc (.cells #[.int .i64 c, nilS, nilS, nilS, .int .i64 0, .int .i64 0] 33) = w1 at *
  exact bodyPost_ret (v := rep c) (by simp [results, Tryz.results13, go_sem, hk, rep]) rfl ⟨rfl, hb⟩
/-- a command -/
def cmdC (k : Int) (nm tgt : List UInt8) (p n m : Int) (dv : Value) : Array Value := #[.int .i64 k, nmv nm, nmv tgt, .int .i64 p, .int .i64 n, .int .i64 m, dv]
theorem whole_rb {w : World} {base p m aa am room L : Nat} {gs : List IG} (h : AR w base p m aa am room L gs) (nm tgt : List UInt8) (hn : nm.length ≤ maxLen) {r : Int} (hc : ∀ W, Below w.heap.size w W → Calls Tryz.prog 46 #[dp aa, nmv nm, nmv tgt] W fun e w' => e = .returned (.int .i64 r) ∧ Below W.heap.size W w') :
    Calls Tryz.prog 20 #[dp aa, .agg (cmdC 20 nm tgt 0 0 0 nilS)] w fun e w' => e = .returned (.int .i64 r) ∧ Below w.heap.size w w' := by
  have hlk := h.look nm hn
  obtain ⟨y0, y1⟩ := h.cell
  have b1 := bel1 w (.cells (cmdC 20 nm tgt 0 0 0 nilS) 28)
  have e1 := alloc_new w (.cells (cmdC 20 nm tgt 0 0 0 nilS) 28)
  have HC := hid hc
  clear h hc y0
  go_enter Tryz.func20, Tryz.ntmps20
  simp only [cmdC] at b1 e1 ⊢
  go_wp2_with fail
  generalize w.alloc (.cells #[.int .i64 20, nmv nm, nmv tgt, .int .i64 0, .int .i64 0, .int .i64 0, nilS] 28) = w1 at *
  have yk : ∀ W, Below w1.heap.size w1 W → _ := fun W hW => hlk W (belT b1 hW)
  have ya : ∀ W, Below w1.heap.size w1 W → W.cell? ⟨aa, 1, none⟩ = _ := fun W hW => y1 W (belT b1 hW)
  have yb : ∀ W, Below w1.heap.size w1 W → ∀ j, W.cell? ⟨w.heap.size, j, none⟩ = _ := fun W hW j => cell_of (qk_below e1 hW) j
  have B1 := hid b1
  clear hlk y1 b1
  go_region_held3 (fun w' => Below w1.heap.size w1 w') (first | with_reducible exact (Below.refl _ _).drew | with_reducible assumption | with_reducible exact Below.drew (by assumption)) (fail)
  have hb1 : Below w1.heap.size w1 w1.drew := (Below.refl _ _).drew
  have yb2 := yb _ hb1
  have HC2 := hid (HC.out _ (belT B1.out hb1))
  have B2 := hid (belT B1.out hb1)
  clear yk ya yb
  generalize w1.drew = w2 at *
  go_wp2_with fail
  refine HC2.out.mono ?_
  rintro e w3 ⟨rfl, hb⟩
  have B3 := hid (belT B2.out hb)
  clear hb
  go_wp2_with fail
  go_ret
  exact ⟨rfl, B3.out⟩
/-- what a command keeps -/
structure KA (base m am aa : Nat) (w w' : World) : Prop where
  bel : Below base w w'
  kp : Kept w w' fun k => Foreign m w k ∧ k ≠ am ∧ k ≠ aa
theorem KA.trans {base m am aa : Nat} {a b c : World} (h : KA base m am aa a b) (k : KA base m am aa b c) : KA base m am aa a c :=
  ⟨h.bel.trans k.bel, ⟨Nat.le_trans h.kp.size k.kp.size, fun i hi hf => (k.kp.block i (Nat.lt_of_lt_of_le hi h.kp.size) ⟨⟨hf.1.1, fun c t fr e => hf.1.2 c t fr ((h.kp.block i hi hf).symm.trans e)⟩, hf.2⟩).trans (h.kp.block i hi hf)⟩⟩
theorem KA.of_fr {base m am aa : Nat} {w w' : World} (h : Fr base m w w') : KA base m am aa w w' := ⟨h.bel, ⟨h.kept.size, fun k hk hf => h.kept.block k hk hf.1⟩⟩
theorem KA.of_below {base m am aa : Nat} {w w' : World} (h : Below w.heap.size w w') (hb : base ≤ w.heap.size) : KA base m am aa w w' := .of_fr (Fr.of_below h hb)
theorem KA.cells {base m am aa : Nat} {w w' : World} (h : KA base m am aa w w') {k : Nat} {c : Array Value} {t : TypeId} {fr : Nat × Nat} (hc : w.heap[k]? = some (.cells c t fr)) (hm : k ≠ m ∧ k ≠ am ∧ k ≠ aa) (ht : t ≠ 64 ∧ t ≠ 68 ∧ t ≠ 131 ∧ t ≠ 280) : w'.heap[k]? = some (.cells c t fr) :=
  (h.kp.block k (blk_lt hc) ⟨⟨hm.1, fun c' t' fr' e => by rw [hc] at e; cases e; exact ht⟩, hm.2⟩).trans hc
theorem HG_mono {w : World} {base p m room L L' : Nat} {fl : FL} (h : HG w base p m room fl L) (hl : L ≤ L') : HG w base p m room fl L' := by
  obtain ⟨d, fs, lv, x, h, g⟩ := h; exact ⟨d, fs, lv, x, h, { g with len := Nat.le_trans g.len hl }⟩
theorem AR.done {w : World} {base p m aa am room L : Nat} {gs : List IG} (h : AR w base p m aa am room L gs) {dn : Nat} (hd : dn ≤ L) (ha : w.heap[aa]? = some (.cells #[dp p, .map (some am), .int .i64 dn] 53 (0, 0))) :
    AR (w.setCell ⟨aa, 2, none⟩ (.int .i64 ((dn : Int) + 1))) base p m aa am room (L + 1) gs ∧ KA base m am aa w (w.setCell ⟨aa, 2, none⟩ (.int .i64 ((dn : Int) + 1))) := by
  have k : Kept w (w.setCell ⟨aa, 2, none⟩ (.int .i64 ((dn : Int) + 1))) (· ≠ aa) := Kept.set w aa 2 _ fun hn => hn rfl
  have hmm := h.hg.facts.2.1
  have hap : am ≠ aa := by obtain ⟨es, c, h2⟩ := h.mp.isMap; intro e; rw [e, ha] at h2; cases h2
  refine ⟨⟨⟨dn + 1, by omega, (heap_setCell_at' w aa 2 _ _ _ _ ha).trans (by simp)⟩, h.mp.block (k.block _ h.mp.lt hap), fun g hg => ?_, HG_mono (HG.kept h.hg k fun q hF e => hF (by subst e; exact ⟨not_map hmm ha, fun c t fr e => by rw [ha] at e; cases e; decide⟩)) (Nat.le_succ _), h.nm, h.ne, h.ba, h.la, h.ls⟩, ⟨(Below.refl _ _).setCell (p := ⟨aa, 2, none⟩) h.ba.2 _, ⟨k.size, fun q hq hf => k.block q hq hf.2.2⟩⟩⟩
  refine (h.im g hg).keepO (o := some aa) (m := m) ⟨k.size, fun q hq hf => k.block q hq fun e => hf.2 (by rw [e])⟩ hmm fun q e => ?_
  cases e
  exact ⟨_, _, _, ha, by decide, by decide, by decide⟩
theorem AR.other {w w' : World} {base p m aa am room L : Nat} {gs : List IG} (h : AR w base p m aa am room L gs) {b : Nat} (k : Kept w w' (· ≠ b)) {c : Array Value} {t : TypeId} {fr : Nat × Nat} (hb : w.heap[b]? = some (.cells c t fr)) (ht : (t ≠ 64 ∧ t ≠ 68 ∧ t ≠ 131 ∧ t ≠ 280) ∧ (t ≠ 142 ∧ t ≠ 310 ∧ t ≠ 307) ∧ t ≠ 53) :
    AR w' base p m aa am room L gs := by
  obtain ⟨dn, hd, ha⟩ := h.ar
  have hmm := h.hg.facts.2.1
  have hap : am ≠ b := by obtain ⟨es, c, h2⟩ := h.mp.isMap; intro e; rw [e, hb] at h2; cases h2
  have hab : aa ≠ b := fun e => by rw [e, hb] at ha; cases ha; exact ht.2.2 rfl
  refine ⟨⟨dn, hd, (k.block _ (blk_lt ha) hab).trans ha⟩, h.mp.block (k.block _ h.mp.lt hap), fun g hg => ?_, HG.kept h.hg k fun q hF e => hF (by subst e; exact ⟨not_map hmm hb, fun c t fr e => by rw [hb] at e; cases e; exact ht.1⟩), h.nm, h.ne, h.ba, h.la, h.ls⟩
  exact (h.im g hg).keepO (o := some b) (m := m) ⟨k.size, fun q hq hf => k.block q hq fun e => hf.2 (by rw [e])⟩ hmm fun q e => by cases e; exact ⟨_, _, _, hb, ht.2.1⟩
theorem KA.stL {base m am aa b : Nat} {w W : World} (h : KA base m am aa w W) (hb : w.heap.size ≤ b) (hs : base ≤ w.heap.size) (i : Nat) (l : List Value) : KA base m am aa w (Mx.stL W b i l) :=
  ⟨stL_below (Nat.le_trans hs hb) l W w i h.bel, ⟨Nat.le_trans h.kp.size (by rw [stL_size]; exact Nat.le_refl _), fun k hk hF => ((stL_kept b l i W).block k (Nat.lt_of_lt_of_le hk h.kp.size) (by omega)).trans (h.kp.block k hk hF)⟩⟩
set_option maxRecDepth 100000 in
set_option maxHeartbeats 2000000 in
theorem do_rb {w : World} {base p m aa am room L : Nat} {gs : List IG} (h : AR w base p m aa am room L gs) (hL : L ≤ 80000) (nm tgt : List UInt8) (hn : nm.length ≤ maxLen) {b : Nat} (hlk : Mp.look (gpl gs) nm = some b) {r : Int}
    (hc : ∀ W, AR W base p m aa am room (L + 1) gs → Calls Tryz.prog 20 #[dp aa, .agg (cmdC 20 nm tgt 0 0 0 nilS)] W fun e w' => e = .returned (.int .i64 r) ∧ Below W.heap.size W w') :
    Calls Tryz.prog 5 #[dp aa, .agg (cmdC 20 nm tgt 0 0 0 nilS)] w fun e w' => e = .returned (rep r) ∧ AR w' base p m aa am room (L + 1) gs ∧ KA base m am aa w w' := by
  have hno : ([] : List UInt8) ∉ (gfl gs).map (·.1) := fun hm => by
    obtain ⟨x, hx, he⟩ := List.mem_map.1 hm
    obtain ⟨g, hg, rfl⟩ := List.mem_map.1 hx
    have h1 := (h.nm g hg).1
    have h2 : g.nm = [] := he
    rw [h2] at h1; cases h1
  obtain ⟨dn, hdn, ha⟩ := h.ar
  have b2 := bel2 w (.cells (cmdC 20 nm tgt 0 0 0 nilS) 28) (.cells #[.int .i64 0, nilS, nilS, nilS, .int .i64 0, .int .i64 0] 33)
  have e1 := new2_0 w (.cells (cmdC 20 nm tgt 0 0 0 nilS) 28) (.cells #[.int .i64 0, nilS, nilS, nilS, .int .i64 0, .int .i64 0] 33)
  have e2 := new2_1 w (.cells (cmdC 20 nm tgt 0 0 0 nilS) 28) (.cells #[.int .i64 0, nilS, nilS, nilS, .int .i64 0, .int .i64 0] 33)
  have H := hid (And.intro h (And.intro ha hno))
  have hc2 := hid hc
  clear h ha hno hc
  go_enter Tryz.func5, Tryz.ntmps5
  simp only [cmdC] at b2 e1 e2 ⊢
  go_upto_region 3 with (fail)
  have hz1 : w.heap.size + 2 ≤ ((w.alloc (.cells #[.int .i64 20, nmv nm, nmv tgt, .int .i64 0, .int .i64 0, .int .i64 0, nilS] 28)).alloc (.cells #[.int .i64 0, nilS, nilS, nilS, .int .i64 0, .int .i64 0] 33)).heap.size := by simp
  generalize (w.alloc (.cells #[.int .i64 20, nmv nm, nmv tgt, .int .i64 0, .int .i64 0, .int .i64 0, nilS] 28)).alloc (.cells #[.int .i64 0, nilS, nilS, nilS, .int .i64 0, .int .i64 0] 33) = w1 at *
  have ya := fun j => cell_of (qk_below H.out.2.1 b2) j
  have fa := fun j => fz_of (qk_below H.out.2.1 b2) j
  have H1 := hid (And.intro (H.out.1.below b2) (And.intro (qk_below H.out.2.1 b2) (And.intro b2 (And.intro e1 e2))))
  clear b2 e1 e2
  go_wp2_with fail
  refine (power_any H1.out.1.hg H.out.2.2).mono ?_
  rintro e w2 ⟨rfl, rfl⟩
  go_wp2_with fail
  refine (aadd aa 2 dn 1 w1 (ya 2) (fa 2) (by omega)).mono ?_
  rintro e w2 ⟨rfl, hw2⟩
  obtain ⟨a2, k2⟩ := H1.out.1.done hdn H1.out.2.1
  have hne : aa < w.heap.size := blk_lt H.out.2.1
  have e12 := qk_set (i := 2) (v := .int .i64 ((dn : Int) + 1)) H1.out.2.2.2.1 (show w.heap.size ≠ aa by omega)
  have e22 := qk_set (i := 2) (v := .int .i64 ((dn : Int) + 1)) H1.out.2.2.2.2 (show w.heap.size + 1 ≠ aa by omega)
  rw [← hw2] at a2 k2 e12 e22
  have k02 := (KA.of_below (m := m) (am := am) (aa := aa) H1.out.2.2.1 H.out.1.hg.base_le).trans k2
  have hz2 := k2.bel.size
  have H2 := hid (And.intro a2 (And.intro k02 (And.intro e12 e22)))
  have yk := a2.look nm hn
  have yc := a2.cell.2
  rw [hlk] at yk
  simp only [Option.map_some] at yk
  have yb : ∀ W, Below w2.heap.size w2 W → ∀ j, W.cell? ⟨w.heap.size, j, none⟩ = _ := fun W hW j => cell_of (qk_below e12 hW) j
  have yb2 := yb w2 (Below.refl _ _)
  have hc3 := hid (hc2.out w2 a2)
  clear a2 k2 e12 e22 k02 hw2 ya fa
  go_wp2_with fail
  go_region_held3 (fun w' => Below w2.heap.size w2 w') (first | with_reducible exact (Below.refl _ _).drew | with_reducible assumption | with_reducible exact Below.drew (by assumption)) (fail)
  have hb3 : Below w2.heap.size w2 w2.drew := (Below.refl _ _).drew
  have yb3 := yb _ hb3
  have hc4 := hid (hc2.out w2.drew (H2.out.1.below hb3))
  have H3 := hid (And.intro (H2.out.1.below hb3) (And.intro (H2.out.2.1.trans (KA.of_below hb3 H2.out.1.hg.base_le)) (And.intro (qk_below H2.out.2.2.1 hb3) (qk_below H2.out.2.2.2 hb3))))
  have hz3 : w.heap.size + 2 ≤ w2.drew.heap.size := by have := hb3.size; omega
  clear yk yc yb yb2 hc3 hb3
  generalize w2.drew = w3 at *
  simp only [cmdC] at hc4
  go_wp2_with fail
  refine hc4.out.mono ?_
  rintro e w4 ⟨rfl, hb4⟩
  go_wp2_with fail
  refine (reply_any r w4).mono ?_
  rintro e w5 ⟨rfl, hb5⟩
  have b5 := belT hb4 hb5
  have e5 := qk_below H3.out.2.2.2 b5
  have H5 := hid (And.intro (H3.out.1.below b5) (And.intro (H3.out.2.1.trans (KA.of_below b5 H3.out.1.hg.base_le)) (And.intro e5 b5.size)))
  have ye := fun j => cell_of e5 j
  have fe := fun j => fz_of e5 j
  simp only [rep]
  clear hb4 hb5 b5 e5 yb3
  go_wp2_with fail
  have a6 := H5.out.1.other (stL_kept (w.heap.size + 1) [.int .i64 r, nilS, nilS, nilS, .int .i64 0, .int .i64 0] 0 w5) H5.out.2.2.1 (by decide)
  have k6 := H5.out.2.1.stL (b := w.heap.size + 1) (by omega) H.out.1.hg.base_le 0 [.int .i64 r, nilS, nilS, nilS, .int .i64 0, .int .i64 0]
  have q6 := stL_heap [.int .i64 r, nilS, nilS, nilS, .int .i64 0, .int .i64 0] w5 0 _ H5.out.2.2.1
  change bodyPost Tryz.prog Tryz.f5 _ _ _ (Mx.stL w5 (w.heap.size + 1) 0 [.int .i64 r, nilS, nilS, nilS, .int .i64 0, .int .i64 0])
  generalize Mx.stL w5 (w.heap.size + 1) 0 [.int .i64 r, nilS, nilS, nilS, .int .i64 0, .int .i64 0] = w6 at *
  have hk := fun j => cell_of q6 j
  exact bodyPost_ret (v := rep r) (by simp [results, Tryz.results5, go_sem, hk, rep, wrL]) rfl ⟨rfl, a6, k6⟩
set_option maxRecDepth 100000 in
set_option maxHeartbeats 2000000 in
theorem create_no {w : World} {base p m aa am room L : Nat} {gs : List IG} (h : AR w base p m aa am room L gs) (c : UInt8) (hc1 : 97 ≤ c.toNat) (hc2 : c.toNat ≤ 122) (tgt : List UInt8) (ht : tgt.length ≤ maxLen) (hgl : gs.length < 16)
    (hl0 : Mp.look (gpl gs) [c] = none) (hemp : tgt.isEmpty = false) (hlt : Mp.look (gpl gs) tgt = none) : Calls Tryz.prog 16 #[dp aa, .agg (cmdC 1 [c] tgt 0 0 4 nilS)] w fun e w' => e = .returned (.int .i64 4) ∧ Below w.heap.size w w' := by
  have b1 := bel1 w (.cells (cmdC 1 [c] tgt 0 0 4 nilS) 28)
  have e1 := alloc_new w (.cells (cmdC 1 [c] tgt 0 0 4 nilS) 28)
  have hN := hid (name_one c hc1 hc2)
  have yk0 := h.look [c] (by unfold maxLen; simp)
  have ykt := h.look tgt ht
  have yc := h.cell.2
  have hln : ∀ W, Below w.heap.size w W → (Builtin.len_ #[46] 3 #[.map (some am)]).run Tryz.prog W = .ok (.int .i64 gs.length) W := fun W hW => by
    have := (h.below hW).mp.len Tryz.underlying46 3; rwa [gpl, List.length_map] at this
  rw [hl0] at yk0
  rw [hlt] at ykt
  simp only [Option.map_none] at yk0 ykt
  have tl : decide ((16 : Int) ≤ gs.length) = false := by simp; omega
  have H := hid h
  clear hc1 hc2 h hl0 hlt
  go_enter Tryz.func16, Tryz.ntmps16
  simp only [cmdC] at b1 e1 ⊢
  go_upto_region 1 with (fail)
  generalize w.alloc (.cells #[.int .i64 1, nmv [c], nmv tgt, .int .i64 0, .int .i64 0, .int .i64 4, nilS] 28) = w1 at *
  have zk0 : ∀ W, Below w1.heap.size w1 W → _ := fun W hW => yk0 W (belT b1 hW)
  have zkt : ∀ W, Below w1.heap.size w1 W → _ := fun W hW => ykt W (belT b1 hW)
  have zc : ∀ W, Below w1.heap.size w1 W → W.cell? ⟨aa, 1, none⟩ = _ := fun W hW => yc W (belT b1 hW)
  have zl : ∀ W, Below w1.heap.size w1 W → _ := fun W hW => hln W (belT b1 hW)
  have zb : ∀ W, Below w1.heap.size w1 W → ∀ j, W.cell? ⟨w.heap.size, j, none⟩ = _ := fun W hW j => cell_of (qk_below e1 hW) j
  have B1 := hid b1
  have b0 := Below.refl w1.heap.size w1
  clear yk0 ykt yc hln b1
  go_wp2_with (go_at_call 28; refine (hN.out _).mono ?_; rintro e w' ⟨rfl, rfl⟩)
  have q2 := zb _ b0
  go_quiet (fail)
  obtain ⟨w2, hw2⟩ : ∃ x, x = w1.drewN nq := ⟨_, rfl⟩
  rw [← hw2]
  have b2 : Below w1.heap.size w1 w2 := by rw [hw2]; exact below_drewN b0 _
  clear hw2 q2
  go_wp2_with fail
  go_region_held3 (fun w' => Below (World.heap w1).size w1 w') (first | with_reducible exact (Below.refl _ _).drew | with_reducible assumption | with_reducible exact Below.drew (by with_reducible assumption)) (fail)
  have b3 := b2.drew
  go_wp2_with fail
  go_region_held3 (fun w' => Below (World.heap w1).size w1 w') (first | with_reducible exact (Below.refl _ _).drew | with_reducible assumption | with_reducible exact Below.drew (by with_reducible assumption)) (fail)
  have b4 := b3.drew
  go_wp2_with fail
  go_ret
  exact ⟨rfl, belT B1.out b4⟩
end Go.Proofs.YtmcllcepoiakeaaGreat
