import Derived.Test.YtmcllcepoiakeaaGreatTF
set_option linter.unusedSimpArgs false
set_option linter.unusedVariables false
namespace Go.Proofs.YtmcllcepoiakeaaGreat
open Go.RowKit Go.Mx Go.Proofs.YtmcllcepoiakeaaGreat.Dx Go.Dk
theorem qk_alloc {W : World} {q : Nat} {c : Array Value} {t : TypeId} {f : Nat × Nat} (h : W.heap[q]? = some (.cells c t f)) (o : Obj) : (W.alloc o).heap[q]? = some (.cells c t f) := (alloc_old (blk_lt h)).trans h
theorem qk_set {W : World} {q b i : Nat} {v : Value} {c : Array Value} {t : TypeId} {f : Nat × Nat} (h : W.heap[q]? = some (.cells c t f)) (hb : q ≠ b) : (W.setCell ⟨b, i, none⟩ v).heap[q]? = some (.cells c t f) := ((Kept.set W b i v (N := (· ≠ b)) (by simp)).block q (blk_lt h) hb).trans h
theorem qk_below {W W' : World} {q : Nat} {c : Array Value} {t : TypeId} {f : Nat × Nat} (h : W.heap[q]? = some (.cells c t f)) (hb : Below W.heap.size W W') : W'.heap[q]? = some (.cells c t f) := (hb.block _ (blk_lt h)).trans h
theorem qk_drew {W : World} {q : Nat} {c : Array Value} {t : TypeId} {f : Nat × Nat} (h : W.heap[q]? = some (.cells c t f)) : W.drew.heap[q]? = some (.cells c t f) := h
theorem alloc_drew (w : World) (o : Obj) : (w.alloc o).drew.heap[w.heap.size]? = some o := alloc_new w o
theorem stL_kept (b : Nat) : ∀ (l : List Value) (i : Nat) (W : World), Kept W (stL W b i l) (fun k => k ≠ b)
  | [], _, W => ⟨Nat.le_refl _, fun _ _ _ => rfl⟩
  | v :: l, i, W => (Kept.set W b i v fun hn => hn rfl).trans (stL_kept b l (i + 1) _)
theorem stL_fr {base m b : Nat} {w W : World} (h : Fr base m w W) (hb : w.heap.size ≤ b) (hs : base ≤ w.heap.size) (i : Nat) (l : List Value) : Fr base m w (stL W b i l) :=
  ⟨stL_below (Nat.le_trans hs hb) l W w i h.bel, ⟨Nat.le_trans h.kept.size (by rw [stL_size]; exact Nat.le_refl _), fun k hk hF => ((stL_kept b l i W).block k (Nat.lt_of_lt_of_le hk h.kept.size) (by omega)).trans (h.kept.block k hk hF)⟩⟩
theorem HG_stL {W : World} {base p m room L b : Nat} {fl : FL} {c : Array Value} {t : TypeId} {fr : Nat × Nat} (h : HG W base p m room fl L) (hb : W.heap[b]? = some (.cells c t fr)) (ht : t ≠ 64 ∧ t ≠ 68 ∧ t ≠ 131 ∧ t ≠ 280) (i : Nat) (l : List Value) : HG (stL W b i l) base p m room fl L :=
  h.kept (stL_kept b l i W) fun k hF e => hF (by
    subst e
    exact ⟨not_map h.facts.2.1 hb, fun c t fr e => by rw [hb] at e; cases e; exact ht⟩)
/-- an image's block while its last cells are turned -/
structure FS (q a9 base p : Nat) (nm bk : List UInt8) (kn rd cnt sum : Nat) (wc W : World) : Prop where
  im : ∃ c : Array Value, W.heap[q]? = some (.cells c 142 (0, 0)) ∧ c.size = 25 ∧ ∀ j, j < 17 → c[j]? = (imC p nm bk 0 0 0 0 true (dp kn) (Ux.cp rd))[j]?
  sl : W.heap[a9]? = some (.cells #[.int .i64 1, .int .i64 2, .int .i64 cnt, .int .u32 sum] 124 (0, 0))
  kp : Kept wc W (· ≠ q)
  bl : Below base wc W
section
variable {q a9 base p : Nat} {nm bk : List UInt8} {kn rd cnt sum : Nat} {wc W W' : World}
theorem FS.below (h : FS q a9 base p nm bk kn rd cnt sum wc W) (hb : Below W.heap.size W W') (hs : base ≤ wc.heap.size) : FS q a9 base p nm bk kn rd cnt sum wc W' := by
  obtain ⟨c, h1, h2⟩ := h.im
  exact ⟨⟨c, qk_below h1 hb, h2⟩, qk_below h.sl hb, ⟨Nat.le_trans h.kp.size hb.size, fun k hk hn => (hb.block k (Nat.lt_of_lt_of_le hk h.kp.size)).trans (h.kp.block k hk hn)⟩, h.bl.trans (hb.mono (Nat.le_trans hs h.kp.size))⟩
theorem FS.drew (h : FS q a9 base p nm bk kn rd cnt sum wc W) : FS q a9 base p nm bk kn rd cnt sum wc W.drew := ⟨h.im, h.sl, h.kp.trans (Kept.drew _ _), h.bl.drew⟩
theorem FS.set (h : FS q a9 base p nm bk kn rd cnt sum wc W) {j : Nat} (hj : 17 ≤ j) (v : Value) (hq : base ≤ q) : FS q a9 base p nm bk kn rd cnt sum wc (W.setCell ⟨q, j, none⟩ v) := by
  obtain ⟨c, h1, h2, h3⟩ := h.im
  refine ⟨⟨c.setIfInBounds j v, heap_setCell_at' _ _ _ _ _ _ _ h1, by simp [h2], fun i hi => ?_⟩, qk_set h.sl fun e => ?_, h.kp.trans (Kept.set W q j v fun hn => hn rfl), h.bl.setCell (p := ⟨q, j, none⟩) hq v⟩
  · rw [Array.getElem?_setIfInBounds, if_neg (by omega)]; exact h3 i hi
  · have := h.sl; rw [e, h1] at this; cases this
theorem FS.cell (h : FS q a9 base p nm bk kn rd cnt sum wc W) {j : Nat} (hj : j < 17) : W.cell? ⟨q, j, none⟩ = (imC p nm bk 0 0 0 0 true (dp kn) (Ux.cp rd))[j]? := by
  obtain ⟨c, h1, h2, h3⟩ := h.im
  exact (cell_of h1 j).trans (h3 j hj)
theorem FS.fz (h : FS q a9 base p nm bk kn rd cnt sum wc W) (j : Nat) : W.frozen? ⟨q, j, none⟩ = false := by
  obtain ⟨c, h1, h2, h3⟩ := h.im
  exact fz_of h1 j
theorem FS.get (q a9 base p : Nat) (nm bk : List UInt8) (kn rd cnt sum : Nat) (wc : World) : ∃ g : World → Nat → Value, ∀ W, FS q a9 base p nm bk kn rd cnt sum wc W → ∀ j, j < 25 → W.cell? ⟨q, j, none⟩ = some (g W j) :=
  ⟨fun W j => (W.cell? ⟨q, j, none⟩).getD (.int .i64 0), fun W h j hj => by
    obtain ⟨c, h1, h2, h3⟩ := h.im
    show W.cell? ⟨q, j, none⟩ = some ((W.cell? ⟨q, j, none⟩).getD (.int .i64 0))
    rw [cell_of h1 j, Array.getElem?_eq_getElem (by omega)]; rfl⟩
end
theorem flush_no {base p m room L i l : Nat} {fl : FL} {nm bk : List UInt8} {w : World} (hd : HG w base p m room fl L) (hi : fl[i]? = some (nm, l)) (hnl : nm.length ≤ 16) {q a b c s kn rd ml : Nat}
    (hq : IM w base p m q nm bk a b c s false kn rd ml) : Calls Tryz.prog 31 #[dp q] w fun e w' => e = .returned (.int .i64 0) ∧ Below w.heap.size w w' := by
  have HU := hid (up_any hd hi hnl q hq.im rfl rfl)
  have y : ∀ W, Below w.heap.size w W → W.cell? ⟨q, 21, none⟩ = some (.bool false) := fun W hW => (cell_of ((hW.block _ hq.lt).trans hq.im) 21).trans rfl
  clear hd hi hq
  go_enter Tryz.func31, Tryz.ntmps31
  go_wp2_with fail
  refine HU.out.mono ?_
  rintro e w1 ⟨rfl, hb⟩
  have y1 := y w1 hb
  go_wp2_with fail
  go_ret
  exact ⟨rfl, hb⟩
set_option maxHeartbeats 4000000 in
theorem flush_ch {base p m room L i : Nat} {fl : FL} {nm bk : List UInt8} {w : World} (hd : HG w base p m room fl L) (hi : fl[i]? = some (nm, 0)) (hnl : nm.length ≤ 16) (hbk : BkOk bk) {q kn rd ml : Nat}
    (hq : IM w base p m q nm bk 0 0 0 0 true kn rd ml) (hur : (fl.map (·.2)).sum + 4 ≤ room) (hroom : room ≤ 1048576) (hL : L ≤ 90000) : Calls Tryz.prog 31 #[dp q] w fun e w' => e = .returned (.int .i64 0) ∧ ∃ cnt sum, IM w' base p m q nm bk 1 2 cnt sum false kn rd ml ∧ cnt = 21 + bk.length ∧ HG w' base p m room (fl.set i (nm, 4)) (L + 3) ∧ KeptO m (some q) w w' ∧ Below base w w' := by
  have HU := hid (up_any hd hi hnl q hq.im rfl rfl)
  have H := hid (And.intro hd (And.intro hi hq))
  have y := fun j => cell_of hq.im j
  clear hd hi hq
  go_enter Tryz.func31, Tryz.ntmps31
  go_wp2_with fail
  refine HU.out.mono ?_
  rintro e w1 ⟨rfl, hb⟩
  have H1 := hid (And.intro (H.out.1.below hb) (And.intro (H.out.2.2.below hb) hb))
  have y1 := fun j => cell_of H1.out.2.1.im j
  clear hb y HU
  simp only [imC] at y1
  go_wp2_with fail
  refine (of_em bk nilS 65536 (by omega) w1).mono ?_
  rintro e w2 ⟨kv, rfl, hu, hb⟩
  have H2 := hid (And.intro (H1.out.1.below hb) (And.intro (H1.out.2.1.below hb) (belT H1.out.2.2 hb)))
  clear y1 hb
  have y2 := fun j => cell_of H2.out.2.1.im j
  simp only [imC] at y2
  go_wp2_with fail
  refine wp_loop_once ?_
  go_wp2_with fail
  have HSV : Hid (∀ W : World, Below w2.heap.size w2 W → Calls Tryz.prog 63 #[dp p, nmv nm, emv bk nilS, slotV 0 0 0 0, kv] W fun e w' => ∃ cnt sum : Nat, e = .returned (.tuple #[slotV 1 2 cnt sum, .int .i64 0]) ∧ Hid (cnt = 21 + bk.length) ∧ HG w' base p m room (fl.set i (nm, 4)) (L + 3) ∧ Fr base m w2 w' ∧ w'.heap[q]? = some (.cells (imC p nm bk 0 0 0 0 true (dp kn) (Ux.cp rd)) 142 (0, 0)) ∧ ∀ c, W.heap[w2.heap.size]? = some (.cells c 124 (0, 0)) → w'.heap[w2.heap.size]? = some (.cells c 124 (0, 0))) := hid fun W hW =>
    (save_any base p m room L i fl nm bk hnl hbk kv W (H2.out.1.below hW) H.out.2.1 ((hu.slI.below hW (Nat.le_refl _)).mono hW.size) hur hroom hL).mono fun e w' ⟨cnt, sum, he, h1, h2, h3, h4⟩ =>
      ⟨cnt, sum, he, hid h1, h3, (Fr.of_below hW H2.out.1.base_le).trans h4, (h4.keptO none).cells (qk_below H2.out.2.1.im hW) (not_map (H2.out.1.below hW).facts.2.1 (qk_below H2.out.2.1.im hW)) (by decide) (by simp), fun c hc => (h4.keptO none).cells hc (not_map (H2.out.1.below hW).facts.2.1 hc) (by decide) (by simp)⟩
  have y3 : ∀ W : World, W.heap[q]? = some (.cells (imC p nm bk 0 0 0 0 true (dp kn) (Ux.cp rd)) 142 (0, 0)) → ∀ j, W.cell? ⟨q, j, none⟩ = (#[dp p, nmv nm, .int .i64 0, .int .i64 4, nmv bk, nilS, nilS, nilS, nilS, .int .i64 0, .int .i64 4, nmv bk, nilS, nilS, nilS, nilS, nilS, .int .i64 0, .int .i64 0, .int .i64 0, .int .u32 0, .bool true, dp kn, Ux.cp rd, .int .i64 0] : Array Value)[j]? := fun W hW j => cell_of hW j
  have h2q := H2.out.2.1.im
  go_cut [9, 10] from 53 to 72 (fun s9 s10 wx => ∃ a9 cnt sum : Nat, s9 = dp a9 ∧ s10 = .int .i64 0 ∧ Hid (wx.heap[a9]? = some (.cells #[.int .i64 1, .int .i64 2, .int .i64 cnt, .int .u32 sum] 124 (0, 0)) ∧ Hid (cnt = 21 + bk.length) ∧ HG wx base p m room (fl.set i (nm, 4)) (L + 3) ∧ Fr base m w2 wx))
  case first =>
    go_region_held3 (fun W => W.heap[q]? = some (.cells (imC p nm bk 0 0 0 0 true (dp kn) (Ux.cp rd)) 142 (0, 0))) (first | with_reducible assumption | (solve | (repeat (first | with_reducible assumption | with_reducible refine qk_drew ?_ | with_reducible refine qk_alloc ?_ _ | with_reducible refine qk_set ?_ ?_ | (show ¬ _; intro hh; have := blk_lt h2q; omega))))) (first
      | (go_at_call 63; refine (HSV.out _ (by solve | (repeat (first | with_reducible exact Below.refl _ _ | with_reducible assumption | with_reducible apply Below.drew | with_reducible refine Below.alloc ?_ ?_ _ | with_reducible exact Nat.le_refl _ | (simp; done))))).mono ?_; rintro e w3 ⟨cnt, sum, rfl, hcs1, hg3, hf3, hq3, hs3⟩; try (with_reducible have h9 := hs3 _ (alloc_drew w2 _); have y9 := fun j => cell_of h9 j; have f9 := fun j => fz_of h9 j)))
    all_goals
      go_wp2_with fail
      go_meet
    case rel => exact ⟨_, _, _, rfl, rfl, hid ⟨alloc_new _ _, hcs1, hg3.below (bel1 _ _), hf3.trans (Fr.of_below (bel1 _ _) hg3.base_le)⟩⟩
    case rel => exact ⟨_, _, _, rfl, rfl, hid ⟨stL_heap [.int .i64 1, .int .i64 2, .int .i64 cnt, .int .u32 sum] w3 0 _ h9, hcs1, HG_stL hg3 h9 (by decide) 0 [.int .i64 1, .int .i64 2, .int .i64 cnt, .int .u32 sum], stL_fr hf3 (Nat.le_refl _) H2.out.1.base_le 0 [.int .i64 1, .int .i64 2, .int .i64 cnt, .int .u32 sum]⟩⟩
  case rest =>
    obtain ⟨a9, cnt, sum, rfl, rfl, hA⟩ := hcut
    have h9q : wc.heap[q]? = some (.cells (imC p nm bk 0 0 0 0 true (dp kn) (Ux.cp rd)) 142 (0, 0)) := (hA.out.2.2.2.keptO none).cells h2q (not_map H2.out.1.facts.2.1 h2q) (by decide) (by simp)
    have HIc := hid (H2.out.2.1.fr hA.out.2.2.2 H2.out.1.facts.2.1)
    have hFw := hid ((Fr.of_below H2.out.2.2 (H.out.1.base_le)).trans hA.out.2.2.2)
    clear HSV y2 h2q y3
    go_wp2_with fail
    obtain ⟨g, hg⟩ := FS.get q a9 base p nm bk kn rd cnt sum wc
    have g17 : ∀ W, FS q a9 base p nm bk kn rd cnt sum wc W → W.cell? ⟨q, 17, none⟩ = some (g W 17) := fun W h => hg W h 17 (by omega)
    have g18 : ∀ W, FS q a9 base p nm bk kn rd cnt sum wc W → W.cell? ⟨q, 18, none⟩ = some (g W 18) := fun W h => hg W h 18 (by omega)
    have g19 : ∀ W, FS q a9 base p nm bk kn rd cnt sum wc W → W.cell? ⟨q, 19, none⟩ = some (g W 19) := fun W h => hg W h 19 (by omega)
    have g20 : ∀ W, FS q a9 base p nm bk kn rd cnt sum wc W → W.cell? ⟨q, 20, none⟩ = some (g W 20) := fun W h => hg W h 20 (by omega)
    have g21 : ∀ W, FS q a9 base p nm bk kn rd cnt sum wc W → W.cell? ⟨q, 21, none⟩ = some (g W 21) := fun W h => hg W h 21 (by omega)
    have z : ∀ W, FS q a9 base p nm bk kn rd cnt sum wc W → ∀ j, W.frozen? ⟨q, j, none⟩ = false := fun W h j => h.fz j
    have l2 : ∀ W, FS q a9 base p nm bk kn rd cnt sum wc W → W.cell? ⟨q, 2, none⟩ = some (.int .i64 0) := fun W h => h.cell (j := 2) (by omega)
    have l3 : ∀ W, FS q a9 base p nm bk kn rd cnt sum wc W → W.cell? ⟨q, 3, none⟩ = some (.int .i64 4) := fun W h => h.cell (j := 3) (by omega)
    have l4 : ∀ W, FS q a9 base p nm bk kn rd cnt sum wc W → W.cell? ⟨q, 4, none⟩ = some (nmv bk) := fun W h => h.cell (j := 4) (by omega)
    have l5 : ∀ W, FS q a9 base p nm bk kn rd cnt sum wc W → W.cell? ⟨q, 5, none⟩ = some nilS := fun W h => h.cell (j := 5) (by omega)
    have l6 : ∀ W, FS q a9 base p nm bk kn rd cnt sum wc W → W.cell? ⟨q, 6, none⟩ = some nilS := fun W h => h.cell (j := 6) (by omega)
    have l7 : ∀ W, FS q a9 base p nm bk kn rd cnt sum wc W → W.cell? ⟨q, 7, none⟩ = some nilS := fun W h => h.cell (j := 7) (by omega)
    have l8 : ∀ W, FS q a9 base p nm bk kn rd cnt sum wc W → W.cell? ⟨q, 8, none⟩ = some nilS := fun W h => h.cell (j := 8) (by omega)
    have l9 : ∀ W, FS q a9 base p nm bk kn rd cnt sum wc W → W.cell? ⟨q, 9, none⟩ = some (.int .i64 0) := fun W h => h.cell (j := 9) (by omega)
    have l10 : ∀ W, FS q a9 base p nm bk kn rd cnt sum wc W → W.cell? ⟨q, 10, none⟩ = some (.int .i64 4) := fun W h => h.cell (j := 10) (by omega)
    have l11 : ∀ W, FS q a9 base p nm bk kn rd cnt sum wc W → W.cell? ⟨q, 11, none⟩ = some (nmv bk) := fun W h => h.cell (j := 11) (by omega)
    have l12 : ∀ W, FS q a9 base p nm bk kn rd cnt sum wc W → W.cell? ⟨q, 12, none⟩ = some nilS := fun W h => h.cell (j := 12) (by omega)
    have l13 : ∀ W, FS q a9 base p nm bk kn rd cnt sum wc W → W.cell? ⟨q, 13, none⟩ = some nilS := fun W h => h.cell (j := 13) (by omega)
    have l14 : ∀ W, FS q a9 base p nm bk kn rd cnt sum wc W → W.cell? ⟨q, 14, none⟩ = some nilS := fun W h => h.cell (j := 14) (by omega)
    have l15 : ∀ W, FS q a9 base p nm bk kn rd cnt sum wc W → W.cell? ⟨q, 15, none⟩ = some nilS := fun W h => h.cell (j := 15) (by omega)
    have s9 : ∀ W, FS q a9 base p nm bk kn rd cnt sum wc W → W.setCell ⟨q, 9, none⟩ (.int .i64 0) = W := fun W h => setCell_self (l9 W h)
    have s10 : ∀ W, FS q a9 base p nm bk kn rd cnt sum wc W → W.setCell ⟨q, 10, none⟩ (.int .i64 4) = W := fun W h => setCell_self (l10 W h)
    have s11 : ∀ W, FS q a9 base p nm bk kn rd cnt sum wc W → W.setCell ⟨q, 11, none⟩ (nmv bk) = W := fun W h => setCell_self (l11 W h)
    have s12 : ∀ W, FS q a9 base p nm bk kn rd cnt sum wc W → W.setCell ⟨q, 12, none⟩ nilS = W := fun W h => setCell_self (l12 W h)
    have s13 : ∀ W, FS q a9 base p nm bk kn rd cnt sum wc W → W.setCell ⟨q, 13, none⟩ nilS = W := fun W h => setCell_self (l13 W h)
    have s14 : ∀ W, FS q a9 base p nm bk kn rd cnt sum wc W → W.setCell ⟨q, 14, none⟩ nilS = W := fun W h => setCell_self (l14 W h)
    have s15 : ∀ W, FS q a9 base p nm bk kn rd cnt sum wc W → W.setCell ⟨q, 15, none⟩ nilS = W := fun W h => setCell_self (l15 W h)
    have y9 : ∀ W, FS q a9 base p nm bk kn rd cnt sum wc W → ∀ j, W.cell? ⟨a9, j, none⟩ = (#[.int .i64 1, .int .i64 2, .int .i64 cnt, .int .u32 sum] : Array Value)[j]? := fun W h j => cell_of h.sl j
    have hfs : FS q a9 base p nm bk kn rd cnt sum wc wc := ⟨⟨_, h9q, rfl, fun _ _ => rfl⟩, hA.out.1, ⟨Nat.le_refl _, fun _ _ _ => rfl⟩, Below.refl _ _⟩
    have hbq := HIc.out.bs.1
    have hbs := hA.out.2.2.1.base_le
    clear hg
    go_cut [] from 76 to 90 (fun wx => Hid (wx.heap[q]? = some (.cells (imC p nm bk 1 2 cnt sum false (dp kn) (Ux.cp rd)) 142 (0, 0)) ∧ Kept wc wx (· ≠ q) ∧ Below base wc wx))
    case first =>
      go_region_held3 (fun W => FS q a9 base p nm bk kn rd cnt sum wc W) (first | with_reducible assumption | (solve | (repeat (first | with_reducible assumption | with_reducible refine FS.drew ?_ | with_reducible refine FS.set ?_ ?_ _ ?_ | omega)))) (first
        | (go_at_call 64; refine (own_em bk _).mono ?_; rintro e w9 ⟨rfl, hb9⟩; have hfs9 := FS.below (by with_reducible assumption) hb9 hbs))
      go_wp2_with fail
      go_meet
      case rel =>
        refine hid ⟨?_, FS.kp (a9 := a9) (base := base) (p := p) (nm := nm) (bk := bk) (kn := kn) (rd := rd) (cnt := cnt) (sum := sum) (by with_reducible assumption), FS.bl (q := q) (a9 := a9) (p := p) (nm := nm) (bk := bk) (kn := kn) (rd := rd) (cnt := cnt) (sum := sum) (by with_reducible assumption)⟩
        exact (stL_heap [.int .i64 1, .int .i64 2, .int .i64 cnt, .int .u32 sum, .bool false] w9 17 _ (qk_below (qk_drew h9q) hb9)).trans (by simp [imC, wrL])
    case rest =>
      have hA2 := hcut
      have HE := hid (And.intro (HIc.out.turn hA2.out.2.1 hA2.out.1) (And.intro hA.out.2.1 (HG.kept hA.out.2.2.1 hA2.out.2.1 fun k hF e => hF (by
        subst e
        exact ⟨not_map hA.out.2.2.1.facts.2.1 h9q, fun c t fr e => by rw [h9q] at e; cases e; decide⟩))))
      have HK := hid (And.intro (show KeptO m (some q) w wc from ⟨Nat.le_trans hFw.out.kept.size hA2.out.2.1.size, fun k hk hF => (hA2.out.2.1.block k (Nat.lt_of_lt_of_le hk hFw.out.kept.size) (fun e => hF.2 (by rw [e]))).trans (hFw.out.kept.block k hk hF.1)⟩) (hFw.out.bel.trans hA2.out.2.2))
      clear hA2 hcut
      go_wp2_with fail
      go_ret
      exact ⟨rfl, cnt, sum, HE.out.1, HE.out.2.1.out, HE.out.2.2, HK.out.1, HK.out.2⟩
/-- the image of a step that keeps the disk's files in their order -/
theorem create_any {base p m room L : Nat} {fl : FL} {bk : List UInt8} {w : World} (c : UInt8) (h1 : 97 ≤ c.toNat) (h2 : c.toNat ≤ 122) (hd : HG w base p m room fl L) (hno : [c] ∉ fl.map (·.1)) (hfl : fl.length < 32) (hbk : BkOk bk)
    (hur : (fl.map (·.2)).sum + 4 ≤ room) (hroom : room ≤ 1048576) (hL : L ≤ 90000) : Calls Tryz.prog 32 #[dp p, nmv [c], .int .i64 0, .int .i64 4, nmv bk] w fun e w' => ∃ q kn rd ml cnt sum : Nat, e = .returned (.tuple #[dp q, .int .i64 0]) ∧
      IM w' base p m q [c] bk 1 2 cnt sum false kn rd ml ∧ (w.heap.size ≤ q ∧ w.heap.size ≤ ml) ∧ cnt = 21 + bk.length ∧ HG w' base p m room (fl ++ [([c], 4)]) (L + 3) ∧ Fr base m w w' := by
  have hN := hid (name_one c h1 h2)
  have H := hid (And.intro hd (And.intro hno (And.intro hbk hfl)))
  clear h1 h2 hd hno hbk hfl
  go_enter Tryz.func32, Tryz.ntmps32
  go_wp2_with fail
  generalize hw0 : w.alloc (.cells #[.int .i64 0, .int .i64 4, nmv bk, nilS, nilS, nilS, nilS] 95) = w0 at *
  have b0 : Below w.heap.size w w0 := hw0 ▸ bel1 w _
  have e0 : w0.heap[w.heap.size]? = some (.cells #[.int .i64 0, .int .i64 4, nmv bk, nilS, nilS, nilS, nilS] 95 (0, 0)) := hw0 ▸ alloc_new w _
  have y : ∀ W, Below w0.heap.size w0 W → ∀ j, W.cell? ⟨w.heap.size, j, none⟩ = (#[.int .i64 0, .int .i64 4, nmv bk, nilS, nilS, nilS, nilS] : Array Value)[j]? := fun W hW j => cell_of ((hW.block _ (blk_lt e0)).trans e0) j
  have H0 := hid (And.intro (H.out.1.below b0) (And.intro b0 e0))
  clear hw0 b0 e0
  refine (hN.out _).mono ?_
  rintro e w' ⟨rfl, rfl⟩
  have y0 := y w0 (Below.refl _ _)
  go_wp2_with fail
  refine (right_em bk H.out.2.2.1 nilS [] w0 (SlI.nil _ _) (by simp) (by simp)).mono ?_
  rintro e w1 ⟨rfl, hb⟩
  have H1 := hid (And.intro (H0.out.1.below hb) (And.intro (belT H0.out.2.1 hb) hb))
  have y1 := y w1 hb
  clear hb y0
  go_wp2_with fail
  refine (create_G H1.out.1 [c] (by simp) (by simp) H.out.2.1 H.out.2.2.2).mono ?_
  rintro e w2 ⟨rfl, hg2, hf2⟩
  have e2 : w2.heap[w.heap.size]? = some (.cells #[.int .i64 0, .int .i64 4, nmv bk, nilS, nilS, nilS, nilS] 95 (0, 0)) := (hf2.keptO none).cells (qk_below H0.out.2.2 H1.out.2.2) (not_map H1.out.1.facts.2.1 (qk_below H0.out.2.2 H1.out.2.2)) (by decide) (by simp)
  have H2 := hid (And.intro hg2 (And.intro ((Fr.of_below H1.out.2.1 H.out.1.base_le).trans hf2) e2))
  have y2 := fun j => cell_of e2 j
  clear hg2 hf2 e2 y1 y
  go_wp2_with fail
  refine (made_im base p m [c] bk w2 H2.out.1.base_le (by obtain ⟨es, cc, h⟩ := H2.out.1.facts.2.1; exact (Array.getElem?_eq_some_iff.1 h).1)).mono ?_
  rintro e w3 ⟨q, kn, rd, ml, rfl, hI, hz, hb⟩
  have H3 := hid (And.intro (H2.out.1.below hb) (And.intro (H2.out.2.1.trans (Fr.of_below hb H2.out.1.base_le)) (And.intro hI (And.intro (Nat.le_trans H2.out.2.1.kept.size hz.1) (Nat.le_trans H2.out.2.1.kept.size hz.2)))))
  have y3 := fun j => cell_of hI.im j
  have f3 := fun j => fz_of hI.im j
  simp only [imC] at y3
  clear y2 hb hI hz
  go_wp2_with fail
  have k4 : Kept w3 (w3.setCell ⟨q, 21, none⟩ (.bool true)) (· ≠ q) := Kept.set w3 q 21 _ fun hn => hn rfl
  have i4 := H3.out.2.2.1.turn k4 (a' := 0) (b' := 0) (c' := 0) (s' := 0) (ch' := true) ((heap_setCell_at' w3 q 21 (.bool true) _ _ _ H3.out.2.2.1.im).trans (by simp [imC]))
  have H4 := hid (And.intro i4 (And.intro (HG.kept H3.out.1 k4 fun k hF e => hF (by
        subst e
        exact ⟨not_map H3.out.1.facts.2.1 H3.out.2.2.1.im, fun c t fr e => by rw [H3.out.2.2.1.im] at e; cases e; decide⟩)) (show Fr base m w (w3.setCell ⟨q, 21, none⟩ (.bool true)) from
        ⟨H3.out.2.1.bel.setCell (p := ⟨q, 21, none⟩) H3.out.2.2.1.bs.1 _, ⟨by rw [World.size_setCell]; exact H3.out.2.1.kept.size, fun k hk hF => (k4.block k (Nat.lt_of_lt_of_le hk H3.out.2.1.kept.size) (by have := H3.out.2.2.2.1; omega)).trans (H3.out.2.1.kept.block k hk hF)⟩⟩)))
  clear k4 i4 y3 f3
  generalize w3.setCell ⟨q, 21, none⟩ (.bool true) = w4 at *
  refine (flush_ch H4.out.2.1 (i := fl.length) (nm := [c]) (by simp) (by simp) H.out.2.2.1 H4.out.1 (by simp; exact hur) hroom hL).mono ?_
  rintro e w5 ⟨rfl, cnt, sum, hi5, hcs, hg5, hk5, hb5⟩
  have hf5 : Fr base m w w5 := ⟨H4.out.2.2.bel.trans hb5, ⟨Nat.le_trans H4.out.2.2.kept.size hk5.size, fun k hk hF => (Kept.block hk5 k (Nat.lt_of_lt_of_le hk H4.out.2.2.kept.size) ⟨⟨hF.1, fun c t fr e => hF.2 c t fr ((H4.out.2.2.kept.block k hk hF).symm.trans e)⟩, fun e => by cases e; have := H3.out.2.2.2.1; omega⟩).trans (H4.out.2.2.kept.block k hk hF)⟩⟩
  have hs5 : (fl ++ [([c], 0)]).set fl.length ([c], 4) = fl ++ [([c], 4)] := by simp
  rw [hs5] at hg5
  have H5 := hid (And.intro hi5 (And.intro hcs (And.intro hg5 hf5)))
  clear hi5 hcs hg5 hf5 hk5 hb5 hs5
  go_wp2_with fail
  exact bodyPost_ret (v := .tuple #[dp q, .int .i64 0]) (by simp [results, Tryz.results32, go_sem]) rfl ⟨q, kn, rd, ml, cnt, sum, rfl, H5.out.1, H3.out.2.2.2, H5.out.2.1, H5.out.2.2.1, H5.out.2.2.2⟩
theorem ownI_stL {b base : Nat} {v : Value} {l : List Int} (hb : b < base) : ∀ (vs : List Value) (i : Nat) (w : World), OwnI w base v l → OwnI (stL w b i vs) base v l
  | [], _, _, h => h
  | u :: vs, i, w, h => ownI_stL hb vs (i + 1) _ (ownI_set (i := i) (u := u) h hb)
theorem meta_any {base p m room L i l : Nat} {fl : FL} {nm bk : List UInt8} {w : World} (hd : HG w base p m room fl L) (hi : fl[i]? = some (nm, l)) (hl : l ≤ 65536) (hnl : nm.length ≤ 16) {q a b c s kn rd ml : Nat} {ch : Bool}
    (hq : IM w base p m q nm bk a b c s ch kn rd ml) : Calls Tryz.prog 36 #[dp q] w fun e w' => ∃ cv, e = .returned (emv bk cv) ∧ OwnI w' w.heap.size cv (c2 l) ∧ Below w.heap.size w w' := by
  have y : ∀ W, Below w.heap.size w W → ∀ j, W.cell? ⟨q, j, none⟩ = (imC p nm bk a b c s ch (dp kn) (Ux.cp rd))[j]? := fun W hW j => cell_of (qk_below hq.im hW) j
  simp only [imC] at y
  have HSZ : Hid (∀ W, Below w.heap.size w W → Calls Tryz.prog 42 #[dp p, nmv nm] W fun e w' => e = .returned (.tuple #[.int .i64 l, .int .i64 0]) ∧ W = w') := hid fun W hW => size_G (hd.below hW) hi (by unfold maxLen; omega)
  clear hd hi hq
  go_enter Tryz.func36, Tryz.ntmps36
  go_wp2_with fail
  generalize hw0 : w.alloc (.cells #[.int .i64 0, .int .i64 0, .string ⟨#[]⟩, nilS, nilS, nilS, nilS] 95) = w0 at *
  have b0 : Below w.heap.size w w0 := hw0 ▸ bel1 w _
  have e0 : w0.heap[w.heap.size]? = some (.cells #[.int .i64 0, .int .i64 0, .string ⟨#[]⟩, nilS, nilS, nilS, nilS] 95 (0, 0)) := hw0 ▸ alloc_new w _
  have y0 : ∀ W, Below w0.heap.size w0 W → ∀ j, W.cell? ⟨q, j, none⟩ = (#[dp p, nmv nm, .int .i64 0, .int .i64 4, nmv bk, nilS, nilS, nilS, nilS, .int .i64 0, .int .i64 4, nmv bk, nilS, nilS, nilS, nilS, nilS, .int .i64 a, .int .i64 b, .int .i64 c, .int .u32 s, .bool ch, dp kn, Ux.cp rd, .int .i64 0] : Array Value)[j]? := fun W hW => y W (belT b0 hW)
  have H0 := hid (And.intro b0 e0)
  clear y b0 e0 hw0
  go_region_held3 (fun w' => Below w0.heap.size w0 w') (first | with_reducible exact (Below.refl _ _).drew | with_reducible assumption | with_reducible exact Below.drew (by assumption)) (first
    | (go_at_call 42; refine (HSZ.out _ (belT H0.out.1 (by first | with_reducible assumption | exact (Below.refl _ _).drew : Below w0.heap.size w0 _))).mono ?_; rintro e w2 ⟨rfl, rfl⟩; have hb3 : Below w0.heap.size w0 w0.drew := (Below.refl _ _).drew))
  have e1 : w0.drew.heap[w.heap.size]? = some (.cells #[.int .i64 0, .int .i64 0, .string ⟨#[]⟩, nilS, nilS, nilS, nilS] 95 (0, 0)) := qk_drew H0.out.2
  have y1 := y0 _ hb3
  have H1 := hid (And.intro hb3 (And.intro (belT H0.out.1 hb3) e1))
  clear HSZ hb3 e1
  generalize w0.drew = w1 at *
  go_wp2_with fail
  refine (own_em bk w1).mono ?_
  rintro e w2 ⟨rfl, hb⟩
  have e3 : (w2.alloc (.cells #[.int .i64 0, .int .i64 4, nmv bk, nilS, nilS, nilS, nilS] 95)).heap[w2.heap.size]? = some (.cells #[.int .i64 0, .int .i64 4, nmv bk, nilS, nilS, nilS, nilS] 95 (0, 0)) := alloc_new _ _
  have e2 : (w2.alloc (.cells #[.int .i64 0, .int .i64 4, nmv bk, nilS, nilS, nilS, nilS] 95)).heap[w.heap.size]? = some (.cells #[.int .i64 0, .int .i64 0, .string ⟨#[]⟩, nilS, nilS, nilS, nilS] 95 (0, 0)) := qk_alloc (qk_below H1.out.2.2 hb) _
  have H2 := hid (And.intro e2 (And.intro e3 ((belT H1.out.2.1 hb).alloc (belT H1.out.2.1 hb).size (.cells #[.int .i64 0, .int .i64 4, nmv bk, nilS, nilS, nilS, nilS] 95))))
  have hz2 := (belT H1.out.2.1 hb).size
  have hlt := blk_lt H0.out.2
  have hlt2 := (belT H1.out.1 hb).size
  clear hb y1 y0
  go_wp2_with fail
  generalize w2.alloc (.cells #[.int .i64 0, .int .i64 4, nmv bk, nilS, nilS, nilS, nilS] 95) = w3 at *
  have y3 := fun j => cell_of H2.out.2.1 j
  go_wp2_with fail
  refine (of_em bk nilS l hl w3).mono ?_
  rintro e w4 ⟨cv, rfl, ho, hb⟩
  have H4 := hid (And.intro (qk_below H2.out.1 hb) (And.intro (qk_below H2.out.2.1 hb) (And.intro (belT H2.out.2.2 hb) ho)))
  obtain ⟨ca, cn, cc, rfl⟩ := slG_sh ho.slI
  clear ho
  have y4 := fun j => cell_of H4.out.2.1 j
  have f4 := fun j => fz_of H4.out.2.1 j
  have x4 := fun j => cell_of H4.out.1 j
  have g4 := fun j => fz_of H4.out.1 j
  have hne : (w.heap.size == w2.heap.size) = false := by simp; omega
  have hne2 : (w2.heap.size == w.heap.size) = false := by simp; omega
  clear hb y3
  go_wp2_with fail
  have hlt3 := blk_lt H2.out.2.1
  have q1 : (stL w4 w2.heap.size 6 [.slice ca cn cc]).heap[w.heap.size]? = some (.cells #[.int .i64 0, .int .i64 0, .string ⟨#[]⟩, nilS, nilS, nilS, nilS] 95 (0, 0)) := qk_set H4.out.1 (by omega)
  have q2 := stL_heap [.int .i64 0, .int .i64 4, nmv bk, nilS, nilS, nilS, .slice ca cn cc] _ 0 _ q1
  have HE := hid (And.intro (ownI_stL (b := w.heap.size) (by omega) [.int .i64 0, .int .i64 4, nmv bk, nilS, nilS, nilS, .slice ca cn cc] 0 _ (ownI_stL (b := w2.heap.size) (by omega) [.slice ca cn cc] 6 _ H4.out.2.2.2)) (stL_below (Nat.le_refl _) [.int .i64 0, .int .i64 4, nmv bk, nilS, nilS, nilS, .slice ca cn cc] _ w 0 (stL_below (b := w2.heap.size) (by omega) [.slice ca cn cc] w4 w 6 H4.out.2.2.1)))
  change (stL (stL w4 w2.heap.size 6 [.slice ca cn cc]) w.heap.size 0 [.int .i64 0, .int .i64 4, nmv bk, nilS, nilS, nilS, .slice ca cn cc]).heap[w.heap.size]? = _ at q2
  have hk : ∀ j, (stL (stL w4 w2.heap.size 6 [.slice ca cn cc]) w.heap.size 0 [.int .i64 0, .int .i64 4, nmv bk, nilS, nilS, nilS, .slice ca cn cc]).cell? ⟨w.heap.size, j, none⟩ = (#[.int .i64 0, .int .i64 4, nmv bk, nilS, nilS, nilS, .slice ca cn cc] : Array Value)[j]? := fun j => cell_of q2 j
  change bodyPost Tryz.prog Tryz.f36 _ _ _ (stL (stL w4 w2.heap.size 6 [.slice ca cn cc]) w.heap.size 0 [.int .i64 0, .int .i64 4, nmv bk, nilS, nilS, nilS, .slice ca cn cc])
  generalize stL (stL w4 w2.heap.size 6 [.slice ca cn cc]) w.heap.size 0 [.int .i64 0, .int .i64 4, nmv bk, nilS, nilS, nilS, .slice ca cn cc] = w5 at *
  exact bodyPost_ret (v := emv bk (.slice ca cn cc)) (by simp [results, Tryz.results36, go_sem, hk, emv]) rfl ⟨_, rfl, OwnV.any_base HE.out.1 (by omega), HE.out.2⟩
end Go.Proofs.YtmcllcepoiakeaaGreat
