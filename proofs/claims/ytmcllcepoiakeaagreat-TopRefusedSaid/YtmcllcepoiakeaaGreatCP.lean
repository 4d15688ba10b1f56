import Derived.Test.YtmcllcepoiakeaaGreatZL
import Derived.Test.YtmcllcepoiakeaaGreatZP4
import Derived.Test.YtmcllcepoiakeaaGreatAS
import Derived.Test.YtmcllcepoiakeaaGreatTBL
set_option linter.unusedSimpArgs false
set_option linter.unusedVariables false
namespace Go.Proofs.YtmcllcepoiakeaaGreat
open Go.RowKit Go.Mx Go.Proofs.YtmcllcepoiakeaaGreat.Dx Go.Dk Go.Cnt Go.Proofs.YtmcllcepoiakeaaGreat.Cx
def bsA : List UInt8 := [102, 101, 100, 99, 98, 97, 57, 56, 55, 54, 53, 52, 51, 50, 49, 48]
set_option maxRecDepth 100000 in
theorem packA_len : (Go.Lz.pack bsA).length = 18 := by decide
theorem freeA : freeM [3, 3, 1, 1] 1 2 65536 = (4, true) := by
  rw [freeM_fit _ _ _ _ (by omega)]
  have : first [3, 3, 1, 1] (1 : Int).toNat (2 : Int).toNat = 4 := by
    show first [3, 3, 1, 1] 1 2 = 4
    rw [first_next _ _ _ (by decide), first_next _ _ _ (by decide), first_end _ _ _ (by decide)]
  rw [this]; rfl
abbrev smA : Nat := (Go.Crc.sum bsA).toNat
set_option maxRecDepth 100000 in
set_option maxHeartbeats 2000000 in
theorem laid_A {w : World} {base p m room L i q s kn : Nat} {fl : FL} {nm : List UInt8} {hv rd : Value} {ch : Bool} {ask : Int} (hd : HG w base p m room fl L) (hi : fl[i]? = some (nm, 4)) (hnl : nm.length ≤ 16)
    (hur : (fl.map (·.2)).sum + 1 ≤ room) (hroom : room ≤ 1048576) (hL : L + 1 ≤ 1000000) (hask : 0 ≤ ask ∧ ask ≤ 1000)
    (h : w.heap[q]? = some (.cells (imX p nm nilS hv s ch (dp kn) rd ask) 142 (0, 0))) (hh : OwnG w base 95 7 hv [emC]) (hkn : w.heap[kn]? = some (.cells #[nilS, .int .i64 0] 310 (0, 0))) (hbs : base ≤ q ∧ base ≤ kn)
    (bv : Value) {b0 : Nat} (hb : OwnB w b0 5 bv bsA) (hb0 : q < b0 ∧ base ≤ b0) :
    Calls Tryz.prog 264 #[dp q, bv] w fun e w' => e = .returned (.tuple #[eV smA, .int .i64 0]) ∧ w'.heap[q]? = some (.cells (imX p nm nilS hv s ch (dp kn) rd (ask + 1)) 142 (0, 0)) ∧ HC w' base p m room (fl.set i (nm, 5)) (L + 1) i nm 5 4 bsA ∧ KA base m q kn w w' := by
  have H := hid (And.intro hd (And.intro hi (And.intro h (And.intro hkn hh))))
  have HB := hid (And.intro hb.slB (And.intro hb hb0))
  have hb1 := bel1 w (.cells #[.int .i64 0, .int .i64 0, .int .i64 0, .int .i64 0, .int .u32 0] 187)
  have e1 := alloc_new w (.cells #[.int .i64 0, .int .i64 0, .int .i64 0, .int .i64 0, .int .u32 0] 187)
  have hz1 : (w.alloc (.cells #[.int .i64 0, .int .i64 0, .int .i64 0, .int .i64 0, .int .u32 0] 187)).heap.size = w.heap.size + 1 := by simp
  have Y : ∀ W, Below w.heap.size w W → ∀ j, W.cell? ⟨q, j, none⟩ = (imX p nm nilS hv s ch (dp kn) rd ask)[j]? := fun W hW j => cell_of ((hW.block _ (blk_lt h)).trans h) j
  simp only [imX] at Y
  have HF : Hid (∀ W, Below w.heap.size w W → Calls Tryz.prog 124 #[bv] W fun e w' => e = .returned (.int .u32 (smA : Nat)) ∧ Below W.heap.size W w') := hid fun W hW => Kx.sum_any bsA bv W ((hb.slB.below hW (Nat.le_refl _)).mono hW.size) (by decide)
  obtain ⟨oa, nn, c, rfl⟩ := slB_shape hb.slB
  obtain ⟨sm, hsm⟩ : ∃ x, x = smA := ⟨_, rfl⟩
  rw [← hsm] at HF ⊢
  clear hd hi h hh hkn hb hb0 hsm
  go_enter Tryz.func264, Tryz.ntmps264
  go_wp2_with fail
  generalize w.alloc (.cells #[.int .i64 0, .int .i64 0, .int .i64 0, .int .i64 0, .int .u32 0] 187) = w1 at *
  have HW1 := hid (And.intro hb1 (And.intro e1 hz1))
  clear hb1 e1 hz1
  go_cut [6] from 21 (fun s6 wx => ∃ a6 : Nat, s6 = .pointer (some ⟨a6, 0, none⟩) ∧ Hid (wx.heap[a6]? = some (.cells #[.int .i64 2, .int .i64 0, .int .i64 1, .int .i64 0, .int .u32 sm] 187 (0, 0)) ∧ Below w1.heap.size w1 wx ∧ w1.heap.size ≤ a6))
  case first =>
    have hwr1 : IntKind.i64.wrap 1 = 1 := by decide
    have Y1 : ∀ W, Below w1.heap.size w1 W → W.cell? ⟨q, 2, none⟩ = some (.int .i64 0) := fun W hW => Y W (HW1.out.1.trans (hW.mono HW1.out.1.size)) 2
    clear Y
    go_region_held (fun W => Below w1.heap.size w1 W) (first | with_reducible assumption | (solve | (repeat (first | with_reducible exact Below.refl _ _ | with_reducible assumption | with_reducible apply Below.drew | with_reducible refine Below.alloc ?_ ?_ _ | with_reducible refine Below.setCell ?_ ?_ _ | with_reducible exact Nat.le_refl _ | (simp; done) | exact Below.size (by assumption))))) (first
      | (go_at_call 124; refine (HF.out _ (HW1.out.1.trans ((by first | with_reducible assumption | exact (Below.refl _ _).drew : Below w1.heap.size w1 _).mono HW1.out.1.size))).mono ?_; rintro e w9 ⟨rfl, hb9⟩; obtain ⟨hc9, hf9, hz9⟩ := bcell hb9; have hb9' := belT (by first | with_reducible assumption | exact (Below.refl _ _).drew : Below w1.heap.size w1 _) hb9))
    all_goals
      go_wp2_with fail
      go_meet
    case rel => exact ⟨_, rfl, hid ⟨alloc_new _ _, hb9'.alloc hb9'.size _, hb9'.size⟩⟩
    case rel => exact ⟨_, rfl, hid ⟨stL_heap [.int .i64 2, .int .i64 0, .int .i64 1, .int .i64 0, .int .u32 sm] w9 0 _ ((hb9.block w1.heap.size (by simp)).trans (alloc_new w1 _)), stL_below (Nat.le_refl _) [.int .i64 2, .int .i64 0, .int .i64 1, .int .i64 0, .int .u32 sm] w9 w1 0 (belT ((bel1 w1 _).drew) hb9), Nat.le_refl _⟩⟩
  case rest =>
    obtain ⟨a6, rfl, hA⟩ := hcut
    have HC1 := hid (And.intro (BL.cons hA.out.1 (BL.cons (qk_below HW1.out.2.1 hA.out.2.1) (BL.nil _))) (And.intro (HW1.out.1.trans (hA.out.2.1.mono HW1.out.1.size)) (show w.heap.size < a6 by have := hA.out.2.2; have := HW1.out.2.2; omega)))
    clear hA HF Y
    go_wp2_with fail
    refine (Zx.pack_call bsA _ wc ((HB.out.1.below HC1.out.2.1 (Nat.le_refl _)).mono HC1.out.2.1.size) (by decide)).mono ?_
    rintro e w2 ⟨pv, rfl, hp, hb2⟩
    have hln := fun ty w' => SlB.len (P := Tryz.prog) (ty := ty) hp Tryz.underlying26 w'
    rw [packA_len] at hln
    obtain ⟨pa, pn, pc, rfl⟩ := slB_shape hp
    have HC2 := hid (And.intro (HC1.out.1.below hb2) (HC1.out.2.1.trans (hb2.mono HC1.out.2.1.size)))
    have k6 := fun j => cell_of HC2.out.1.head j
    have Yq := fun j => cell_of (qk_below H.out.2.2.1 HC2.out.2) j
    have Yf := fun j => fz_of (qk_below H.out.2.2.1 HC2.out.2) j
    simp only [imX] at Yq
    clear hp hb2
    go_wp2_with fail
    refine (aadd q 24 ask 1 w2 (Yq 24) (Yf 24) (by omega)).mono ?_
    rintro e w3 ⟨rfl, hw3⟩
    have hq2 := qk_below H.out.2.2.1 HC2.out.2
    have hq3 : w3.heap[q]? = some (.cells (imX p nm nilS hv s ch (dp kn) rd (ask + 1)) 142 (0, 0)) := by rw [hw3]; exact heap_setCell_at' w2 q 24 (.int .i64 (ask + 1)) _ _ _ hq2
    have hk3 : Kept w2 w3 (· ≠ q) := by rw [hw3]; exact Kept.set _ q 24 _ fun h => h rfl
    have hb3 : Below base w2 w3 := by rw [hw3]; exact (Below.refl _ _).setCell (p := ⟨q, 24, none⟩) hbs.1 _
    have hz3 : w3.heap.size = w2.heap.size := by rw [hw3]; simp
    have hG2 := H.out.1.below HC2.out.2
    have hG3 := HG.kept hG2 hk3 fun k hF e => hF (by subst e; exact ⟨not_map hG2.facts.2.1 hq2, fun c t fr e => by rw [hq2] at e; cases e; decide⟩)
    have hlt := blk_lt H.out.2.2.1
    have hl3 : BL [(a6, #[.int .i64 2, .int .i64 0, .int .i64 1, .int .i64 0, .int .u32 sm], 187), (w.heap.size, #[.int .i64 0, .int .i64 0, .int .i64 0, .int .i64 0, .int .u32 0], 187), (kn, #[nilS, .int .i64 0], 310)] w3 := by
      have h1 := HC1.out.2.2
      have h0 := BL.cons HC2.out.1.head (BL.cons HC2.out.1.tail.head (BL.cons (qk_below H.out.2.2.2.1 HC2.out.2) (BL.nil _)))
      rw [hw3]
      refine h0.other _ fun x hx => ?_
      simp at hx
      rcases hx with rfl | rfl | rfl
      · show a6 ≠ q; omega
      · show w.heap.size ≠ q; omega
      · show kn ≠ q; rintro rfl; have := H.out.2.2.1; rw [H.out.2.2.2.1] at this; cases this
    have hh3 := (H.out.2.2.2.2.below HC2.out.2 (Nat.le_refl _)).kept hk3 fun k hk e => by subst e; exact (OwnG.not (H.out.2.2.2.2.below HC2.out.2 (Nat.le_refl _)) hq2 (by decide)) hk
    have hbv3 := ((HB.out.2.1.below HC2.out.2 HB.out.2.1.lt).setCell (q := 24) HB.out.2.2.1 (.int .i64 (ask + 1)))
    rw [← hw3] at hbv3
    have HBV := hid hbv3
    have HW3 := hid (And.intro hq3 (And.intro hG3 (And.intro hl3 (And.intro hh3 (show KA base m q kn w w3 from (KA.of_below HC2.out.2 H.out.1.base_le).trans ⟨hb3, hk3.imp fun k _ h => h.2.1⟩)))))
    have HU : Hid (∀ W, Below w3.heap.size w3 W → Calls Tryz.prog 284 #[dp q] W fun e w' => ∃ v, e = .returned v ∧ OwnI w' W.heap.size v [3, 3, 1, 1] ∧ Below W.heap.size W w') := hid fun W hW => used_any (hG3.below hW) H.out.2.1 hnl (qk_below hq3 hW) ((hh3.below hW (Nat.le_refl _)).slG)
    have HSZ := hid (show w.heap.size < w3.heap.size ∧ a6 < w3.heap.size from ⟨by have := HC2.out.2.size; have := HC1.out.2.2; have := blk_lt hl3.head; omega, blk_lt hl3.head⟩)
    clear hw3 hq2 hk3 hb3 hG2 hG3 hh3 hq3 hl3 hz3 k6 Yq Yf hln hlt
    have k6 : ∀ W, Below w3.heap.size w3 W → ∀ j, W.cell? ⟨a6, j, none⟩ = (#[.int .i64 2, .int .i64 0, .int .i64 1, .int .i64 0, .int .u32 sm] : Array Value)[j]? := fun W hW j => cell_of (HW3.out.2.2.1.below hW).head j
    go_wp2_with fail
    go_region_held3 (fun W => Below w3.heap.size w3 W) (first | with_reducible assumption | with_reducible exact (Below.refl _ _).drew | with_reducible exact Below.drew (by with_reducible assumption)) (first
      | (go_at_call 207; refine (Cx.free_any [3, 3, 1, 1] _ 1 2 65536 _ (by with_reducible assumption) (by decide) (by decide) (by decide) (by decide)).mono ?_; rintro e w10 ⟨rfl, rfl⟩)
      | (go_at_call 284; refine (HU.out _ (by first | with_reducible assumption | exact (Below.refl _ _).drew)).mono ?_; rintro e w9 ⟨uv, rfl, hu9, hb9⟩; have hu9' := hu9.slI; have hb9' := belT (by first | with_reducible assumption | exact (Below.refl _ _).drew : Below w3.heap.size w3 _) hb9; obtain ⟨ua, un, uc, rfl⟩ := slG_sh hu9'))
    simp only [freeA]
    have HB9 := hid hb9'
    have hl9 := HW3.out.2.2.1.below hb9'
    have hl10 : BL [(a6, #[.int .i64 2, .int .i64 4, .int .i64 1, .int .i64 0, .int .u32 sm], 187), (w.heap.size, #[.int .i64 0, .int .i64 0, .int .i64 0, .int .i64 0, .int .u32 0], 187), (kn, #[nilS, .int .i64 0], 310)] (w9.setCell ⟨a6, 1, none⟩ (.int .i64 4)) := BL.set (i := 1) hl9 _ fun x hx => by
      have h1 := HC1.out.2.2; have h2 := blk_lt H.out.2.2.2.1
      simp at hx
      rcases hx with rfl | rfl
      · show w.heap.size ≠ a6; omega
      · show kn ≠ a6; omega
    have h9q := qk_below HW3.out.1 hb9'
    have hq10 : (w9.setCell ⟨a6, 1, none⟩ (.int .i64 4)).heap[q]? = some (.cells (imX p nm nilS hv s ch (dp kn) rd (ask + 1)) 142 (0, 0)) := qk_set h9q (by have h1 := HC1.out.2.2; have h2 := blk_lt H.out.2.2.1; omega)
    have hG10 : HG (w9.setCell ⟨a6, 1, none⟩ (.int .i64 4)) base p m room fl L := HG_stL (HW3.out.2.1.below hb9') hl9.head (by decide) 1 [.int .i64 4]
    have hK10 : KA base m q kn w (w9.setCell ⟨a6, 1, none⟩ (.int .i64 4)) := KA.stL (HW3.out.2.2.2.2.trans (KA.of_below hb9' HW3.out.2.1.base_le)) (Nat.le_of_lt HC1.out.2.2) H.out.1.base_le 1 [.int .i64 4]
    have hv10 := OwnB.kept' (HBV.out.below hb9' HBV.out.lt) (Kept.set (N := fun k => k ≠ a6) w9 a6 1 (.int .i64 4) fun h => h rfl) hl9.head (by decide) fun k hk => hk
    have y6 := fun j => cell_of hl9.head j
    have f6 := fun j => fz_of hl9.head j
    have HW10 := hid (And.intro hl10 (And.intro hq10 (And.intro hG10 (And.intro hK10 hv10))))
    have HWR : Hid (∀ W, Below (w9.setCell ⟨a6, 1, none⟩ (.int .i64 4)).heap.size (w9.setCell ⟨a6, 1, none⟩ (.int .i64 4)) W → Calls Tryz.prog 127 #[dp p, nmv nm, .int .i64 4, .slice oa nn c] W fun e w' => Fr base m W w' ∧ e = .returned (.int .i64 0) ∧ HC w' base p m room (fl.set i (nm, 5)) (L + 1) i nm 5 4 bsA) := hid fun W hW =>
      write_C (k := 4) (hG10.below hW) H.out.2.1 (by unfold maxLen; omega) _ (stab_own (hv10.below hW hv10.lt) (hG10.below hW).facts.2.1) rfl (by omega) (by omega) hroom hL (by omega)
    clear hl9 hl10 h9q hq10 hG10 hK10 hv10 hb9' hb9 hu9 hu9' k6 HU
    go_wp2_with fail
    clear y6 f6
    generalize w9.setCell ⟨a6, 1, none⟩ (.int .i64 4) = w10 at *
    have hq10 := HW10.out.2.1
    have g0 : ∀ W : World, W.heap[q]? = some (.cells (imX p nm nilS hv s ch (dp kn) rd (ask + 1)) 142 (0, 0)) → W.cell? ⟨q, 0, none⟩ = some (dp p) := fun W hW => cell_of hW 0
    have g1 : ∀ W : World, W.heap[q]? = some (.cells (imX p nm nilS hv s ch (dp kn) rd (ask + 1)) 142 (0, 0)) → W.cell? ⟨q, 1, none⟩ = some (nmv nm) := fun W hW => cell_of hW 1
    go_region_held3 (fun W => W.heap[q]? = some (.cells (imX p nm nilS hv s ch (dp kn) rd (ask + 1)) 142 (0, 0))) (first | with_reducible assumption | with_reducible exact qk_drew hq10 | with_reducible exact qk_drew (by with_reducible assumption)) (first
      | (go_at_call 127; refine (HWR.out _ (by first | with_reducible assumption | exact (Below.refl _ _).drew)).mono ?_; rintro e w11 ⟨hf11, rfl, hc11⟩; have hq11 := hf11.cells (by with_reducible first | exact qk_drew hq10 | assumption) (not_map HW10.out.2.2.1.facts.2.1 hq10) (by decide)))
    have hl11 : BL [(q, imX p nm nilS hv s ch (dp kn) rd (ask + 1), 142), (a6, #[.int .i64 2, .int .i64 4, .int .i64 1, .int .i64 0, .int .u32 sm], 187), (w.heap.size, #[.int .i64 0, .int .i64 0, .int .i64 0, .int .i64 0, .int .u32 0], 187), (kn, #[nilS, .int .i64 0], 310)] w11 := by
      have hm := HW10.out.2.2.1.facts.2.1
      have h0 := HW10.out.1
      exact BL.cons hq11 (BL.cons (hf11.cells (qk_drew h0.head) (not_map hm h0.head) (by decide)) (BL.cons (hf11.cells (qk_drew h0.tail.head) (not_map hm h0.tail.head) (by decide)) (BL.cons (hf11.cells (qk_drew h0.tail.tail.head) (not_map hm h0.tail.tail.head) (by decide)) (BL.nil _))))
    have hv11 : SlB w11 w11.heap.size (.slice oa nn c) bsA := stab_own (w := w10.drew) (HW10.out.2.2.2.2) (HW10.out.2.2.1.facts.2.1) w11 hf11
    have hK11 : KA base m q kn w w11 := HW10.out.2.2.2.1.trans (KA.of_fr (show Fr base m w10 w11 from ⟨(Below.refl _ _).drew.trans hf11.bel, ⟨hf11.kept.size, hf11.kept.block⟩⟩))
    have HW11 := hid (And.intro hl11 (And.intro hK11 hc11))
    have HAD : Hid (∀ W, Below w11.heap.size w11 W → Calls Tryz.prog 285 #[dp kn, .slice oa nn c, eV sm] W fun e w' => e = .returned (.tuple #[]) ∧ Kept W w' (· ≠ kn) ∧ Below base W w') := hid fun W hW => iadd kn base sm bsA _ W (hl11.below hW).tail.tail.tail.head hbs.2 ((hv11.below hW (Nat.le_refl _)).mono hW.size) (by decide)
    have hS0 : BL [(q, imX p nm nilS hv s ch (dp kn) rd (ask + 1), 142), (a6, #[.int .i64 2, .int .i64 4, .int .i64 1, .int .i64 0, .int .u32 sm], 187), (w.heap.size, #[.int .i64 0, .int .i64 0, .int .i64 0, .int .i64 0, .int .u32 0], 187)] w11 := BL.cons hl11.head (BL.cons hl11.tail.head (BL.cons hl11.tail.tail.head (BL.nil _)))
    have hkw : ∀ W W' : World, BL [(q, imX p nm nilS hv s ch (dp kn) rd (ask + 1), 142), (a6, #[.int .i64 2, .int .i64 4, .int .i64 1, .int .i64 0, .int .u32 sm], 187), (w.heap.size, #[.int .i64 0, .int .i64 0, .int .i64 0, .int .i64 0, .int .u32 0], 187)] W → Kept W W' (· ≠ kn) → BL [(q, imX p nm nilS hv s ch (dp kn) rd (ask + 1), 142), (a6, #[.int .i64 2, .int .i64 4, .int .i64 1, .int .i64 0, .int .u32 sm], 187), (w.heap.size, #[.int .i64 0, .int .i64 0, .int .i64 0, .int .i64 0, .int .u32 0], 187)] W' := fun W W' hB hK x hx => (hK.block _ (blk_lt (hB x hx)) (by
      have h1 := HC1.out.2.2; have h2 := blk_lt H.out.2.2.2.1
      simp at hx
      rcases hx with rfl | rfl | rfl
      · show q ≠ kn; rintro rfl; have := H.out.2.2.1; rw [H.out.2.2.2.1] at this; cases this
      · show a6 ≠ kn; omega
      · show w.heap.size ≠ kn; omega)).trans (hB x hx)
    have HKW := hid hkw
    clear hf11 hc11 hq11 hl11 hv11 hK11 hq10 g0 g1 HWR hkw
    go_wp2_with fail
    have g22 : ∀ W, BL [(q, imX p nm nilS hv s ch (dp kn) rd (ask + 1), 142), (a6, #[.int .i64 2, .int .i64 4, .int .i64 1, .int .i64 0, .int .u32 sm], 187), (w.heap.size, #[.int .i64 0, .int .i64 0, .int .i64 0, .int .i64 0, .int .u32 0], 187)] W → W.cell? ⟨q, 22, none⟩ = some (dp kn) := fun W hW => cell_of hW.head 22
    have g6 : ∀ W, BL [(q, imX p nm nilS hv s ch (dp kn) rd (ask + 1), 142), (a6, #[.int .i64 2, .int .i64 4, .int .i64 1, .int .i64 0, .int .u32 sm], 187), (w.heap.size, #[.int .i64 0, .int .i64 0, .int .i64 0, .int .i64 0, .int .u32 0], 187)] W → ∀ j, W.cell? ⟨a6, j, none⟩ = (#[.int .i64 2, .int .i64 4, .int .i64 1, .int .i64 0, .int .u32 sm] : Array Value)[j]? := fun W hW j => cell_of hW.tail.head j
    go_region_held3 (fun W => BL [(q, imX p nm nilS hv s ch (dp kn) rd (ask + 1), 142), (a6, #[.int .i64 2, .int .i64 4, .int .i64 1, .int .i64 0, .int .u32 sm], 187), (w.heap.size, #[.int .i64 0, .int .i64 0, .int .i64 0, .int .i64 0, .int .u32 0], 187)] W) (first | with_reducible assumption | with_reducible exact BL.drew hS0 | with_reducible exact BL.drew (by with_reducible assumption)) (first
      | (go_at_call 285; refine (HAD.out _ (by first | with_reducible assumption | exact (Below.refl _ _).drew)).mono ?_; rintro e w12 ⟨rfl, hk12, hb12⟩; have hl12 := HKW.out _ _ (by with_reducible first | exact BL.drew hS0 | assumption) hk12))
    have HW12 := hid (And.intro hl12 (And.intro (show KA base m q kn w w12 from HW11.out.2.1.trans ⟨(Below.refl _ _).drew.trans hb12, ⟨hk12.size, fun k hk hF => hk12.block k hk hF.2.2⟩⟩) (HW11.out.2.2.kept (w' := w12) (N := fun k => k ≠ kn) ⟨hk12.size, hk12.block⟩ fun k hF e => hF (by subst e; exact ⟨not_map HW11.out.2.2.hg.facts.2.1 HW11.out.1.tail.tail.tail.head, fun c t fr e => by rw [HW11.out.1.tail.tail.tail.head] at e; cases e; decide⟩))))
    have y6 := fun j => cell_of hl12.tail.head j
    have y4 := fun j => cell_of hl12.tail.tail.head j
    have f4 := fun j => fz_of hl12.tail.tail.head j
    clear hl12 hk12 hb12 hS0 g22 g6 HAD HKW
    go_wp2_with fail
    change bodyPost _ _ _ _ _ (stL w12 w.heap.size 0 [.int .i64 2, .int .i64 4, .int .i64 1, .int .i64 0, .int .u32 sm])
    have hl12 := HW12.out.1
    have hE := stL_heap [.int .i64 2, .int .i64 4, .int .i64 1, .int .i64 0, .int .u32 sm] w12 0 _ hl12.tail.tail.head
    have hKL := stL_kept w.heap.size [.int .i64 2, .int .i64 4, .int .i64 1, .int .i64 0, .int .u32 sm] 0 w12
    have hqE := (hKL.block q (blk_lt hl12.head) (Nat.ne_of_lt (blk_lt H.out.2.2.1))).trans hl12.head
    have hCE := HW12.out.2.2.kept hKL fun k hF e => hF (by subst e; exact ⟨not_map HW12.out.2.2.hg.facts.2.1 hl12.tail.tail.head, fun c t fr e => by rw [hl12.tail.tail.head] at e; cases e; decide⟩)
    have hKE := HW12.out.2.1.stL (Nat.le_refl _) H.out.1.base_le 0 [.int .i64 2, .int .i64 4, .int .i64 1, .int .i64 0, .int .u32 sm]
    have HE := hid (And.intro hqE (And.intro hCE hKE))
    have hk := fun i => cell_of hE i
    clear hqE hCE hKE hKL hE hl12
    generalize stL w12 w.heap.size 0 [.int .i64 2, .int .i64 4, .int .i64 1, .int .i64 0, .int .u32 sm] = wE at *
    exact bodyPost_ret (v := .tuple #[eV sm, .int .i64 0]) (by simp [results, Tryz.results264, go_sem, hk, wrL]) rfl ⟨rfl, HE.out.1, HE.out.2.1, HE.out.2.2⟩
abbrev lfA (sm : Int) : List Ent := [.zero, .zero, eA sm, .zero, .zero, .zero, .zero, .zero]
set_option maxRecDepth 100000 in
theorem clone232 (sm : Int) (lv : Value) (w : World) (h : SlE w w.heap.size lv (lfA sm)) : Calls Tryz.prog 232 #[lv] w fun e w' => ∃ v', e = .returned v' ∧ OwnG w' w.heap.size 187 5 v' ((lfA sm).map entC) ∧ Below w.heap.size w w' := by
  have hone : ∀ r ∈ (lfA sm).map entC, ∀ u ∈ r, u.oneCell' = true := by simp [entC, Value.oneCell']
  have hrl : ∀ r ∈ (lfA sm).map entC, r.length = 5 := by simp [entC]
  have hs := h.below (bel1 w (.cells #[] 187)) (Nat.le_refl _)
  obtain ⟨oa, c, rfl, h1, h2, h3⟩ := h
  obtain ⟨bb, bo, rfl, _, _⟩ := h3 (by simp)
  have hq : ∀ w', (binOp .eql 288 (.slice (some ⟨bb, bo, none⟩) 8 c) nilS).run Tryz.prog w' = .ok (.bool false) w' := fun w' => Lib.run_eql_slice_nil w' 288 187 _ _ _ _ _ Tryz.underlying288
  clear h3
  go_enter Tryz.func232, Tryz.ntmps232
  go_wp2_with (at_builtin; refine append_sg _ rfl _ _ 288 187 eZ 5 40 rfl Tryz.underlying288 Tryz.info187 rfl (by decide) w.heap.size _ [] rfl (OwnG.empty w 187 5) w.heap.size _ ((lfA sm).map entC) rfl hs hrl hone ?_ ?_ ?_ ?_)
  · simp
  · simp
  · first | exact Nat.le_refl _ | (simp; try omega)
  intro v' w' ho' hg' hb'
  have hb := ((Below.refl w.heap.size w).alloc (Nat.le_refl _) (.cells #[] 187)).trans hb'
  have ho' : OwnG w' w.heap.size 187 5 v' ((lfA sm).map entC) := ho'
  have HE := hid (And.intro ho' hb)
  clear hg' hb' hs hrl hone hb ho' hq h1 h2
  go_wp2
  go_ret
  exact ⟨_, rfl, HE.out⟩
set_option maxRecDepth 100000 in
theorem copied_A (sm : Int) (tv : Value) (w : World) (h : IsTab w w.heap.size tv (tA sm)) : Calls Tryz.prog 175 #[.agg #[tv]] w fun e w' => ∃ tv', e = .returned (.agg #[tv']) ∧ (∀ W, Kept w' W (fun k => w.heap.size + 1 < k) → IsTab W W.heap.size tv' (tA sm)) ∧ Below w.heap.size w w' := by
  obtain ⟨bb, bo, lv, hbb, hia, hc, hsl⟩ := h.leaf 0 (by simp)
  have hln := fun w' => h.len w' (ty := 3)
  have hia : ∀ w', (Instr.indexAt 88 tv (.int .i64 0)).run Tryz.prog w' = .ok (.pointer (some ⟨bb, bo, none⟩)) w' := fun w' => hia w' .i64
  have hB := bel3 w (.cells #[tv] 90) (.cells #[nilS] 90) (.cells #[nilS] 90)
  have hl := (((BL.nil w).new #[tv] 90).new #[nilS] 90).new #[nilS] 90
  simp only [World.size_alloc] at hl
  obtain ⟨ta, tn, tc, rfl⟩ := h.shape
  obtain ⟨la, ln, lc, rfl⟩ := slG_sh hsl
  have H := hid (And.intro hbb (And.intro hc hsl))
  clear h hbb hc hsl
  go_enter Tryz.func175, Tryz.ntmps175
  go_wp2_with fail
  refine wp_loop_rounds 2 ?_
  rw [rounds_succ]
  have hc3 := (hB.cell (p := ⟨bb, bo, none⟩) H.out.1).trans H.out.2.1
  go_wp2_with fail
  generalize ((w.alloc (.cells #[.slice ta tn tc] 90)).alloc (.cells #[nilS] 90)).alloc (.cells #[nilS] 90) = w3 at *
  have HCL : Hid (∀ W, Below w3.heap.size w3 W → Calls Tryz.prog 232 #[.slice la ln lc] W fun e w' => ∃ v', e = .returned v' ∧ OwnG w' W.heap.size 187 5 v' ((lfA sm).map entC) ∧ Below W.heap.size W w') := hid fun W hW => clone232 sm _ W (SlG.mono (SlG.below H.out.2.2 (hB.trans (hW.mono hB.size)) (Nat.le_refl _)) (Nat.le_trans hB.size hW.size))
  have HS := hid (And.intro hl hB)
  have HZ := hid (show w.heap.size + 2 < w3.heap.size from blk_lt hl.head)
  have x3 : ∀ W, Below w3.heap.size w3 W → W.cell? ⟨w.heap.size + 1 + 1, 0, none⟩ = some nilS := fun W hW => cell_of (hl.below hW).head 0
  have x30 : w3.cell? ⟨w.heap.size + 1 + 1, 0, none⟩ = some nilS := cell_of hl.head 0
  clear hl hB hc3
  go_region_law (first
      | (refine step_append_gn _ (by rfl) (.tmp 14) (.tmp 17) 88 288 nilS 1 24 rfl Tryz.underlying88 Tryz.info288 rfl (by decide) w9.heap.size _ [] (by rfl) (OwnG.nil _ _ _ _) w9.heap.size 1 [.slice ca cn cc] (by rfl) rfl hcell9 hone9 (by decide) (by decide) hbA9 ?_; intro v' w7 ho7 hg7 hb7 hbk7; have hb97 := (bel1 w9 _).trans hb7; have hb37 := belT hb39 hb97; obtain ⟨g7, c7, rfl, h71, h72⟩ := (OwnG.shape ho7).resolve_left (by simp); have g3 := x3 _ hb37; have z3 := fz_of (HS.out.1.below hb37).head 0)
      | (go_simp; go_wp2_with (go_at_call 232; refine (HCL.out _ (by first | exact (Below.refl _ _).drew | exact Below.refl _ _)).mono ?_; rintro e w9 ⟨cv, rfl, ho9, hb9⟩; have hb39 := belT (by first | exact (Below.refl _ _).drew | exact Below.refl _ _ : Below w3.heap.size w3 _) hb9; have hx9 := x3 _ hb39; have hsl9 : SlE w9 w9.heap.size cv (lfA sm) := ho9.slG; obtain ⟨ca, cn, cc, rfl⟩ := slG_sh hsl9; have hcell9 : ∀ j u, [Value.slice ca cn cc][j]? = some u → (w9.alloc (.cells #[.slice ca cn cc] 288)).cell? ⟨w9.heap.size, j, none⟩ = some u := fun j u hj => (by rw [cell_of (alloc_new w9 _) j]; simpa using hj); have hone9 : ∀ u ∈ [Value.slice ca cn cc], u.oneCell' = true := (by simp [Value.oneCell']); have hbA9 : w9.heap.size ≤ (w9.alloc (.cells #[.slice ca cn cc] 288)).heap.size := (by simp); have hxA : ∀ A : Obj, (w9.alloc A).cell? ⟨w.heap.size + 1 + 1, 0, none⟩ = some nilS := fun A => x3 _ (belT hb39 (bel1 w9 A)))))
  all_goals
    have h3 := (HS.out.1.below hb37).head
    have h2 := (HS.out.1.below hb37).tail.head
    have ho9' := ho9.below hb97 (Nat.le_refl _)
    have h3s := heap_setCell_at' w7 (w.heap.size + 1 + 1) 0 (.slice (some ⟨g7, 0, none⟩) 1 c7) _ _ _ h3
    have h2s := qk_set (b := w.heap.size + 1 + 1) (i := 0) (v := .slice (some ⟨g7, 0, none⟩) 1 c7) h2 (by omega)
    have ho7s := ho7.kept (Kept.set (N := fun k => k ≠ w.heap.size + 1 + 1) w7 (w.heap.size + 1 + 1) 0 (.slice (some ⟨g7, 0, none⟩) 1 c7) fun h => h rfl) fun k hk e => by subst e; exact ho7.not h3 (by decide) hk
    have ho9s := ho9'.kept (Kept.set (N := fun k => k ≠ w.heap.size + 1 + 1) w7 (w.heap.size + 1 + 1) 0 (.slice (some ⟨g7, 0, none⟩) 1 c7) fun h => h rfl) fun k hk e => by subst e; exact ho9'.not h3 (by decide) hk
    have hbs := (HS.out.2.trans (hb37.mono HS.out.2.size)).setCell (p := ⟨w.heap.size + 1 + 1, 0, none⟩) (by simp; omega) (.slice (some ⟨g7, 0, none⟩) 1 c7)
    have HE := hid (And.intro h2s (And.intro ho7s (And.intro ho9s hbs)))
    have k3 := cell_of h3s 0
    have k2 := cell_of h2s 0
    have f2 := fz_of h2s 0
    have HZ9 := hid hb39.size
    clear h3 h2 ho9' h3s h2s ho7s ho9s hbs ho7 hg7 hb7 hbk7 hb97 hb37 g3 z3 ho9 hb9 hb39 hx9 hsl9 hcell9 hone9 hbA9 hxA
    generalize w7.setCell ⟨w.heap.size + 1 + 1, 0, none⟩ (.slice (some ⟨g7, 0, none⟩) 1 c7) = w8 at *
    go_wp2_with fail
    rw [rounds_succ]
    go_wp2_with fail
    have h9 := heap_setCell_at' w8 (w.heap.size + 1) 0 (.slice (some ⟨g7, 0, none⟩) 1 c7) _ _ _ HE.out.1
    have hk := fun i => cell_of h9 i
    have ho7t := HE.out.2.1.kept (Kept.set (N := fun k => k ≠ w.heap.size + 1) w8 (w.heap.size + 1) 0 (.slice (some ⟨g7, 0, none⟩) 1 c7) fun h => h rfl) fun k hk e => by subst e; exact HE.out.2.1.not HE.out.1 (by decide) hk
    have ho9t := HE.out.2.2.1.kept (Kept.set (N := fun k => k ≠ w.heap.size + 1) w8 (w.heap.size + 1) 0 (.slice (some ⟨g7, 0, none⟩) 1 c7) fun h => h rfl) fun k hk e => by subst e; exact HE.out.2.2.1.not HE.out.1 (by decide) hk
    refine bodyPost_ret (v := .agg #[.slice (some ⟨g7, 0, none⟩) 1 c7]) (by simp [results, Tryz.results175, go_sem, hk]) rfl ⟨_, rfl, fun W hK => ⟨[.slice ca cn cc], rfl, (ho7t.kept hK fun k hk => by have h1 := ho7t.ge k hk; have h2 := HZ.out; have h3 := HZ9.out; show w.heap.size + 1 < k; omega).slG, ?_⟩, HE.out.2.2.2.setCell (p := ⟨w.heap.size + 1, 0, none⟩) (by simp) _⟩
    intro i hi
    obtain rfl : i = 0 := by simp at hi; exact hi
    exact (ho9t.kept hK fun k hk => by have h1 := ho9t.ge k hk; have h2 := HZ.out; have h3 : w3.heap.size ≤ w3.drew.heap.size := Nat.le_refl _; show w.heap.size + 1 < k; omega).slG
theorem cut_A (sm : Int) (tv : Value) (w : World) (h : IsTab w w.heap.size tv (tA sm)) : Calls Tryz.prog 98 #[.agg #[tv], .int .i64 4096] w fun e w' => ∃ tv', e = .returned (.agg #[tv']) ∧ (∀ W, Kept w' W (fun k => w.heap.size + 1 < k) → IsTab W W.heap.size tv' (tA sm)) ∧ Below w.heap.size w w' := by
  have hln := fun w' => h.len w' (ty := 3)
  have hB := bel2 w (.cells #[tv] 90) (.cells #[nilS] 90)
  have hl := ((BL.nil w).new #[tv] 90).new #[nilS] 90
  simp only [World.size_alloc] at hl
  have H := hid h
  obtain ⟨ta, tn, tc, rfl⟩ := h.shape
  clear h
  go_enter Tryz.func98, Tryz.ntmps98
  go_wp2_with fail
  generalize (w.alloc (.cells #[.slice ta tn tc] 90)).alloc (.cells #[nilS] 90) = w2 at *
  rw [show max (4096 : Int) 0 = 4096 from rfl]
  refine wp_loop_once ?_
  have k0 := cell_of hl.tail.head 0
  go_wp2_with fail
  have hI := H.out.below hB (Nat.le_refl _)
  refine (copied_A sm _ w2 (hI.mono hB.size)).mono ?_
  rintro e w3 ⟨tv', rfl, ht, hb⟩
  have k1 := cell_of (hl.below hb).head 0
  have f1 := fz_of (hl.below hb).head 0
  obtain ⟨xa, xn, xc, rfl⟩ := (ht w3 (Kept.of_below (Below.refl _ _) fun _ h _ => h)).shape
  have HE := hid (And.intro ht (And.intro (hB.trans (hb.mono hB.size)) (hl.below hb).head))
  have HZ := hid (show w.heap.size + 1 < w2.heap.size from blk_lt hl.head)
  clear ht hb hI k0
  go_wp2_with fail
  have h9 := heap_setCell_at' w3 (w.heap.size + 1) 0 (.slice xa xn xc) _ _ _ HE.out.2.2
  have hk := fun i => cell_of h9 i
  exact bodyPost_ret (v := .agg #[.slice xa xn xc]) (by simp [results, Tryz.results98, go_sem, hk]) rfl ⟨_, rfl, fun W hK => HE.out.1 W (((Kept.set (N := fun k => k ≠ w.heap.size + 1) w3 (w.heap.size + 1) 0 (.slice xa xn xc) fun h => h rfl).imp fun k _ hk => by have h1 := HZ.out; have h2 : w2.heap.size + 1 < k := hk; omega).trans (hK.imp fun k _ hk => by have h1 := HZ.out; have h2 : w2.heap.size + 1 < k := hk; show w.heap.size + 1 < k; omega)), HE.out.2.1.setCell (p := ⟨w.heap.size + 1, 0, none⟩) (by simp) _⟩
end Go.Proofs.YtmcllcepoiakeaaGreat
