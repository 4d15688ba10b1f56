import Derived.Test.YtmcllcepoiakeaaGreatOT
import Derived.Test.YtmcllcepoiakeaaGreatCP
import Derived.Test.YtmcllcepoiakeaaGreatTBL
import Derived.Test.YtmcllcepoiakeaaGreatCE
set_option linter.unusedSimpArgs false
set_option linter.unusedVariables false
namespace Go.Proofs.YtmcllcepoiakeaaGreat
open Go.RowKit Go.Mx Go.Proofs.YtmcllcepoiakeaaGreat.Dx Go.Dk Go.Cnt Go.Proofs.YtmcllcepoiakeaaGreat.Cx
theorem good_A (sm : Int) : ∀ i, i < (eachM (tA sm) []).length → GoodE ((eachM (tA sm) []).getD i default).e := by
  have key : ∀ x ∈ eachM (tA sm) [], GoodE x.e := by
    intro x hx
    simp only [eachM, eachTo, linesT, linesTo, List.length_nil, List.range_zero, List.flatMap_nil, List.append_nil, List.mem_map, List.mem_filter, List.mem_range] at hx
    obtain ⟨k, ⟨hk, hr⟩, rfl⟩ := hx
    have hk8 : k < 8 := hk
    match k, hk8, hr with
    | 0, _, hr => exact absurd hr (by simp [getM, isR, Ent.zero])
    | 1, _, hr => exact absurd hr (by simp [getM, isR, Ent.zero])
    | 2, _, _ => exact ⟨by show (2 : Int) ≤ 4; decide, by show (1 : Int) ≤ 1; decide, by show (4 : Int) + 1 ≤ 65536; decide⟩
    | 3, _, hr => exact absurd hr (by simp [getM, isR, Ent.zero])
    | 4, _, hr => exact absurd hr (by simp [getM, isR, Ent.zero])
    | 5, _, hr => exact absurd hr (by simp [getM, isR, Ent.zero])
    | 6, _, hr => exact absurd hr (by simp [getM, isR, Ent.zero])
    | 7, _, hr => exact absurd hr (by simp [getM, isR, Ent.zero])
  intro i hi
  rw [List.getD_eq_getElem?_getD, List.getElem?_eq_getElem hi]
  exact key _ (List.getElem_mem _)
theorem of_A (sm : Int) (tv : Value) (w : World) (h : IsTab w w.heap.size tv (tA sm)) : Calls Tryz.prog 62 #[tmv tv nilS, .int .i64 5] w fun e w' => ∃ ca cn cc, e = .returned (.slice ca cn cc) ∧ Below w.heap.size w w' :=
  (of_any (.int .i64 0) (.int .i64 4) (nmv []) tv nilS nilS nilS (tA sm) [] 5 w h ⟨[], rfl, SlG.nil _ _ _, fun i hi => absurd hi (by simp)⟩ (by simp) (by simp) (by simp) (good_A sm)).mono fun e w' ⟨v, he, ho, hb⟩ => by
    obtain ⟨a, b, c, rfl⟩ := slG_sh ho.slI
    exact ⟨a, b, c, he, hb⟩
set_option maxRecDepth 100000 in
set_option maxHeartbeats 2000000 in
theorem meta_T {w : World} {base p m aa am room L B : Nat} {g : IG} {tv hv : Value} (h : AW w base p m aa am room L B g tv hv) (hnl : g.nm.length ≤ 16) : Calls Tryz.prog 36 #[dp g.q] w fun e w' => ∃ xa xn xc ca cn cc, e = .returned (tmv (.slice xa xn xc) (.slice ca cn cc)) ∧ Below w.heap.size w w' := by
  have HA := hid h
  have ht := h.tab w (Kept.of_below (Below.refl _ _) fun _ h _ => h)
  have HT := hid ht
  have y : ∀ W, Below w.heap.size w W → ∀ j, W.cell? ⟨g.q, j, none⟩ = (imX p g.nm tv hv g.s true (dp g.kn) (Ux.cp g.rd) 1)[j]? := fun W hW j => cell_of (qk_below h.im hW) j
  obtain ⟨ta, tn, tc, rfl⟩ := ht.shape
  simp only [imX] at y
  have HSZ : Hid (∀ W, Below w.heap.size w W → Calls Tryz.prog 42 #[dp p, nmv g.nm] W fun e w' => e = .returned (.tuple #[.int .i64 5, .int .i64 0]) ∧ W = w') := hid fun W hW => size_G (h.hc.hg.below hW) h.hc.at (by unfold maxLen; omega)
  clear h ht
  go_enter Tryz.func36, Tryz.ntmps36
  go_wp2_with fail
  generalize hw0 : w.alloc (.cells #[.int .i64 0, .int .i64 0, .string ⟨#[]⟩, nilS, nilS, nilS, nilS] 95) = w0 at *
  have b0 : Below w.heap.size w w0 := hw0 ▸ bel1 w _
  have e0 : w0.heap[w.heap.size]? = some (.cells #[.int .i64 0, .int .i64 0, .string ⟨#[]⟩, nilS, nilS, nilS, nilS] 95 (0, 0)) := hw0 ▸ alloc_new w _
  have y0 : ∀ W, Below w0.heap.size w0 W → ∀ j, W.cell? ⟨g.q, j, none⟩ = _ := fun W hW j => y W (belT b0 hW) j
  have H0 := hid (And.intro b0 e0)
  clear y b0 e0 hw0
  go_region_held3 (fun w' => Below w0.heap.size w0 w') (first | with_reducible exact (Below.refl _ _).drew | with_reducible assumption | with_reducible exact Below.drew (by assumption)) (first
    | (go_at_call 42; refine (HSZ.out _ (belT H0.out.1 (by first | with_reducible assumption | exact (Below.refl _ _).drew : Below w0.heap.size w0 _))).mono ?_; rintro e w2 ⟨rfl, rfl⟩; have hb3 : Below w0.heap.size w0 w0.drew := (Below.refl _ _).drew))
  have e1 := qk_drew H0.out.2
  have y1 := y0 _ hb3
  have H1 := hid (And.intro hb3 (And.intro (belT H0.out.1 hb3) e1))
  clear HSZ hb3 e1
  generalize w0.drew = w1 at *
  go_wp2_with fail
  refine (own_T _ _ w1 ((HT.out.below H1.out.2.1 (Nat.le_refl _)).mono H1.out.2.1.size)).mono ?_
  rintro e w2 ⟨tv', rfl, ht2, hb⟩
  have ht3 := ht2 (w2.alloc (.cells #[.int .i64 0, .int .i64 4, nmv [], tv', nilS, nilS, nilS] 95)) (Kept.of_below (bel1 _ _) fun _ h _ => h)
  obtain ⟨xa, xn, xc, rfl⟩ := ht3.shape
  have e3 : (w2.alloc (.cells #[.int .i64 0, .int .i64 4, nmv [], .slice xa xn xc, nilS, nilS, nilS] 95)).heap[w2.heap.size]? = some (.cells #[.int .i64 0, .int .i64 4, nmv [], .slice xa xn xc, nilS, nilS, nilS] 95 (0, 0)) := alloc_new _ _
  have e2 : (w2.alloc (.cells #[.int .i64 0, .int .i64 4, nmv [], .slice xa xn xc, nilS, nilS, nilS] 95)).heap[w.heap.size]? = some (.cells #[.int .i64 0, .int .i64 0, .string ⟨#[]⟩, nilS, nilS, nilS, nilS] 95 (0, 0)) := qk_alloc (qk_below H1.out.2.2 hb) _
  have H2 := hid (And.intro e2 (And.intro e3 (And.intro ((belT H1.out.2.1 hb).alloc (belT H1.out.2.1 hb).size (.cells #[.int .i64 0, .int .i64 4, nmv [], .slice xa xn xc, nilS, nilS, nilS] 95)) ht3)))
  have hz2 := (belT H1.out.2.1 hb).size
  have hlt := blk_lt H0.out.2
  have hlt2 := (belT H1.out.1 hb).size
  clear hb y1 y0 ht2 ht3
  go_wp2_with fail
  generalize w2.alloc (.cells #[.int .i64 0, .int .i64 4, nmv [], .slice xa xn xc, nilS, nilS, nilS] 95) = w3 at *
  have y3 := fun j => cell_of H2.out.2.1 j
  go_wp2_with fail
  refine (of_A _ _ w3 H2.out.2.2.2).mono ?_
  rintro e w4 ⟨ca, cn, cc, rfl, hb⟩
  have H4 := hid (And.intro (qk_below H2.out.1 hb) (And.intro (qk_below H2.out.2.1 hb) (belT H2.out.2.2.1 hb)))
  have y4 := fun j => cell_of H4.out.2.1 j
  have f4 := fun j => fz_of H4.out.2.1 j
  have x4 := fun j => cell_of H4.out.1 j
  have g4 := fun j => fz_of H4.out.1 j
  have hne : (w.heap.size == w2.heap.size) = false := by simp; omega
  have hne2 : (w2.heap.size == w.heap.size) = false := by simp; omega
  clear hb y3
  go_wp2_with fail
  have hlt3 := blk_lt H2.out.2.1
  have q1 : (stL w4 w2.heap.size 6 [.slice ca cn cc]).heap[w.heap.size]? = some (.cells #[.int .i64 0, .int .i64 0, .string ⟨#[]⟩, nilS, nilS, nilS, nilS] 95 (0, 0)) := qk_set H4.out.1 (by omega)
  have q2 := stL_heap [.int .i64 0, .int .i64 4, nmv [], .slice xa xn xc, nilS, nilS, .slice ca cn cc] _ 0 _ q1
  have HE := hid (stL_below (Nat.le_refl _) [.int .i64 0, .int .i64 4, nmv [], .slice xa xn xc, nilS, nilS, .slice ca cn cc] _ w 0 (stL_below (b := w2.heap.size) (by omega) [.slice ca cn cc] w4 w 6 H4.out.2.2))
  change (stL (stL w4 w2.heap.size 6 [.slice ca cn cc]) w.heap.size 0 [.int .i64 0, .int .i64 4, nmv [], .slice xa xn xc, nilS, nilS, .slice ca cn cc]).heap[w.heap.size]? = _ at q2
  have hk : ∀ j, (stL (stL w4 w2.heap.size 6 [.slice ca cn cc]) w.heap.size 0 [.int .i64 0, .int .i64 4, nmv [], .slice xa xn xc, nilS, nilS, .slice ca cn cc]).cell? ⟨w.heap.size, j, none⟩ = (#[.int .i64 0, .int .i64 4, nmv [], .slice xa xn xc, nilS, nilS, .slice ca cn cc] : Array Value)[j]? := fun j => cell_of q2 j
  change bodyPost Tryz.prog Tryz.f36 _ _ _ (stL (stL w4 w2.heap.size 6 [.slice ca cn cc]) w.heap.size 0 [.int .i64 0, .int .i64 4, nmv [], .slice xa xn xc, nilS, nilS, .slice ca cn cc])
  generalize stL (stL w4 w2.heap.size 6 [.slice ca cn cc]) w.heap.size 0 [.int .i64 0, .int .i64 4, nmv [], .slice xa xn xc, nilS, nilS, .slice ca cn cc] = w5 at *
  exact bodyPost_ret (v := tmv (.slice xa xn xc) (.slice ca cn cc)) (by simp [results, Tryz.results36, go_sem, hk]) rfl ⟨_, _, _, _, _, _, rfl, HE.out⟩
theorem ownB_G {w : World} {base : Nat} {e : TypeId} {v : Value} {l : List UInt8} (h : OwnB w base e v l) : OwnG w base e 1 v (l.map fun x => [u8 x]) := by
  have e1 : (l.map fun x => [u8 x]).flatten = l.map u8 := by
    clear h
    induction l with
    | nil => rfl
    | cons a l ih => simp [ih]
  refine ⟨by rw [e1, List.length_map]; exact h, fun r hr => ?_⟩
  obtain ⟨x, _, rfl⟩ := List.mem_map.1 hr; rfl
theorem ownG_B {w : World} {base : Nat} {e : TypeId} {v : Value} {l : List UInt8} (h : OwnG w base e 1 v (l.map fun x => [u8 x])) : OwnB w base e v l := by
  have e1 : (l.map fun x => [u8 x]).flatten = l.map u8 := by
    clear h
    induction l with
    | nil => rfl
    | cons a l ih => simp [ih]
  have := h.1
  rw [e1, List.length_map] at this; exact this
theorem slB_G {w : World} {B : Nat} {v : Value} {l : List UInt8} (h : SlB w B v l) : SlG w B 1 v (l.map fun x => [u8 x]) := by
  obtain ⟨oa, cap, rfl, h1, h2, h3⟩ := h
  refine ⟨oa, cap, by simp, by simpa using h1, by simpa using h2, fun hn => ?_⟩
  obtain ⟨bb, bo, rfl, hl, hr⟩ := h3 (by rintro rfl; simp at hn)
  refine ⟨bb, bo, rfl, hl, fun i hi j u hj => ?_⟩
  rw [List.length_map] at hi
  have hg : (l.map fun x => [u8 x]).getD i [] = [u8 (l.getD i 0)] := by
    rw [List.getD_eq_getElem?_getD, List.getElem?_map, List.getElem?_eq_getElem hi, List.getD_eq_getElem?_getD, List.getElem?_eq_getElem hi]; rfl
  rw [hg] at hj
  match j, hj with
  | 0, hj => simp at hj; subst hj; have := hr i hi; rw [show bo + i * 1 + 0 = bo + i by omega]; exact this
  | j + 1, hj => simp at hj
abbrev e2V (sm : Int) : Value := .agg #[.int .i64 2, .int .i64 2, .int .i64 1, .int .i64 0, .int .u32 sm]
theorem place_2 (sm : Int) (w : World) : Calls Tryz.prog 254 #[e2V sm] w fun e w' => e = .returned (.bool true) ∧ Below w.heap.size w w' := by
  go_enter Tryz.func254, Tryz.ntmps254
  go_wp2
  go_ret
  exact ⟨rfl, bel1 _ _⟩
theorem emay_2 (sm : Int) (w : World) : Calls Tryz.prog 213 #[e2V sm, .int .i64 0] w fun e w' => e = .returned (.bool true) ∧ Below w.heap.size w w' := by
  go_enter Tryz.func213, Tryz.ntmps213
  go_wp2_with fail
  refine (place_2 sm _).mono ?_
  rintro e w1 ⟨rfl, hb⟩
  go_wp2
  go_ret
  exact ⟨rfl, bel1' hb⟩
def z32 : List UInt8 := List.replicate 32 0
set_option maxRecDepth 100000 in
set_option maxHeartbeats 1000000 in
theorem chk_A (fv : Value) (w : World) (hf : SlB w w.heap.size fv (z32 ++ bsA)) : Calls Tryz.prog 161 #[e2V smA, fv, .int .i64 0] w fun e w' => ∃ v, e = .returned (.tuple #[v, .int .i64 0]) ∧ OwnB w' w.heap.size 5 v bsA ∧ Below w.heap.size w w' := by
  obtain ⟨xv, hxv, hsl⟩ := hf.part (P := Tryz.prog) Tryz.underlying26 (fun w => by kernel_rfl) 32 48 (by decide) (by decide)
  have hsl : ∀ w', (Instr.slice 26 fv (some (.int .i64 32)) (some (.int .i64 48)) none).run Tryz.prog w' = .ok xv w' := fun w' => hsl w' .i64 .i64
  have hxv : SlB w w.heap.size xv bsA := hxv
  have hln := fun ty w' => SlB.len (P := Tryz.prog) (ty := ty) hf Tryz.underlying26 w'
  rw [show (z32 ++ bsA).length = 48 from rfl] at hln
  have HX := hid hxv
  obtain ⟨oa, nn, c, rfl⟩ := slB_shape hf
  obtain ⟨xa, xn, xc, rfl⟩ := slB_shape hxv
  obtain ⟨sm, hsm⟩ : ∃ x, x = smA := ⟨_, rfl⟩
  have HSM := hid hsm
  rw [← hsm]
  have hb0 := bel1 w (.cells #[.int .i64 2, .int .i64 2, .int .i64 1, .int .i64 0, .int .u32 sm] 187)
  have e0 := alloc_new w (.cells #[.int .i64 2, .int .i64 2, .int .i64 1, .int .i64 0, .int .u32 sm] 187)
  clear hf hxv hsm
  go_enter Tryz.func161, Tryz.ntmps161
  go_wp2_with fail
  generalize w.alloc (.cells #[.int .i64 2, .int .i64 2, .int .i64 1, .int .i64 0, .int .u32 sm] 187) = w0 at *
  refine (emay_2 sm w0).mono ?_
  rintro e w1 ⟨rfl, hb1⟩
  have hB1 := hb0.trans (hb1.mono hb0.size)
  have e1 := qk_below e0 hb1
  have k1 := fun j => cell_of e1 j
  have H1 := hid (And.intro hB1 e1)
  clear hb0 e0 hb1 hB1 e1
  go_wp2_with fail
  refine (Ux.clone_b _ bsA w.heap.size w1 (HX.out.below H1.out.1 (Nat.le_refl _)) H1.out.1.size (by decide)).mono ?_
  rintro e w2 ⟨v, rfl, ho, hb⟩
  have hln2 := fun ty w' => SlB.len (P := Tryz.prog) (ty := ty) ho.slB Tryz.underlying26 w'
  rw [show bsA.length = 16 from rfl] at hln2
  have e2 := qk_below H1.out.2 hb
  have H2 := hid (And.intro (H1.out.1.trans (hb.mono H1.out.1.size)) (And.intro e2 ho))
  have k2 := fun j => cell_of e2 j
  obtain ⟨va, vn, vc, rfl⟩ := slB_shape ho.slB
  have HF : Hid (∀ W, Below w2.heap.size w2 W → Calls Tryz.prog 124 #[.slice va vn vc] W fun e w' => e = .returned (.int .u32 (sm : Nat)) ∧ Below W.heap.size W w') := hid fun W hW => by rw [HSM.out]; exact Kx.sum_any bsA _ W ((H2.out.2.2.slB.below hW (Nat.le_refl _)).mono hW.size) (by decide)
  clear k1 hb e2 ho
  go_wp2_with fail
  have y2 : ∀ W, Below w2.heap.size w2 W → ∀ j, W.cell? ⟨w.heap.size, j, none⟩ = (#[.int .i64 2, .int .i64 2, .int .i64 1, .int .i64 0, .int .u32 sm] : Array Value)[j]? := fun W hW j => cell_of (qk_below H2.out.2.1 hW) j
  clear k2
  go_region_held3 (fun w' => Below w2.heap.size w2 w') (first | with_reducible exact (Below.refl _ _).drew | with_reducible assumption | with_reducible exact Below.drew (by assumption)) (first
    | (go_at_call 124; refine (HF.out _ (by first | with_reducible assumption | exact (Below.refl _ _).drew)).mono ?_; rintro e w3 ⟨rfl, hb3⟩; have hb3' := belT (by first | with_reducible assumption | exact (Below.refl _ _).drew : Below w2.heap.size w2 _) hb3))
  have HE := hid (And.intro (OwnB.any_base (H2.out.2.2.below hb3' H2.out.2.2.lt) H1.out.1.size) (H2.out.1.trans (hb3'.mono H2.out.1.size)))
  clear hb3 hb3' y2 HF
  go_wp2_with fail
  go_ret2
  exact ⟨_, rfl, HE.out⟩
def zc32 : Array Value := (z32.map Mx.u8).toArray
theorem mk32 (w : World) : (Instr.makeSlice 26 (.int .i64 32) (.int .i64 32)).run Tryz.prog w = .ok (.slice (some ⟨w.heap.size, 0, none⟩) 32 32) (w.alloc (.cells zc32 5)) := by
  obtain ⟨i, hi, h1, h2, h3⟩ := info_parts Tryz.info5
  have := run_make (P := Tryz.prog) w 26 5 i (.int .u8 0) Tryz.underlying26 hi h1 .i64 .i64 32 32 (by decide) (by decide) (by rw [h3]; decide) (by decide)
  rw [h2] at this
  rw [this, show madeCells (Value.int .u8 0).cells (Int.toNat 32 * 1) = zc32 by kernel_rfl]
  rfl
/-- what a read keeps: all but the cache -/
structure RF (base rd ml : Nat) (w w' : World) : Prop where
  bel : Below base w w'
  kp : Kept w w' fun k => k ≠ rd ∧ k ≠ ml
theorem RF.trans {base rd ml : Nat} {a b c : World} (h : RF base rd ml a b) (k : RF base rd ml b c) : RF base rd ml a c := ⟨h.bel.trans k.bel, h.kp.trans k.kp⟩
theorem RF.of_below {base rd ml : Nat} {w w' : World} (h : Below w.heap.size w w') (hb : base ≤ w.heap.size) : RF base rd ml w w' := ⟨h.mono hb, .of_below h fun _ h _ => h⟩
theorem RF.cells {base rd ml : Nat} {w w' : World} (h : RF base rd ml w w') {k : Nat} {c : Array Value} {t : TypeId} {f : Nat × Nat} (hc : w.heap[k]? = some (.cells c t f)) {c1 : Array Value} {t1 : TypeId} {f1 : Nat × Nat} (hr : w.heap[rd]? = some (.cells c1 t1 f1)) (hm : ∃ es c, w.heap[ml]? = some (.map es c)) (n : t ≠ t1) : w'.heap[k]? = some (.cells c t f) :=
  (h.kp.block _ (blk_lt hc) ⟨ne_tyC hc hr n, not_map hm hc⟩).trans hc
set_option maxRecDepth 100000 in
set_option maxHeartbeats 2000000 in
theorem bytes_A {w : World} {base p m aa am room L B : Nat} {g : IG} {tv hv : Value} (h : AW w base p m aa am room L B g tv hv) (hnl : g.nm.length ≤ 16) : Calls Tryz.prog 152 #[dp g.q, eV smA] w fun e w' => ∃ v b0, e = .returned (.tuple #[v, .int .i64 0]) ∧ OwnB w' b0 5 v bsA ∧ w.heap.size ≤ b0 ∧ RF base g.rd g.ml w w' := by
  have HA := hid h
  have y : ∀ W, Below w.heap.size w W → ∀ j, W.cell? ⟨g.q, j, none⟩ = (imX p g.nm tv hv g.s true (dp g.kn) (Ux.cp g.rd) 1)[j]? := fun W hW j => cell_of (qk_below h.im hW) j
  have hsh := (h.tab w (Kept.of_below (Below.refl _ _) fun _ h _ => h)).shape
  obtain ⟨ta, tn, tc, rfl⟩ := hsh
  simp only [imX] at y
  have HRD : Hid (∀ W, Below w.heap.size w W → Calls Tryz.prog 26 #[dp p, nmv g.nm, .int .i64 4, .int .i64 1] W fun e w' => ∃ v, e = .returned (.tuple #[v, .int .i64 0]) ∧ OwnB w' W.heap.size 5 v bsA ∧ Below W.heap.size W w') := hid fun W hW => read_C (h.hc.below hW) (by unfold maxLen; omega) (by decide)
  obtain ⟨sm, hsm⟩ : ∃ x, x = smA := ⟨_, rfl⟩
  have HSM := hid hsm
  rw [← hsm]
  have hb0 := bel1 w (.cells #[.int .i64 2, .int .i64 4, .int .i64 1, .int .i64 0, .int .u32 sm] 187)
  have e0 := alloc_new w (.cells #[.int .i64 2, .int .i64 4, .int .i64 1, .int .i64 0, .int .u32 sm] 187)
  clear h hsm
  go_enter Tryz.func152, Tryz.ntmps152
  go_wp2_with fail
  generalize w.alloc (.cells #[.int .i64 2, .int .i64 4, .int .i64 1, .int .i64 0, .int .u32 sm] 187) = w0 at *
  have Y0 : ∀ W, Below w0.heap.size w0 W → ∀ j, W.cell? ⟨g.q, j, none⟩ = _ := fun W hW j => y W (hb0.trans (hW.mono hb0.size)) j
  have X0 : ∀ W, Below w0.heap.size w0 W → ∀ j, W.cell? ⟨w.heap.size, j, none⟩ = _ := fun W hW j => cell_of (qk_below e0 hW) j
  have H0 := hid (And.intro hb0 e0)
  clear y hb0 e0
  go_region_held3 (fun w' => Below w0.heap.size w0 w') (first | with_reducible exact (Below.refl _ _).drew | with_reducible assumption | with_reducible exact Below.drew (by assumption)) (first
    | (go_at_call 26; refine (HRD.out _ (H0.out.1.trans ((by first | with_reducible assumption | exact (Below.refl _ _).drew : Below w0.heap.size w0 _).mono H0.out.1.size))).mono ?_; rintro e w1 ⟨rv, rfl, ho1, hb1⟩; have hb1' := belT (by first | with_reducible assumption | exact (Below.refl _ _).drew : Below w0.heap.size w0 _) hb1))
  obtain ⟨ra, rn, rc, rfl⟩ := slB_shape ho1.slB
  have H1 := hid (And.intro (qk_below H0.out.2 hb1') (And.intro (H0.out.1.trans (hb1'.mono H0.out.1.size)) ho1))
  have x1 := fun j => cell_of (qk_below H0.out.2 hb1') j
  clear X0 Y0 HRD ho1 hb1 hb1'
  go_wp2_with fail
  have H2 := hid (And.intro (alloc_new w1 (.cells #[.int .i64 2, .int .i64 2, .int .i64 1, .int .i64 0, .int .u32 sm] 187)) (And.intro (qk_alloc H1.out.1 (.cells #[.int .i64 2, .int .i64 2, .int .i64 1, .int .i64 0, .int .u32 sm] 187)) (And.intro (H1.out.2.1.alloc H1.out.2.1.size (.cells #[.int .i64 2, .int .i64 2, .int .i64 1, .int .i64 0, .int .u32 sm] 187)) (H1.out.2.2.below (bel1 w1 (.cells #[.int .i64 2, .int .i64 2, .int .i64 1, .int .i64 0, .int .u32 sm] 187)) H1.out.2.2.lt))))
  have hz2 : w1.heap.size < (w1.alloc (.cells #[.int .i64 2, .int .i64 2, .int .i64 1, .int .i64 0, .int .u32 sm] 187)).heap.size := by simp
  clear x1
  generalize w1.alloc (.cells #[.int .i64 2, .int .i64 2, .int .i64 1, .int .i64 0, .int .u32 sm] 187) = w2 at *
  have hq2 : ∀ W, Below w2.heap.size w2 W → W.cell? ⟨g.q, 2, none⟩ = some (.int .i64 0) := fun W hW => cell_of (qk_below HA.out.im (H2.out.2.2.1.trans (hW.mono H2.out.2.2.1.size))) 2
  have h8 : ∀ W, Below w2.heap.size w2 W → ∀ j, W.cell? ⟨w1.heap.size, j, none⟩ = (#[.int .i64 2, .int .i64 2, .int .i64 1, .int .i64 0, .int .u32 sm] : Array Value)[j]? := fun W hW j => cell_of (qk_below H2.out.1 hW) j
  have q20 := hq2 w2 (Below.refl _ _)
  have q2A : ∀ A : Obj, (w2.alloc A).cell? ⟨g.q, 2, none⟩ = some (.int .i64 0) := fun A => hq2 _ (bel1 w2 A)
  have h80 := h8 w2 (Below.refl _ _)
  have h8A := fun A : Obj => h8 _ (bel1 w2 A)
  have hmk := mk32
  have hown : OwnG (w2.alloc (.cells zc32 5)).drew w2.heap.size 5 1 (.slice (some ⟨w2.heap.size, 0, none⟩) 32 32) (z32.map fun x => [Mx.u8 x]) := OwnG.make (rows := z32.map fun x => [Mx.u8 x]) (Nat.le_refl _) (by decide) (by decide) (alloc_drew w2 _) (by kernel_rfl) (by kernel_rfl) (fun r hr => by obtain ⟨x, _, rfl⟩ := List.mem_map.1 hr; rfl)
  have hsl := slB_G (H2.out.2.2.2.slB.below (bel1 w2 (.cells zc32 5)) (Nat.le_refl _))
  have hsl : SlG (w2.alloc (.cells zc32 5)).drew w2.heap.size 1 (.slice ra rn rc) (bsA.map fun x => [Mx.u8 x]) := hsl
  have hrl : ∀ r ∈ bsA.map fun x => [Mx.u8 x], r.length = 1 := fun r hr => by obtain ⟨x, _, rfl⟩ := List.mem_map.1 hr; rfl
  have hone : ∀ r ∈ bsA.map fun x => [Mx.u8 x], ∀ u ∈ r, u.oneCell' = true := fun r hr u hu => by obtain ⟨x, _, rfl⟩ := List.mem_map.1 hr; simp at hu; subst hu; rfl
  have hbw : w.heap.size ≤ w2.heap.size := H2.out.2.2.1.size
  have hbA : w2.heap.size ≤ (w2.alloc (.cells zc32 5)).drew.heap.size := by show _ ≤ (w2.alloc _).heap.size; simp
  go_wp2_with fail
  go_cut [7, 9] from 59 (fun s7 s9 wx => s7 = .int .i64 0 ∧ Hid (∃ b0, OwnB wx b0 5 s9 bsA ∧ w.heap.size ≤ b0 ∧ Below w2.heap.size w2 wx))
  case first =>
    go_region_law (first
      | (refine step_append_sg _ (by rfl) (.tmp 48) (.tmp 49) 26 5 _ 1 1 rfl Tryz.underlying26 Tryz.info5 rfl (by decide) w2.heap.size _ (z32.map fun x => [Mx.u8 x]) (by rfl) hown w2.heap.size (.slice ra rn rc) (bsA.map fun x => [Mx.u8 x]) (by rfl) hsl hrl hone (by decide) (by decide) hbA ?_; intro v1 w5 ho5 hg5 hb5; have hb25 := (bel1 w2 _).drew.trans hb5; have q25 := hq2 _ hb25; have h85 := h8 _ hb25; have ho5' : OwnB w5 w2.heap.size 5 v1 (z32 ++ bsA) := ownG_B (by rw [List.map_append]; exact ho5); obtain ⟨a5, n5, c5, rfl⟩ := slB_shape ho5'.slB)
      | (go_simp; go_wp2_with (go_at_call 161; refine (by have h := chk_A _ w5 ho5'.slB; rw [← HSM.out] at h; exact h : Calls Tryz.prog 161 _ w5 _).mono ?_; rintro e w6 ⟨v, rfl, ho6, hb6⟩; have hb26 := belT hb25 hb6)))
    all_goals (
      go_wp2_with fail
      try (obtain ⟨va, vn, vc, rfl⟩ := slB_shape ho6.slB)
      go_meet
      case rel => exact ⟨rfl, hid ⟨_, ho6, Nat.le_trans hbw hb25.size, hb26⟩⟩)
  case rest =>
    obtain ⟨rfl, hX⟩ := hcut
    obtain ⟨wa, hwa⟩ : ∃ x, x = wc := ⟨_, rfl⟩
    subst hwa
    obtain ⟨b0, hob, hb0, hb2⟩ := hX.out
    obtain ⟨va, vn, vc, rfl⟩ := slB_shape hob.slB
    have hwB := H2.out.2.2.1.trans (hb2.mono H2.out.2.2.1.size)
    have hck := HA.out.ck
    have HP : Hid (∀ W, Below wa.heap.size wa W → Calls Tryz.prog 222 #[Ux.cp g.rd, .int .i64 4, .slice va vn vc, .bool false] W fun e w' => e = .returned (.slice none 0 0) ∧ Ux.PutP base g.rd g.ml ⟨64, [], 0⟩ [] W 4 bsA false w') := hid fun W hW => by
      have hww := hwB.trans (hW.mono hwB.size)
      exact Ux.put_new (hck.below hww) 4 (by unfold Ux.isI; decide) (by simp) (.slice va vn vc) bsA wa.heap.size (hob.slB.below hW (Nat.le_refl _)) hW.size (by decide) false (by decide) (by decide) (by decide)
    have hq8 : ∀ W, Below wa.heap.size wa W → ∀ j, W.cell? ⟨g.q, j, none⟩ = (imX p g.nm (.slice ta tn tc) hv g.s true (dp g.kn) (Ux.cp g.rd) 1)[j]? := fun W hW j => cell_of (qk_below HA.out.im (hwB.trans (hW.mono hwB.size))) j
    simp only [imX] at hq8
    have h3 : ∀ W, Below wa.heap.size wa W → ∀ j, W.cell? ⟨w.heap.size, j, none⟩ = (#[.int .i64 2, .int .i64 4, .int .i64 1, .int .i64 0, .int .u32 sm] : Array Value)[j]? := fun W hW j => cell_of (qk_below H2.out.2.1 (hb2.trans (hW.mono hb2.size))) j
    have HB := hid (And.intro hob (And.intro hb0 hwB))
    clear hX hob hb0 hb2 hwB hck
    go_wp2_with fail
    have q80 := hq8 wa (Below.refl _ _)
    have h30 := h3 wa (Below.refl _ _)
    clear hq8 h3
    go_region_law (first
      | (go_simp; go_wp2_with (go_at_call 222; refine (HP.out _ (by exact (Below.refl _ _).drew)).mono ?_; rintro e w1 ⟨rfl, hp1⟩)))
    all_goals (
      obtain ⟨fs', hck', hst⟩ := hp1
      have hKd : Kept wa w1 fun k => k ≠ g.rd ∧ k ≠ g.ml := ⟨hst.kept.size, fun k hk hf => (hst.kept.block k hk ⟨hf.1, hf.2, fun i f hi => by simp at hi⟩).trans rfl⟩
      have hrl := blk_lt HA.out.ck.ck
      have hml := HA.out.ck.mp.lt
      have hBb : base ≤ w.heap.size := Nat.le_trans HA.out.ck.hp (Nat.le_of_lt hrl)
      have hbx : Below base wa w1 := (Below.refl base wa).drew.trans hst.bel
      have hrf : RF base g.rd g.ml w w1 := RF.trans (RF.of_below HB.out.2.2 hBb) ⟨hbx, hKd⟩
      have hOB : OwnB w1 b0 5 (.slice va vn vc) bsA := HB.out.1.kept hKd fun k hk => by
        have h1 := (World.ownsRow.lt HB.out.1 k hk).1
        have h2 := HB.out.2.1
        exact ⟨by omega, by omega⟩
      go_wp2_with fail
      go_ret2
      exact ⟨_, b0, rfl, hOB, HB.out.2.1, hrf⟩)
theorem OwnB.drew' {w : World} {base : Nat} {e : TypeId} {v : Value} {l : List UInt8} (h : OwnB w base e v l) : OwnB w.drew base e v l := h.below (Below.refl w.heap.size w).drew fun k hk => (World.ownsRow.lt h k hk).2
set_option maxRecDepth 100000 in
set_option maxHeartbeats 2000000 in
theorem ownc_A {w : World} {base p m aa am room L B : Nat} {g : IG} {tv hv : Value} (h : AW w base p m aa am room L B g tv hv) (hnl : g.nm.length ≤ 16) : Calls Tryz.prog 72 #[dp g.q, .string ⟨#[]⟩, .int .i64 2] w fun e w' => ∃ v b0, e = .returned (.tuple #[v, .int .i64 2, .int .i64 0]) ∧ OwnB w' b0 5 v bsA ∧ w.heap.size ≤ b0 ∧ RF base g.rd g.ml w w' := by
  have HA := hid (And.intro h hnl)
  have hsh := (h.tab w (Kept.of_below (Below.refl _ _) fun _ h _ => h)).shape
  obtain ⟨ta, tn, tc, rfl⟩ := hsh
  clear h hnl
  go_enter Tryz.func72, Tryz.ntmps72
  go_wp2_with fail
  refine (up_any HA.out.1.hc.hg HA.out.1.hc.at HA.out.2 g.q HA.out.1.im rfl rfl).mono ?_
  rintro e w1 ⟨rfl, hb1⟩
  have H1 := hid hb1
  clear hb1
  go_wp2_with fail
  refine (tableOf_own (qk_below HA.out.1.im H1.out) rfl rfl rfl).mono ?_
  rintro e w2 ⟨rfl, hb2⟩
  have hb3 := (H1.out.trans (hb2.mono H1.out.size)).alloc (H1.out.trans (hb2.mono H1.out.size)).size (.cells #[.slice ta tn tc] 90)
  have e3 := alloc_new w2 (.cells #[.slice ta tn tc] 90)
  have H3 := hid hb3
  clear hb2 hb3
  go_wp2_with fail
  obtain ⟨sm, hsm⟩ : ∃ x, x = smA := ⟨_, rfl⟩
  have HSM := hid hsm
  refine (get_any (tA smA) _ 2 _ (HA.out.1.tab _ (Kept.of_below H3.out fun k hk _ => hk)) (by decide) (by decide)).mono ?_
  rintro e w4 ⟨rfl, hb4⟩
  have he : entV (getM (tA (smA : Nat)) 2) = eV sm := by rw [hsm]; rfl
  rw [he]
  clear hsm he
  have hb5 := H3.out.trans (hb4.mono H3.out.size)
  have h5 := alloc_new w4 (.cells #[.int .i64 2, .int .i64 4, .int .i64 1, .int .i64 0, .int .u32 sm] 187)
  have HB := hid (And.intro (hb5.alloc hb5.size (.cells #[.int .i64 2, .int .i64 4, .int .i64 1, .int .i64 0, .int .u32 sm] 187)) h5)
  clear hb4 hb5 h5 e3
  go_wp2_with fail
  generalize w4.alloc (.cells #[.int .i64 2, .int .i64 4, .int .i64 1, .int .i64 0, .int .u32 sm] 187) = w5 at *
  have HBY := bytes_A (HA.out.1.below HB.out.1) HA.out.2
  rw [← HSM.out] at HBY
  refine HBY.mono ?_
  rintro e w6 ⟨v, b0, rfl, ho, hb0, hrf⟩
  obtain ⟨va, vn, vc, rfl⟩ := slB_shape ho.slB
  have hck := HA.out.1.ck.below HB.out.1
  have h6 : w6.heap[w4.heap.size]? = some (.cells #[.int .i64 2, .int .i64 4, .int .i64 1, .int .i64 0, .int .u32 sm] 187 (0, 0)) := (hrf.kp.block _ (blk_lt HB.out.2) ⟨ne_tyC HB.out.2 hck.ck (by decide), not_map hck.mp.isMap HB.out.2⟩).trans HB.out.2
  have h6c : ∀ j, w6.cell? ⟨w4.heap.size, j, none⟩ = _ := fun j => cell_of h6 j
  have hz := HB.out.1.size
  have hbase : base ≤ w.heap.size := Nat.le_trans HA.out.1.ck.hp (Nat.le_of_lt (blk_lt HA.out.1.ck.ck))
  have HF := hid (And.intro ho (And.intro (Nat.le_trans hz hb0) ((RF.of_below HB.out.1 hbase).trans hrf)))
  clear ho hb0 hrf hck hz hbase h6 HBY
  go_wp2_with fail
  go_region_law fail
  all_goals (
    go_wp2_with fail
    exact bodyPost_ret (v := .tuple #[.slice va vn vc, .int .i64 2, .int .i64 0]) (by simp [results, Tryz.results72, go_sem]; try decide) rfl ⟨_, b0, rfl, OwnB.drew' HF.out.1, HF.out.2.1, HF.out.2.2.trans ⟨(Below.refl base w6).drew, .of_below (Below.refl w6.heap.size w6).drew fun _ h _ => h⟩⟩)
end Go.Proofs.YtmcllcepoiakeaaGreat
