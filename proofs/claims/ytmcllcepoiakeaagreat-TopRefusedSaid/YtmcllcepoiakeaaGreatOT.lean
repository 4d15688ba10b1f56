import Derived.Test.YtmcllcepoiakeaaGreatTBL
import Derived.Test.YtmcllcepoiakeaaGreatWT
import Derived.Test.YtmcllcepoiakeaaGreatCP
import Derived.Test.YtmcllcepoiakeaaGreatAS
set_option linter.unusedSimpArgs false
set_option linter.unusedVariables false
namespace Go.Proofs.YtmcllcepoiakeaaGreat
open Go.RowKit Go.Mx Go.Proofs.YtmcllcepoiakeaaGreat.Dx Go.Dk
theorem field95 (a0 a1 a2 a3 a4 a5 a6 : Value) (w : World) : (Instr.field 95 (.agg #[a0, a1, a2, a3, a4, a5, a6]) 2).run Tryz.prog w = .ok a2 w := by simp [Instr.field, go_sem, asAgg]
theorem chain1_end {w : World} {aa am ba bl bw : Nat} (h1 : w.cell? ⟨ba, 0, none⟩ = some (dp aa)) (h2 : w.cell? ⟨aa, 1, none⟩ = some (.map (some am))) (hlk : (Instr.lookup 46 (.map (some am)) (nmv []) false).run Tryz.prog w = .ok (.pointer none) w) :
    Calls Tryz.prog 74 #[nmv [], dp ba, dp bl, dp bw] w fun e w' => e = .returned (.tuple #[]) ∧ w = w' := by
  go_enter Tryz.func74, Tryz.ntmps74
  go_wp2_with fail
  first | go_end0 | refine bodyPost_ret (results_none rfl _ _ _) rfl ?_
  exact ⟨rfl, rfl⟩
theorem ne_tyC {W : World} {a b : Nat} {c d : Array Value} {t u : TypeId} {f g : Nat × Nat} (h : W.heap[a]? = some (.cells c t f)) (k : W.heap[b]? = some (.cells d u g)) (n : t ≠ u) : a ≠ b := by rintro rfl; rw [h] at k; cases k; exact n rfl
theorem Tryz.info60 : (Tryz.prog.info? 60).map (fun i => (i.zero, i.size, i.bytes)) = some (some (.pointer none), 1, 8) := by kernel_rfl
set_option maxRecDepth 100000 in
theorem chain1_go {w : World} {aa am ba bl bw q : Nat} {ca : Array Value} {nm : List UInt8} (h1 : w.heap[ba]? = some (.cells #[dp aa] 23 (0, 0))) (h2 : w.heap[aa]? = some (.cells ca 53 (0, 0))) (h2c : ca[1]? = some (.map (some am))) (h3 : w.heap[bl]? = some (.cells #[nilS] 98 (0, 0)))
    (h4 : w.heap[bw]? = some (.cells #[.func (.func 74) #[] #[dp ba, dp bl, dp bw]] 162 (0, 0)))
    (hlk : (Instr.lookup 46 (.map (some am)) (nmv nm) false).run Tryz.prog w = .ok (dp q) w) (hlk0 : ∀ W, Below bl w W → (Instr.lookup 46 (.map (some am)) (nmv []) false).run Tryz.prog W = .ok (.pointer none) W)
    (hme : ∀ W, Below bl w W → Calls Tryz.prog 36 #[dp q] W fun e w' => ∃ a0 a1 a3 a4 a5 a6, e = .returned (.agg #[a0, a1, nmv [], a3, a4, a5, a6]) ∧ Below W.heap.size W w') :
    Calls Tryz.prog 74 #[nmv nm, dp ba, dp bl, dp bw] w fun e w' => ∃ lb lc cur, e = .returned (.tuple #[]) ∧ w'.heap[bl]? = some (.cells #[.slice (some ⟨lb, 0, none⟩) 1 lc] 98 (0, 0)) ∧ w'.heap[lb]? = some (.cells cur 60 (0, 0)) ∧ cur[0]? = some (dp q) ∧ (1 ≤ lc ∧ lc ≤ maxLen) ∧ w.heap.size ≤ lb ∧ Below bl w w' := by
  obtain ⟨nv, hnv⟩ : ∃ x : Value, x = nilS := ⟨_, rfl⟩
  rw [← hnv] at h3
  have hown : ∀ W, OwnG W w.heap.size 60 1 nv [] := fun W => by rw [hnv]; exact OwnG.nil _ _ _ _
  have HNV := hid hnv
  clear hnv
  have H := hid (And.intro h1 (And.intro h2 (And.intro h3 h4)))
  have HL := hid (And.intro h2c (And.intro hlk0 hme))
  have n1 := ne_tyC h1 h3 (by decide)
  have n2 := ne_tyC h2 h3 (by decide)
  have n4 := ne_tyC h4 h3 (by decide)
  have HN := hid (And.intro n1 (And.intro n2 n4))
  have k1 := cell_of h1 0
  have k2 : w.cell? ⟨aa, 1, none⟩ = some (.map (some am)) := (cell_of h2 1).trans h2c
  have k3 := cell_of h3 0
  clear h1 h2 h2c h3 h4 hlk0 hme n1 n2 n4
  go_enter Tryz.func74, Tryz.ntmps74
  go_wp2_with (at_builtin; refine append_g _ rfl _ _ 98 60 (.pointer none) 1 8 rfl Tryz.underlying98 Tryz.info60 rfl (by decide) w.heap.size _ [] rfl (hown _) w.heap.size 1 [dp q] rfl rfl ?_ ?_ ?_ ?_ ?_ ?_)
  case refine_2 => simp [Value.oneCell']
  case refine_6 =>
    intro v' w1 ho hg hb
    have hb1 : Below w.heap.size w w1 := (bel1 w (.cells #[dp q] 60)).trans hb
    have h3' := qk_below H.out.2.2.1 hb1
    have k3' := cell_of h3' 0
    have f3' := fz_of h3' 0
    obtain ⟨g, c, hve, hg0, hg1⟩ := (OwnG.shape ho).resolve_left (by simp)
    have hve : v' = .slice (some ⟨g, 0, none⟩) 1 c := hve
    subst hve
    have h5 := heap_setCell_at' w1 bl 0 (.slice (some ⟨g, 0, none⟩) 1 c) _ _ _ h3'
    obtain ⟨x1, x2, hc1, hc2, cur, hcur, x3, htk⟩ := ho.parts
    have hgb : g ≠ bl := by have := blk_lt H.out.2.2.1; omega
    have h6 := qk_set (b := bl) (i := 0) (v := .slice (some ⟨g, 0, none⟩) 1 c) hcur hgb
    have hk5 : Kept w (w1.setCell ⟨bl, 0, none⟩ (.slice (some ⟨g, 0, none⟩) 1 c)) (· ≠ bl) := (Kept.of_below hb1 fun _ h _ => h).trans (Kept.set _ bl 0 _ fun h => h rfl)
    have h7 : cur[0]? = some (dp q) := by
      rw [← Array.getElem?_toList]
      have := congrArg (fun l => l[0]?) htk
      simpa [List.getElem?_take] using this
    have hb5 : Below bl w (w1.setCell ⟨bl, 0, none⟩ (.slice (some ⟨g, 0, none⟩) 1 c)) := (hb1.mono (Nat.le_of_lt (blk_lt H.out.2.2.1))).setCell (p := ⟨bl, 0, none⟩) (Nat.le_refl _) _
    have HE := hid (And.intro h5 (And.intro h6 (And.intro h7 (And.intro hc1 (And.intro hc2 (And.intro hg0 (And.intro hk5 hb5)))))))
    clear x1 x2 x3 ho hg hb hb1 h3' hc1 hc2 hcur htk hgb h5 h6 h7 hk5 hb5 hg0 hg1 k1 k2 k3
    go_wp2_with fail
    have hz5 : w.heap.size ≤ (w1.setCell ⟨bl, 0, none⟩ (.slice (some ⟨g, 0, none⟩) 1 c)).heap.size := HE.out.2.2.2.2.2.2.1.size
    clear k3' f3'
    generalize w1.setCell ⟨bl, 0, none⟩ (.slice (some ⟨g, 0, none⟩) 1 c) = w5 at *
    have HK : Hid (∀ W, Below w5.heap.size w5 W → Kept w W (· ≠ bl)) := hid fun W hW => HE.out.2.2.2.2.2.2.1.trans (Kept.of_below hW fun _ h _ => h)
    have HB5 : Hid (∀ W, Below w5.heap.size w5 W → Below bl w W) := hid fun W hW => HE.out.2.2.2.2.2.2.2.trans (hW.mono (by have h1 := blk_lt H.out.2.2.1; omega))
    have y4 : ∀ W, Below w5.heap.size w5 W → W.cell? ⟨bw, 0, none⟩ = some (.func (.func 74) #[] #[dp ba, dp bl, dp bw]) := fun W hW => cell_of (((HK.out W hW).block _ (blk_lt H.out.2.2.2) HN.out.2.2).trans H.out.2.2.2) 0
    have HM : Hid (∀ W, Below w5.heap.size w5 W → Calls Tryz.prog 36 #[dp q] W fun e w' => ∃ a0 a1 a3 a4 a5 a6, e = .returned (.agg #[a0, a1, nmv [], a3, a4, a5, a6]) ∧ Below W.heap.size W w') := hid fun W hW => HL.out.2.2 W (HB5.out W hW)
    have HC : Hid (∀ W, Below w5.heap.size w5 W → Calls Tryz.prog 74 #[nmv [], dp ba, dp bl, dp bw] W fun e w' => e = .returned (.tuple #[]) ∧ W = w') := hid fun W hW => chain1_end (cell_of (((HK.out W hW).block _ (blk_lt H.out.1) HN.out.1).trans H.out.1) 0) ((cell_of (((HK.out W hW).block _ (blk_lt H.out.2.1) HN.out.2.1).trans H.out.2.1) 1).trans HL.out.1) (HL.out.2.1 W (HB5.out W hW))
    go_region_held3 (fun W => Below w5.heap.size w5 W) (first | with_reducible assumption | with_reducible exact (Below.refl _ _).drew | with_reducible exact Below.drew (by with_reducible assumption)) (first
      | (go_at_call 36; refine (HM.out _ (by first | with_reducible assumption | exact (Below.refl _ _).drew)).mono ?_; rintro e w9 ⟨a0, a1, a3, a4, a5, a6, rfl, hb9⟩; have hfd := field95 a0 a1 (nmv []) a3 a4 a5 a6; have hb9' := belT (by first | with_reducible assumption | exact (Below.refl _ _).drew : Below w5.heap.size w5 _) hb9)
      | (go_at_call 74; refine (HC.out _ (by first | with_reducible assumption | exact (Below.refl _ _).drew)).mono ?_; rintro e w10 ⟨rfl, rfl⟩))
    have HF := hid (show ∃ lb lc cur, w9.heap[bl]? = some (.cells #[.slice (some ⟨lb, 0, none⟩) 1 lc] 98 (0, 0)) ∧ w9.heap[lb]? = some (.cells cur 60 (0, 0)) ∧ cur[0]? = some (dp q) ∧ (1 ≤ lc ∧ lc ≤ maxLen) ∧ w.heap.size ≤ lb ∧ Below bl w w9 from
      ⟨g, c, cur, qk_below HE.out.1 hb9', qk_below HE.out.2.1 hb9', HE.out.2.2.1, ⟨HE.out.2.2.2.1, HE.out.2.2.2.2.1⟩, HE.out.2.2.2.2.2.1, HB5.out _ hb9'⟩)
    clear hb9 hb9' y4
    go_wp2_with fail
    go_end0
    obtain ⟨lb, lc, cur, r⟩ := HF.out
    exact ⟨lb, lc, cur, rfl, r⟩
  all_goals first | (intro j u hj; rw [cell_of (alloc_new w (.cells #[dp q] 60)) j]; simpa using hj) | simp
theorem chain_any {w : World} {aa am q : Nat} {ca : Array Value} {nm : List UInt8} (h2 : w.heap[aa]? = some (.cells ca 53 (0, 0))) (h2c : ca[1]? = some (.map (some am)))
    (hlk : ∀ W, Below w.heap.size w W → (Instr.lookup 46 (.map (some am)) (nmv nm) false).run Tryz.prog W = .ok (dp q) W) (hlk0 : ∀ W, Below w.heap.size w W → (Instr.lookup 46 (.map (some am)) (nmv []) false).run Tryz.prog W = .ok (.pointer none) W)
    (hme : ∀ W, Below w.heap.size w W → Calls Tryz.prog 36 #[dp q] W fun e w' => ∃ a0 a1 a3 a4 a5 a6, e = .returned (.agg #[a0, a1, nmv [], a3, a4, a5, a6]) ∧ Below W.heap.size W w') :
    Calls Tryz.prog 38 #[dp aa, nmv nm] w fun e w' => ∃ lb lc cur, e = .returned (.slice (some ⟨lb, 0, none⟩) 1 lc) ∧ w'.heap[lb]? = some (.cells cur 60 (0, 0)) ∧ cur[0]? = some (dp q) ∧ (1 ≤ lc ∧ lc ≤ maxLen) ∧ w.heap.size ≤ lb ∧ Below w.heap.size w w' := by
  have hmf : ∀ (fn : Fn) (first cap : Array Value) (w : World), (Instr.makeFunc fn first cap).run Tryz.prog w = .ok (.func fn first cap) w := fun _ _ _ _ => rfl
  have hB := bel3 w (.cells #[dp aa] 23) (.cells #[nilS] 98) (.cells #[.func (.func 74) #[] #[dp w.heap.size, dp (w.heap.size + 1), dp (w.heap.size + 1 + 1)]] 162)
  have hl := ((BL.new (BL.cons h2 (BL.nil _)) #[dp aa] 23).new #[nilS] 98).new #[.func (.func 74) #[] #[dp w.heap.size, dp (w.heap.size + 1), dp (w.heap.size + 1 + 1)]] 162
  simp only [World.size_alloc] at hl
  clear h2
  go_enter Tryz.func38, Tryz.ntmps38
  go_wp2_with fail
  have hBl : ∀ W, Below (w.heap.size + 1) (((w.alloc (.cells #[dp aa] 23)).alloc (.cells #[nilS] 98)).alloc (.cells #[.func (.func 74) #[] #[dp w.heap.size, dp (w.heap.size + 1), dp (w.heap.size + 1 + 1)]] 162)) W → Below w.heap.size w W := fun W hW => hB.trans (hW.mono (by omega))
  have HC := hid (chain1_go (bl := w.heap.size + 1) (bw := w.heap.size + 1 + 1) hl.tail.tail.head hl.tail.tail.tail.head h2c hl.tail.head hl.head (hlk _ hB) (fun W hW => hlk0 W (hBl W hW)) (fun W hW => hme W (hBl W hW)))
  have HB := hid (And.intro hBl (show w.heap.size ≤ (((w.alloc (.cells #[dp aa] 23)).alloc (.cells #[nilS] 98)).alloc (.cells #[.func (.func 74) #[] #[dp w.heap.size, dp (w.heap.size + 1), dp (w.heap.size + 1 + 1)]] 162)).heap.size from hB.size))
  clear hB hBl hl hlk hlk0 hme
  generalize ((w.alloc (.cells #[dp aa] 23)).alloc (.cells #[nilS] 98)).alloc _ = w3 at *
  refine HC.out.mono ?_
  rintro e w4 ⟨lb, lc, cur, rfl, h1, h2, h3, h4, h5, h6⟩
  have k1 := cell_of h1 0
  have HE := hid (And.intro h2 (And.intro h3 (And.intro h4 (And.intro h5 h6))))
  clear h1 h2 h3 h4 h5 h6
  go_wp2_with fail
  go_ret
  exact ⟨lb, lc, cur, rfl, HE.out.1, HE.out.2.1, HE.out.2.2.1, Nat.le_trans HB.out.2 HE.out.2.2.2.1, HB.out.1 _ HE.out.2.2.2.2⟩
open Go.RowKit Go.Mx Go.Proofs.YtmcllcepoiakeaaGreat.Dx Go.Dk Go.Cnt Go.Proofs.YtmcllcepoiakeaaGreat.Cx
theorem imC_imX (p : Nat) (nm : List UInt8) (s : Nat) (ch : Bool) (kn rd : Value) : imC p nm [] 1 2 21 s ch kn rd = imX p nm nilS nilS s ch kn rd 0 := rfl
/-- the bytes of a command -/
structure DV (w : World) (dv : Value) : Prop where
  h : ∃ db fr, dv = .slice (some ⟨db, 0, none⟩) 16 16 ∧ w.heap[db]? = some (.cells (bsA.map Mx.u8).toArray 5 fr)
theorem DV.sl {w : World} {dv : Value} (h : DV w dv) : SlB w w.heap.size dv bsA := by
  obtain ⟨db, fr, rfl, h1⟩ := h.h
  refine ⟨_, 16, rfl, by decide, by decide, fun _ => ⟨db, 0, rfl, blk_lt h1, fun i hi => ?_⟩⟩
  rw [cell_of h1]
  simp [List.getElem?_eq_getElem hi, List.getD_eq_getElem?_getD]
theorem DV.below {w w' : World} {dv : Value} (h : DV w dv) (hb : Below w.heap.size w w') : DV w' dv := by
  obtain ⟨db, fr, e, h⟩ := h.h; exact ⟨db, fr, e, qk_below h hb⟩
theorem DV.ka {w w' : World} {dv : Value} {base m q kn : Nat} (h : DV w dv) (hk : KA base m q kn w w') (hm : ∃ es c, w.heap[m]? = some (.map es c)) {c1 c2 : Array Value} {t1 t2 : TypeId} {f1 f2 : Nat × Nat} (h1 : w.heap[q]? = some (.cells c1 t1 f1)) (h2 : w.heap[kn]? = some (.cells c2 t2 f2)) (n1 : t1 ≠ 5) (n2 : t2 ≠ 5) : DV w' dv := by
  obtain ⟨db, fr, e, h⟩ := h.h; exact ⟨db, fr, e, hk.cells h ⟨not_map hm h, (ne_tyC h1 h n1).symm, (ne_tyC h2 h n2).symm⟩ (by decide)⟩
set_option maxRecDepth 100000 in
set_option maxHeartbeats 2000000 in
theorem turns_A {w : World} {base p m aa am room L : Nat} {g : IG} (h : AR w base p m aa am room L [g]) (hnm : g.nm = [97]) (hbk : g.bk = []) (hr : 5 ≤ room ∧ room ≤ 1048576) (hL : L ≤ 80000) {dv : Value} (hdv : DV w dv) :
    Calls Tryz.prog 21 #[dp aa, .agg (cmdC 4 [97] [] 2 0 0 dv)] w fun e w' => e = .returned (.int .i64 0) ∧ ∃ hv, IP base p m room L 0 g.q g.s g.kn (gfl [g]) g.nm hv (Ux.cp g.rd) 1 w w' := by
  have hgm : g ∈ [g] := by simp
  have hlq : Mp.look (gpl [g]) [97] = some g.q := by simp [gpl, Mp.look_cons, hnm]
  have hl0 : Mp.look (gpl [g]) [] = none := by simp [gpl, Mp.look_cons, hnm, Mp.look_nil]
  have hlk := h.look [97] (by decide)
  have hlk0 := h.look [] (by decide)
  rw [hlq] at hlk
  rw [hl0] at hlk0
  have hme : ∀ W, Below w.heap.size w W → Calls Tryz.prog 36 #[dp g.q] W fun e w' => ∃ a0 a1 a3 a4 a5 a6, e = .returned (.agg #[a0, a1, nmv [], a3, a4, a5, a6]) ∧ Below W.heap.size W w' := fun W hW => ((h.below hW).metas hgm).mono fun e w' ⟨ca, cn, cc, he, hb⟩ => ⟨.int .i64 0, .int .i64 4, nilS, nilS, nilS, .slice ca cn cc, by rw [hbk] at he; exact he, hb⟩
  obtain ⟨dn, hdn, har⟩ := h.ar
  have HCH : Hid (∀ W, Below w.heap.size w W → Calls Tryz.prog 38 #[dp aa, nmv [97]] W fun e w' => ∃ lb lc cur, e = .returned (.slice (some ⟨lb, 0, none⟩) 1 lc) ∧ w'.heap[lb]? = some (.cells cur 60 (0, 0)) ∧ cur[0]? = some (dp g.q) ∧ (1 ≤ lc ∧ lc ≤ maxLen) ∧ W.heap.size ≤ lb ∧ Below W.heap.size W w') := hid fun W hW =>
    chain_any (qk_below har hW) rfl (fun W' h' => hlk W' (belT hW h')) (fun W' h' => hlk0 W' (belT hW h')) (fun W' h' => hme W' (belT hW h'))
  have HFR : Hid (∀ W, Below w.heap.size w W → Calls Tryz.prog 44 #[dp aa, nmv [97]] W fun e w' => e = .returned (.int .i64 0) ∧ Below W.heap.size W w') := hid fun W hW => free_0 (h.below hW) [97] (fun x hx => by simp at hx; subst hx; rw [hbk]; decide)
  have y1 := h.cell.2
  have HA := hid (And.intro h hdv)
  obtain ⟨db, fr, hde, hdb⟩ := hdv.h
  subst hde
  have b1 := bel1 w (.cells (cmdC 4 [97] [] 2 0 0 (.slice (some ⟨db, 0, none⟩) 16 16)) 28)
  have e1 := alloc_new w (.cells (cmdC 4 [97] [] 2 0 0 (.slice (some ⟨db, 0, none⟩) 16 16)) 28)
  clear h hlq hl0 hlk0 hme har hdv hdb
  go_enter Tryz.func21, Tryz.ntmps21
  simp only [cmdC] at b1 e1 ⊢
  go_wp2_with fail
  generalize w.alloc (.cells #[.int .i64 4, nmv [97], nmv [], .int .i64 2, .int .i64 0, .int .i64 0, .slice (some ⟨db, 0, none⟩) 16 16] 28) = w1 at *
  have yk : ∀ W, Below w1.heap.size w1 W → _ := fun W hW => hlk W (belT b1 hW)
  have ya : ∀ W, Below w1.heap.size w1 W → W.cell? ⟨aa, 1, none⟩ = _ := fun W hW => y1 W (belT b1 hW)
  have yb : ∀ W, Below w1.heap.size w1 W → ∀ j, W.cell? ⟨w.heap.size, j, none⟩ = _ := fun W hW j => cell_of (qk_below e1 hW) j
  have B1 := hid (And.intro b1 e1)
  clear hlk y1 b1
  go_region_held3 (fun w' => Below w1.heap.size w1 w') (first | with_reducible exact (Below.refl _ _).drew | with_reducible assumption | with_reducible exact Below.drew (by assumption)) (fail)
  have hb1 : Below w1.heap.size w1 w1.drew := (Below.refl _ _).drew
  have yb2 := yb _ hb1
  have B2 := hid (belT B1.out.1 hb1)
  have E2 := hid (qk_below B1.out.2 hb1)
  clear yk ya yb
  generalize w1.drew = w2 at *
  go_wp2_with fail
  refine (HCH.out _ B2.out).mono ?_
  rintro e w3 ⟨lb, lc, cur, rfl, hlb, hcur, hlc, hge, hb3⟩
  have B3 := hid (And.intro (belT B2.out hb3) (And.intro (qk_below E2.out hb3) (And.intro hlb (And.intro hcur hlc))))
  have yb3 := fun j => cell_of B3.out.2.1 j
  clear yb2 hlb hcur hlc hge hb3
  go_wp2_with fail
  refine (HFR.out _ B3.out.1).mono ?_
  rintro e w4 ⟨rfl, hb4⟩
  have B4 := hid (And.intro (belT B3.out.1 hb4) (And.intro (qk_below B3.out.2.1 hb4) (And.intro (qk_below B3.out.2.2.1 hb4) (And.intro B3.out.2.2.2.1 B3.out.2.2.2.2))))
  have yb4 := fun j => cell_of B4.out.2.1 j
  clear yb3 hb4
  go_wp2_with fail
  have hA := HA.out.1.below B4.out.1
  have hD := HA.out.2.below B4.out.1
  have hI := hA.im g (by simp)
  have hls := hA.ls g (by simp)
  have him := hI.im
  rw [hls.1, hls.2.1, hls.2.2, hbk] at him
  have him' : w4.heap[g.q]? = some (.cells (imX p g.nm nilS nilS g.s false (dp g.kn) (Ux.cp g.rd) 0) 142 (0, 0)) := him
  have hWr := write_A (i := 0) hA.hg (by rfl) him' hI.ki (by rw [hnm]; decide) (by rw [gfl_sum]; simp; omega) hr.2 (by omega) ⟨by decide, by decide⟩ ⟨hI.bs.1, hI.bs.2.1⟩ B4.out.2.2.2.1 B4.out.2.2.2.2 B4.out.2.2.1 (fun W hW => (hD.ka hW hA.hg.facts.2.1 him' hI.ki (by decide) (by decide)).sl)
  have HW := hid hWr
  clear hA hD hI hls him him' hWr yb4
  refine HW.out.mono ?_
  rintro e w5 ⟨rfl, hv, hP⟩
  have HE := hid (IP.of B4.out.1 HA.out.1.hg.base_le hP)
  clear hP
  go_wp2_with fail
  go_ret
  exact ⟨rfl, hv, HE.out⟩
open Go.RowKit Go.Mx Go.Proofs.YtmcllcepoiakeaaGreat.Dx Go.Dk Go.Cnt Go.Proofs.YtmcllcepoiakeaaGreat.Cx
/-- an archive of one image, of which one sector was written -/
structure AW (w : World) (base p m aa am room L B : Nat) (g : IG) (tv hv : Value) : Prop where
  ar : ∃ dn : Nat, dn ≤ L ∧ w.heap[aa]? = some (.cells #[dp p, .map (some am), .int .i64 dn] 53 (0, 0))
  mp : Mp.PM Tryz.prog 9 w am (gpl [g])
  im : w.heap[g.q]? = some (.cells (imX p g.nm tv hv g.s true (dp g.kn) (Ux.cp g.rd) 1) 142 (0, 0))
  tab : ∀ W, Kept w W (fun k => B < k) → IsTab W W.heap.size tv (tA smA)
  hc : HC w base p m room [(g.nm, 5)] L 0 g.nm 5 4 bsA
  ck : Ux.CK w base g.rd g.ml ⟨64, [], 0⟩ [] Ux.All
  ba : base ≤ am ∧ base ≤ aa
  le : aa ≤ B ∧ g.q ≤ B
  ne : g.ml ≠ m
theorem ck_empty {w : World} {base rd ml : Nat} (h1 : w.heap[rd]? = some (.cells (Ux.ccells ⟨64, [], 0⟩ ml) 307 (0, 0))) (h2 : Go.Mi.PM Tryz.prog 3 w ml []) (h3 : base ≤ rd) (h4 : base ≤ ml) : Ux.CK w base rd ml ⟨64, [], 0⟩ [] Ux.All where
  all := rfl
  ck := h1
  hp := h3
  hm := h4
  mp := h2
  fc := fun i f h => by simp at h
  ob := fun i f h => by simp at h
  oa := fun i f h => by simp at h
  af := fun i j f g h => by simp at h
  aa := fun i j f g h => by simp at h
  sb := fun i f h => by simp at h
  sa := fun i f h => by simp at h
section
variable {w w' : World} {base p m aa am room L B : Nat} {g : IG} {tv hv : Value}
theorem AW.of (h : AR w base p m aa am room L [g]) (hi : IP base p m room L 0 g.q g.s g.kn (gfl [g]) g.nm hv (Ux.cp g.rd) 1 w w') : ∃ tv, AW w' base p m aa am room (L + 1) w.heap.size g tv hv := by
  obtain ⟨tv, h1, h2⟩ := hi.im
  obtain ⟨dn, hdn, ha⟩ := h.ar
  have hI := h.im g (by simp)
  have hm := h.hg.facts.2.1
  have hK := hi.ka
  obtain ⟨es, c, hmp⟩ := h.mp.isMap
  obtain ⟨es2, c2', hml⟩ := hI.pm.isMap
  have ha' := hK.cells ha ⟨not_map hm ha, ne_tyC ha hI.im (by decide), ne_tyC ha hI.ki (by decide)⟩ (by decide)
  have hri := hK.cells hI.ri ⟨not_map hm hI.ri, ne_tyC hI.ri hI.im (by decide), ne_tyC hI.ri hI.ki (by decide)⟩ (by decide)
  have hmap : ∀ {k : Nat} {es : Array MapEntry} {c : Nat}, w.heap[k]? = some (.map es c) → k ≠ m → w'.heap[k]? = w.heap[k]? := fun {k es c} hk hn => hK.kp.block k (blk_lt hk) ⟨⟨hn, fun c t fr e => by rw [hk] at e; cases e⟩, ⟨(by rintro rfl; rw [hI.im] at hk; cases hk), (by rintro rfl; rw [hI.ki] at hk; cases hk)⟩⟩
  refine ⟨tv, ⟨dn, by omega, ha'⟩, h.mp.block (hmap hmp h.ne), h1, h2, hi.hc, ?_, h.ba, ⟨Nat.le_of_lt (blk_lt ha), Nat.le_of_lt hI.lt⟩, hI.ne⟩
  exact ck_empty hri (hI.pm.block (hmap hml hI.ne)) hI.bs.2.2.1 hI.bs.2.2.2
theorem AW.below (h : AW w base p m aa am room L B g tv hv) (hb : Below w.heap.size w w') : AW w' base p m aa am room L B g tv hv := by
  obtain ⟨dn, hdn, ha⟩ := h.ar
  exact ⟨⟨dn, hdn, qk_below ha hb⟩, h.mp.block (hb.block _ h.mp.lt), qk_below h.im hb, fun W hK => h.tab W ((Kept.of_below hb fun _ h _ => h).trans hK), h.hc.below hb, ck_empty (qk_below h.ck.ck hb) (h.ck.mp.block (hb.block _ h.ck.mp.lt)) h.ck.hp h.ck.hm, h.ba, h.le, h.ne⟩
theorem AW.other (h : AW w base p m aa am room L B g tv hv) {b : Nat} (hbB : b ≤ B) (k : Kept w w' (· ≠ b)) {c : Array Value} {t : TypeId} {fr : Nat × Nat} (hb : w.heap[b]? = some (.cells c t fr)) (ht : (t ≠ 64 ∧ t ≠ 68 ∧ t ≠ 131 ∧ t ≠ 280) ∧ (t ≠ 142 ∧ t ≠ 310 ∧ t ≠ 307) ∧ t ≠ 53) :
    AW w' base p m aa am room L B g tv hv := by
  obtain ⟨dn, hdn, ha⟩ := h.ar
  obtain ⟨es, cc, h2⟩ := h.mp.isMap
  obtain ⟨es2, cc2, h3⟩ := h.ck.mp.isMap
  refine ⟨⟨dn, hdn, (k.block _ (blk_lt ha) (ne_tyC ha hb (Ne.symm ht.2.2))).trans ha⟩, h.mp.block (k.block _ h.mp.lt (by rintro rfl; rw [h2] at hb; cases hb)), (k.block _ (blk_lt h.im) (ne_tyC h.im hb (Ne.symm ht.2.1.1))).trans h.im, fun W hK => h.tab W ((k.imp fun k _ hk => by have h1 : B < k := hk; omega).trans hK), ?_, ?_, h.ba, h.le, h.ne⟩
  · exact h.hc.kept k fun q hF e => hF (by subst e; exact ⟨not_map h.hc.hg.facts.2.1 hb, fun c t fr e => by rw [hb] at e; cases e; exact ht.1⟩)
  · exact ck_empty ((k.block _ (blk_lt h.ck.ck) (ne_tyC h.ck.ck hb (Ne.symm ht.2.1.2.2))).trans h.ck.ck) (h.ck.mp.block (k.block _ h.ck.mp.lt (by rintro rfl; rw [h3] at hb; cases hb))) h.ck.hp h.ck.hm
end
open Go.RowKit Go.Mx Go.Proofs.YtmcllcepoiakeaaGreat.Dx Go.Dk Go.Cnt Go.Proofs.YtmcllcepoiakeaaGreat.Cx
abbrev tmv (tv cv : Value) : Value := .agg #[.int .i64 0, .int .i64 4, nmv [], tv, nilS, nilS, cv]
theorem own_T (sm : Int) (tv : Value) (w : World) (h : IsTab w w.heap.size tv (tA sm)) : Calls Tryz.prog 64 #[tmv tv nilS] w fun e w' => ∃ tv', e = .returned (tmv tv' nilS) ∧ (∀ W, Kept w' W (fun k => w.heap.size + 1 < k) → IsTab W W.heap.size tv' (tA sm)) ∧ Below w.heap.size w w' := by
  have hB := bel2 w (.cells #[.int .i64 0, .int .i64 4, nmv [], tv, nilS, nilS, nilS] 95) (.cells #[.int .i64 0, .int .i64 0, .string ⟨#[]⟩, nilS, nilS, nilS, nilS] 95)
  have hl := ((BL.nil w).new #[.int .i64 0, .int .i64 4, nmv [], tv, nilS, nilS, nilS] 95).new #[.int .i64 0, .int .i64 0, .string ⟨#[]⟩, nilS, nilS, nilS, nilS] 95
  simp only [World.size_alloc] at hl
  have H := hid h
  obtain ⟨ta, tn, tc, rfl⟩ := h.shape
  clear h
  go_enter Tryz.func64, Tryz.ntmps64
  go_wp2_with fail
  generalize (w.alloc (.cells #[.int .i64 0, .int .i64 4, nmv [], .slice ta tn tc, nilS, nilS, nilS] 95)).alloc (.cells #[.int .i64 0, .int .i64 0, .string ⟨#[]⟩, nilS, nilS, nilS, nilS] 95) = w2 at *
  refine (cut_A sm _ w2 ((H.out.below hB (Nat.le_refl _)).mono hB.size)).mono ?_
  rintro e w3 ⟨tv', rfl, ht, hb⟩
  obtain ⟨xa, xn, xc, rfl⟩ := (ht w3 (Kept.of_below (Below.refl _ _) fun _ h _ => h)).shape
  have hl3 := hl.below hb
  have h4 := heap_setCell_at' w3 w.heap.size 3 (.slice xa xn xc) _ _ _ hl3.tail.head
  have h4r := qk_set (b := w.heap.size) (i := 3) (v := .slice xa xn xc) hl3.head (by omega)
  have HZ := hid (show w.heap.size + 1 < w2.heap.size from blk_lt hl.head)
  have hk4 : Kept w3 (w3.setCell ⟨w.heap.size, 3, none⟩ (.slice xa xn xc)) (fun k => w2.heap.size + 1 < k) := Kept.set w3 w.heap.size 3 _ (by have h1 := HZ.out; omega)
  have hb4 := (hB.trans (hb.mono hB.size)).setCell (p := ⟨w.heap.size, 3, none⟩) (Nat.le_refl _) (.slice xa xn xc)
  have k3 := fun j => cell_of hl3.tail.head j
  have f3 := fun j => fz_of hl3.tail.head j
  have H3 := hid (And.intro ht (And.intro hk4 (And.intro hb4 (And.intro h4 h4r))))
  have k4 := fun j => cell_of h4 j
  have f4 := fun j => fz_of h4 j
  have hs4 : (w3.setCell ⟨w.heap.size, 3, none⟩ (.slice xa xn xc)).setCell ⟨w.heap.size, 4, none⟩ nilS = w3.setCell ⟨w.heap.size, 3, none⟩ (.slice xa xn xc) := setCell_self (cell_of h4 4)
  have hs5 : (w3.setCell ⟨w.heap.size, 3, none⟩ (.slice xa xn xc)).setCell ⟨w.heap.size, 5, none⟩ nilS = w3.setCell ⟨w.heap.size, 3, none⟩ (.slice xa xn xc) := setCell_self (cell_of h4 5)
  have hs6 : (w3.setCell ⟨w.heap.size, 3, none⟩ (.slice xa xn xc)).setCell ⟨w.heap.size, 6, none⟩ nilS = w3.setCell ⟨w.heap.size, 3, none⟩ (.slice xa xn xc) := setCell_self (cell_of h4 6)
  have kr := fun j => cell_of h4r j
  have fr := fun j => fz_of h4r j
  clear ht hb hB hl hl3 h4 h4r hk4 hb4
  go_wp2_with fail
  refine (clone132 _).mono ?_
  rintro e w5 ⟨rfl, rfl⟩
  go_wp2_with fail
  refine wp_loop_once ?_
  go_wp2_with fail
  refine (clone133 _).mono ?_
  rintro e w5 ⟨rfl, rfl⟩
  go_wp2_with fail
  refine wp_loop_once ?_
  go_wp2_with fail
  have hE := stL_heap [.int .i64 0, .int .i64 4, nmv [], .slice xa xn xc, nilS, nilS, nilS] _ 0 _ H3.out.2.2.2.2
  have hKL := stL_kept (w.heap.size + 1) [.int .i64 0, .int .i64 4, nmv [], .slice xa xn xc, nilS, nilS, nilS] 0 (w3.setCell ⟨w.heap.size, 3, none⟩ (.slice xa xn xc))
  have hBL := stL_below (b := w.heap.size + 1) (by omega) [.int .i64 0, .int .i64 4, nmv [], .slice xa xn xc, nilS, nilS, nilS] _ w 0 H3.out.2.2.1
  change bodyPost _ _ _ _ _ (stL (w3.setCell ⟨w.heap.size, 3, none⟩ (.slice xa xn xc)) (w.heap.size + 1) 0 [.int .i64 0, .int .i64 4, nmv [], .slice xa xn xc, nilS, nilS, nilS])
  have hk := fun i => cell_of hE i
  have HK : Hid (Kept w3 (stL (w3.setCell ⟨w.heap.size, 3, none⟩ (.slice xa xn xc)) (w.heap.size + 1) 0 [.int .i64 0, .int .i64 4, nmv [], .slice xa xn xc, nilS, nilS, nilS]) (fun k => w2.heap.size + 1 < k)) := hid (H3.out.2.1.trans (hKL.imp fun k _ hk => by have h1 := HZ.out; have h2 : w2.heap.size + 1 < k := hk; omega))
  have HB := hid hBL
  clear hE hKL hBL kr fr k4 f4 k3 f3 hs4 hs5 hs6
  generalize stL (w3.setCell ⟨w.heap.size, 3, none⟩ (.slice xa xn xc)) (w.heap.size + 1) 0 [.int .i64 0, .int .i64 4, nmv [], .slice xa xn xc, nilS, nilS, nilS] = wE at *
  exact bodyPost_ret (v := tmv (.slice xa xn xc) nilS) (by simp [results, Tryz.results64, go_sem, hk, wrL]) rfl ⟨_, rfl, fun W hK => H3.out.1 W (HK.out.trans (hK.imp fun k _ hk => by have h1 := HZ.out; have h2 : w2.heap.size + 1 < k := hk; show w.heap.size + 1 < k; omega)), HB.out⟩
end Go.Proofs.YtmcllcepoiakeaaGreat
