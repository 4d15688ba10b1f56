import Derived.Test.YtmcllcepoiakeaaGreatPU
import Derived.Test.YtmcllcepoiakeaaGreatZL
import Derived.Test.YtmcllcepoiakeaaGreatTBL
import Derived.Test.YtmcllcepoiakeaaGreatAS
import Derived.Test.YtmcllcepoiakeaaGreatHO
set_option linter.unusedSimpArgs false
set_option linter.unusedVariables false
namespace Go.Proofs.YtmcllcepoiakeaaGreat
open Go.RowKit Go.Mx Go.Proofs.YtmcllcepoiakeaaGreat.Dx Go.Dk Go.Cnt Go.Proofs.YtmcllcepoiakeaaGreat.Cx
theorem release_A {w : World} {base p q s kn g c b1 b6 : Nat} {nm : List UInt8} {tv rd : Value} {ch : Bool} {ask : Int} (b3 b4 b5 : Nat) (h : w.heap[q]? = some (.cells (imX p nm tv (.slice (some ⟨g, 0, none⟩) 1 c) s ch (dp kn) rd ask) 142 (0, 0))) (hbq : base ≤ q)
    (h1 : w.heap[b1]? = some (.cells #[dp q] 60 (0, 0))) (h6 : w.heap[b6]? = some (.cells #[.int .i64 1] 3 (0, 0))) (hg : OwnG w base 95 7 (.slice (some ⟨g, 0, none⟩) 1 c) [emC]) :
    Calls Tryz.prog 185 #[.bool false, dp b3, dp b4, dp b5, dp b1, dp b6] w fun e w' => ∃ hv, e = .returned (.tuple #[]) ∧ w'.heap[q]? = some (.cells (imX p nm tv hv s ch (dp kn) rd ask) 142 (0, 0)) ∧ Kept w w' (· ≠ q) ∧ Below base w w' := by
  have hsl := hg.to (P := Tryz.prog) Tryz.underlying138 size95 0 (by simp)
  have hsl : ∀ w', (Instr.slice 138 (.slice (some ⟨g, 0, none⟩) 1 c) none (some (.int .i64 0)) none).run Tryz.prog w' = .ok (.slice (some ⟨g, 0, none⟩) 0 c) w' := fun w' => hsl w' .i64
  have k1 := cell_of h1 0
  have k6 := cell_of h6 0
  have k16 : w.cell? ⟨q, 16, none⟩ = some (.slice (some ⟨g, 0, none⟩) 1 c) := cell_of h 16
  have z16 := fz_of h 16
  have e1 : IntKind.i64.wrap (1 - 1) = 0 := by decide
  have H := hid h
  clear h h1 h6 hg
  go_enter Tryz.func185, Tryz.ntmps185
  go_wp2_with fail
  go_region
  have hq := heap_setCell_at' w q 16 (.slice (some ⟨g, 0, none⟩) 0 c) _ _ _ H.out
  have HE := hid (show (w.setCell ⟨q, 16, none⟩ (.slice (some ⟨g, 0, none⟩) 0 c)).drew.heap[q]? = some (.cells (imX p nm tv (.slice (some ⟨g, 0, none⟩) 0 c) s ch (dp kn) rd ask) 142 (0, 0)) ∧ Kept w (w.setCell ⟨q, 16, none⟩ (.slice (some ⟨g, 0, none⟩) 0 c)).drew (· ≠ q) ∧ Below base w (w.setCell ⟨q, 16, none⟩ (.slice (some ⟨g, 0, none⟩) 0 c)).drew from ⟨hq, ⟨(Kept.set (N := fun k => k ≠ q) w q 16 (.slice (some ⟨g, 0, none⟩) 0 c) fun h => h rfl).size, (Kept.set (N := fun k => k ≠ q) w q 16 (.slice (some ⟨g, 0, none⟩) 0 c) fun h => h rfl).block⟩, ((Below.refl _ _).setCell (p := ⟨q, 16, none⟩) hbq _).drew⟩)
  clear hq k1 k6 k16 z16 hsl
  go_end0
  exact ⟨_, rfl, HE.out⟩
theorem Tryz.info158 : (Tryz.prog.info? 158).map (fun i => (i.zero, i.size, i.bytes)) = some (some (.agg #[.int .i64 0, .int .i64 0, .int .i64 0]), 3, 24) := by kernel_rfl
set_option maxRecDepth 100000 in
theorem split_21 (w : World) : Calls Tryz.prog 71 #[.int .i64 2, .int .i64 1, .int .i64 0] w fun e w' => ∃ v, e = .returned (.tuple #[v, .int .i64 0]) ∧ OwnG w' w.heap.size 158 3 v [[.int .i64 2, .int .i64 0, .int .i64 1]] ∧ Below w.heap.size w w' := by
  have hcell : ∀ j u, [Value.int .i64 2, .int .i64 0, .int .i64 1][j]? = some u → (w.alloc (.cells #[.int .i64 2, .int .i64 0, .int .i64 1] 158)).drew.cell? ⟨w.heap.size, j, none⟩ = some u := fun j u hj => by rw [cell_of (alloc_drew w _) j]; simpa using hj
  have hone : ∀ u ∈ [Value.int .i64 2, .int .i64 0, .int .i64 1], u.oneCell' = true := by simp [Value.oneCell']
  have hbA : w.heap.size ≤ (w.alloc (.cells #[.int .i64 2, .int .i64 0, .int .i64 1] 158)).drew.heap.size := by show _ ≤ (w.alloc _).heap.size; simp
  have e1 : IntKind.i64.wrap (Int.tdiv 2 1) = 2 := by decide
  have e2 : IntKind.i64.wrap (Int.tmod 2 1) = 0 := by decide
  go_enter Tryz.func71, Tryz.ntmps71
  go_wp2_with fail
  refine wp_loop_rounds 2 ?_
  rw [rounds_succ]
  go_wp2_with fail
  go_region_law (refine step_append_gn _ (by rfl) (.tmp 51) (.tmp 60) 154 158 _ 3 24 rfl Tryz.underlying154 Tryz.info158 rfl (by decide) w.heap.size _ [] (by rfl) (OwnG.nil _ _ _ _) w.heap.size 1 [.int .i64 2, .int .i64 0, .int .i64 1] (by rfl) rfl hcell hone (by decide) (by decide) hbA ?_; intro v' w7 ho7 hg7 hb7 hbk7; have hb97 := (bel1 w _).drew.trans hb7; obtain ⟨oa', n', c', rfl⟩ := ho7.sliceOf)
  all_goals
    have HE := hid (And.intro ho7 hb97)
    clear ho7 hg7 hb7 hbk7 hb97 hcell hone hbA
    go_wp2_with fail
    rw [rounds_succ]
    go_wp2_with fail
    go_ret2
    exact ⟨_, rfl, HE.out⟩
theorem bl_ka {base m q kn : Nat} {l : List (Nat × Array Value × TypeId)} {W W' : World} (h : BL l W) (hk : KA base m q kn W W') (hm : ∃ es c, W.heap[m]? = some (.map es c)) (hl : ∀ x ∈ l, (x.2.2 ≠ 64 ∧ x.2.2 ≠ 68 ∧ x.2.2 ≠ 131 ∧ x.2.2 ≠ 280) ∧ x.1 ≠ q ∧ x.1 ≠ kn) : BL l W' := fun x hx => hk.cells (h x hx) ⟨not_map hm (h x hx), (hl x hx).2.1, (hl x hx).2.2⟩ (hl x hx).1
theorem ne_ty {W : World} {a b : Nat} {c d : Array Value} {t u : TypeId} {f g : Nat × Nat} (h : W.heap[a]? = some (.cells c t f)) (k : W.heap[b]? = some (.cells d u g)) (n : t ≠ u) : a ≠ b := by rintro rfl; rw [h] at k; cases k; exact n rfl
set_option maxRecDepth 100000 in
set_option maxHeartbeats 2000000 in
theorem wr91 {w : World} {base p m room L i q s kn : Nat} {fl : FL} {nm : List UInt8} {hv rd : Value} {ch : Bool} {ask : Int} (h : IW w base p m room L i q s kn fl nm nilS hv rd ch ask) (hnl : nm.length ≤ 16)
    (hur : (fl.map (·.2)).sum + 1 ≤ room) (hroom : room ≤ 1048576) (hL : L + 1 ≤ 1000000) (hask : 0 ≤ ask ∧ ask ≤ 1000) (hbs : base ≤ q ∧ base ≤ kn) {bx bl lb lc : Nat} {cur : Array Value} {bv : Value} (hcur : cur[0]? = some (dp q))
    (hl : BL [(bl, #[.slice (some ⟨lb, 0, none⟩) 1 lc], 98), (bx, #[bv], 26), (lb, cur, 60)] w) (hb : SlB w w.heap.size bv bsA) :
    Calls Tryz.prog 91 #[.agg #[.int .i64 2, .int .i64 0, .int .i64 1], .bool true, .int .i64 0, dp bx, dp bl] w fun e w' => e = .returned (.int .i64 0) ∧ IP base p m room L i q s kn fl nm hv rd (ask + 1) w w' := by
  obtain ⟨xv, hxv, hsl⟩ := hb.part (P := Tryz.prog) Tryz.underlying26 (fun w => by kernel_rfl) 0 16 (by decide) (by decide)
  have hsl : ∀ w', (Instr.slice 26 bv (some (.int .i64 0)) (some (.int .i64 16)) none).run Tryz.prog w' = .ok xv w' := fun w' => hsl w' .i64 .i64
  have hxv : SlB w w.heap.size xv bsA := hxv
  have HX := hid hxv
  obtain ⟨oa, nn, c, rfl⟩ := slB_shape hb
  obtain ⟨xa, xn, xc, rfl⟩ := slB_shape hxv
  have hb1 := bel1 w (.cells #[.int .i64 2, .int .i64 0, .int .i64 1] 158)
  have hl1 := BL.new hl #[.int .i64 2, .int .i64 0, .int .i64 1] 158
  have HI := hid h
  clear h hb hxv hl
  go_enter Tryz.func91, Tryz.ntmps91
  have k0 := cell_of hl1.tail.tail.head 0
  have k1 := fun j => cell_of hl1.head j
  go_wp2_with fail
  generalize w.alloc (.cells #[.int .i64 2, .int .i64 0, .int .i64 1] 158) = w1 at *
  have hI1 := HI.out.below hb1
  have HS := hid (And.intro hl1 (And.intro hb1 (And.intro (ne_ty hl1.head hI1.im (by decide)) (And.intro (ne_ty hl1.tail.head hI1.im (by decide)) (And.intro (ne_ty hl1.tail.tail.head hI1.im (by decide)) (And.intro (ne_ty hl1.tail.tail.tail.head hI1.im (by decide)) (And.intro (ne_ty hl1.head hI1.kn (by decide)) (And.intro (ne_ty hl1.tail.head hI1.kn (by decide)) (And.intro (ne_ty hl1.tail.tail.head hI1.kn (by decide)) (ne_ty hl1.tail.tail.tail.head hI1.kn (by decide)))))))))))
  obtain ⟨l, hle⟩ : ∃ l, l = [(w.heap.size, (#[.int .i64 2, .int .i64 0, .int .i64 1] : Array Value), (158 : TypeId)), (bl, #[.slice (some ⟨lb, 0, none⟩) 1 lc], 98), (bx, #[.slice oa nn c], 26), (lb, cur, 60)] := ⟨_, rfl⟩
  have hl1' : BL l w1 := by rw [hle]; exact hl1
  have hm1 := hI1.hd.facts.2.1
  have HKA : Hid (∀ W W', BL l W → KA base m q kn W W' → (∃ es c, W.heap[m]? = some (.map es c)) → BL l W') := hid fun W W' h hk hm => bl_ka h hk hm fun x hx => by
    have hs := HS.out.2.2
    rw [hle] at hx
    simp only [List.mem_cons, List.not_mem_nil, or_false] at hx
    rcases hx with rfl | rfl | rfl | rfl
    · exact ⟨by simp, hs.1, hs.2.2.2.2.1⟩
    · exact ⟨by simp, hs.2.1, hs.2.2.2.2.2.1⟩
    · exact ⟨by simp, hs.2.2.1, hs.2.2.2.2.2.2.1⟩
    · exact ⟨by simp, hs.2.2.2.1, hs.2.2.2.2.2.2.2⟩
  have g1 : ∀ W, BL l W → W.cell? ⟨bl, 0, none⟩ = some (.slice (some ⟨lb, 0, none⟩) 1 lc) := fun W hW => by rw [hle] at hW; exact cell_of hW.tail.head 0
  have g2 : ∀ W, BL l W → W.cell? ⟨lb, 0, none⟩ = some (dp q) := fun W hW => by rw [hle] at hW; exact (cell_of hW.tail.tail.tail.head 0).trans hcur
  have g3 : ∀ W, BL l W → ∀ j, W.cell? ⟨w.heap.size, j, none⟩ = (#[.int .i64 2, .int .i64 0, .int .i64 1] : Array Value)[j]? := fun W hW j => by rw [hle] at hW; exact cell_of hW.head j
  have hia : ∀ w', (Instr.indexAt 98 (.slice (some ⟨lb, 0, none⟩) 1 lc) (.int .i64 0)).run Tryz.prog w' = .ok (.pointer (some ⟨lb, 0, none⟩)) w' := fun w' => by go_simp
  have HCL : Hid (Calls Tryz.prog 93 #[.slice xa xn xc] w1.drew fun e w' => ∃ v', e = .returned v' ∧ OwnB w' w1.drew.heap.size 5 v' bsA ∧ Below w1.drew.heap.size w1.drew w') := hid (Ux.clone_b _ bsA w.heap.size w1.drew ((HX.out.below hb1 (Nat.le_refl _)) : SlB w1 w.heap.size _ _) hb1.size (by decide))
  have hq1 : q < w1.drew.heap.size ∧ base ≤ w1.drew.heap.size := ⟨Nat.lt_of_lt_of_le (blk_lt HI.out.im) hb1.size, Nat.le_trans HI.out.hd.base_le hb1.size⟩
  have hI1d : IW w1.drew base p m room L i q s kn fl nm nilS hv rd ch ask := HI.out.below hb1.drew
  clear k0 k1 hl1 hI1 hb1 hsl
  have HL1 := hid hl1'
  have HLE := hid hle
  clear hle
  go_region_held3 (fun W => BL l W) (first | with_reducible assumption | with_reducible exact BL.drew hl1' | with_reducible exact BL.drew (by with_reducible assumption)) (first
    | (go_at_call 93; refine HCL.out.mono ?_; rintro e w9 ⟨cv, rfl, ho9, hb9⟩; have hl9 := BL.below (BL.drew hl1') hb9; have hI9 := hI1d.below hb9; obtain ⟨ca, cn, cc, rfl⟩ := slB_shape ho9.slB)
    | (go_at_call 92; refine (put_A hI9 hnl hur hroom hL hask hbs _ ho9 hq1).mono ?_; rintro e w10 ⟨rfl, hP⟩; have hl10 := HKA.out _ _ hl9 hP.ka hI9.hd.facts.2.1))
  have HE := hid (IP.of (HS.out.2.1.drew.trans (hb9.mono (show w.heap.size ≤ w1.heap.size from HS.out.2.1.size))) HI.out.hd.base_le hP)
  clear hb9 hP hl9 hl10 hI9 ho9
  go_wp2_with fail
  go_ret
  exact ⟨rfl, HE.out⟩
theorem dfr171 {w : World} {base p q s kn g c b1 b6 b8 b12 : Nat} {nm : List UInt8} {tv rd : Value} {ch : Bool} {ask : Int} (b3 b4 b5 : Nat) (u : FrameMode) (h : w.heap[q]? = some (.cells (imX p nm tv (.slice (some ⟨g, 0, none⟩) 1 c) s ch (dp kn) rd ask) 142 (0, 0))) (hbq : base ≤ q)
    (h1 : w.heap[b1]? = some (.cells #[dp q] 60 (0, 0))) (h6 : w.heap[b6]? = some (.cells #[.int .i64 1] 3 (0, 0))) (hg : OwnG w base 95 7 (.slice (some ⟨g, 0, none⟩) 1 c) [emC])
    (h8 : w.heap[b8]? = some (.cells #[.int .i64 0] 29 (0, 0))) (h12 : w.heap[b12]? = some (.cells #[.func (.func 185) #[] #[dp b3, dp b4, dp b5, dp b1, dp b6]] 202 (0, 0))) :
    CallsD Tryz.prog 171 #[dp b12, dp b8] u w fun e u' w' => u' = u ∧ (e = .returned (.tuple #[]) ∧ ∃ hv, w'.heap[q]? = some (.cells (imX p nm tv hv s ch (dp kn) rd ask) 142 (0, 0)) ∧ Kept w w' (· ≠ q) ∧ Below base w w') := by
  have k8 := cell_of h8 0
  have k12 := cell_of h12 0
  have HR := hid (release_A b3 b4 b5 h hbq h1 h6 hg)
  clear h h1 h6 hg h8 h12
  go_enter_d Tryz.func171, Tryz.ntmps171
  go_wp2_with fail
  refine HR.out.mono ?_
  rintro e w1 ⟨hv, rfl, h1, h2, h3⟩
  go_wp2_with fail
  go_end0
  exact ⟨rfl, hv, h1, h2, h3⟩
theorem size158 : ∀ w, (sizeOf 158).run Tryz.prog w = .ok 3 w := fun w => by kernel_rfl
set_option maxRecDepth 100000 in
set_option maxHeartbeats 2000000 in
theorem pieces_A {w : World} {base p m room L i q s kn : Nat} {fl : FL} {nm : List UInt8} {rd : Value} {ch : Bool} {ask : Int} (hd : HG w base p m room fl L) (hi : fl[i]? = some (nm, 4)) (him : w.heap[q]? = some (.cells (imX p nm nilS nilS s ch (dp kn) rd ask) 142 (0, 0))) (hkn : w.heap[kn]? = some (.cells #[nilS, .int .i64 0] 310 (0, 0))) (hnl : nm.length ≤ 16)
    (hur : (fl.map (·.2)).sum + 1 ≤ room) (hroom : room ≤ 1048576) (hL : L + 1 ≤ 1000000) (hask : 0 ≤ ask ∧ ask ≤ 1000) (hbs : base ≤ q ∧ base ≤ kn) {bx bl lb lc : Nat} {cur : Array Value} {bv : Value} (hcur : cur[0]? = some (dp q))
    (hl : BL [(bl, #[.slice (some ⟨lb, 0, none⟩) 1 lc], 98), (bx, #[bv], 26), (lb, cur, 60)] w) (hb : ∀ W, KA base m q kn w W → SlB W W.heap.size bv bsA) :
    Calls Tryz.prog 90 #[.slice (some ⟨lb, 0, none⟩) 1 lc, .int .i64 2, .int .i64 1, .func (.func 91) #[] #[dp bx, dp bl]] w fun e w' => e = .returned (.int .i64 0) ∧ ∃ hv, IP base p m room L i q s kn fl nm hv rd (ask + 1) w w' := by
  have hmf : ∀ (fn : Fn) (first cap : Array Value) (w : World), (Instr.makeFunc fn first cap).run Tryz.prog w = .ok (.func fn first cap) w := fun _ _ _ _ => rfl
  have hia : ∀ w', (Instr.indexAt 98 (.slice (some ⟨lb, 0, none⟩) 1 lc) (.int .i64 0)).run Tryz.prog w' = .ok (.pointer (some ⟨lb, 0, none⟩)) w' := fun w' => by go_simp
  have hb0 := bel1 w (.cells #[.int .i64 0] 29)
  have hl0 := BL.new (BL.cons him (BL.cons hkn hl)) #[.int .i64 0] 29
  have H := hid (And.intro hd (And.intro hi (And.intro him (And.intro hkn (And.intro hb hl)))))
  clear hd hi him hkn hl hb
  go_enter_defers Tryz.func90, Tryz.ntmps90
  have k0 : (w.alloc (.cells #[.int .i64 0] 29)).cell? ⟨lb, 0, none⟩ = some (dp q) := (cell_of hl0.tail.tail.tail.tail.tail.head 0).trans hcur
  go_wp2_with fail
  generalize w.alloc (.cells #[.int .i64 0] 29) = w0 at *
  refine (shape_any hl0.tail.head rfl rfl rfl).mono ?_
  rintro e w1 ⟨rfl, hb1⟩
  have hl1 := hl0.below hb1
  have HB1 := hid (hb0.trans (hb1.mono hb0.size))
  have k1 : w1.cell? ⟨lb, 0, none⟩ = some (dp q) := (cell_of hl1.tail.tail.tail.tail.tail.head 0).trans hcur
  have HL1 := hid hl1
  clear hb0 hb1 hl0 hl1 k0
  go_wp2_with fail
  refine (hold_A HL1.out.tail.head hbs.1 HL1.out.tail.tail.head).mono ?_
  rintro e w2 ⟨b1, b3, b4, b5, b6, hv, rfl, hH⟩
  obtain ⟨g, c, hve, _, _⟩ := (OwnG.shape hH.hh).resolve_left (by simp)
  have hve : hv = .slice (some ⟨g, 0, none⟩) 1 c := hve
  subst hve
  have HH := hid hH
  clear hH k1
  go_wp2_with fail
  have hlt1 := blk_lt HL1.out.tail.head
  have nq : ∀ {k : Nat} {c : Array Value} {t : TypeId}, w1.heap[k]? = some (.cells c t (0, 0)) → t ≠ 142 → w2.heap[k]? = some (.cells c t (0, 0)) := fun h n => (HH.out.kp.block _ (blk_lt h) (ne_ty h HL1.out.tail.head n)).trans h
  have hl3 := BL.new (BL.cons HH.out.h1 (BL.cons HH.out.h6 (BL.cons (nq HL1.out.head (by decide)) (BL.cons (nq HL1.out.tail.tail.tail.head (by decide)) (BL.cons (nq HL1.out.tail.tail.tail.tail.head (by decide)) (BL.cons (nq HL1.out.tail.tail.tail.tail.tail.head (by decide)) (BL.nil _))))))) #[.func (.func 185) #[] #[dp b3, dp b4, dp b5, dp b1, dp b6]] 202
  have hG1 := H.out.1.below HB1.out
  have hG2 := HG.kept hG1 HH.out.kp fun k hF e => hF (by subst e; exact ⟨not_map hG1.facts.2.1 HL1.out.tail.head, fun c t fr e => by rw [HL1.out.tail.head] at e; cases e; decide⟩)
  have hI2 : IW w2 base p m room L i q s kn fl nm nilS (.slice (some ⟨g, 0, none⟩) 1 c) rd ch ask := ⟨hG2, H.out.2.1, HH.out.im, HH.out.hh.any_base (Nat.le_trans H.out.1.base_le HB1.out.size), nq HL1.out.tail.tail.head (by decide)⟩
  have hI3 := hI2.below (bel1 w2 (.cells #[.func (.func 185) #[] #[dp b3, dp b4, dp b5, dp b1, dp b6]] 202))
  have hK3 : KA base m q kn w (w2.alloc (.cells #[.func (.func 185) #[] #[dp b3, dp b4, dp b5, dp b1, dp b6]] 202)) := ((KA.of_below HB1.out H.out.1.base_le).trans ⟨HH.out.bl, HH.out.kp.imp fun k _ h => h.2.1⟩).trans (KA.of_below (bel1 _ _) hG2.base_le)
  have hS3 : w.heap.size ≤ (w2.alloc (.cells #[.func (.func 185) #[] #[dp b3, dp b4, dp b5, dp b1, dp b6]] 202)).heap.size := hK3.kp.size
  obtain ⟨l3, hle⟩ : ∃ l, l = [(w2.heap.size, (#[.func (.func 185) #[] #[dp b3, dp b4, dp b5, dp b1, dp b6]] : Array Value), (202 : TypeId)), (b1, #[dp q], 60), (b6, #[.int .i64 1], 3), (w.heap.size, #[.int .i64 0], 29), (bl, #[.slice (some ⟨lb, 0, none⟩) 1 lc], 98), (bx, #[bv], 26), (lb, cur, 60)] := ⟨_, rfl⟩
  rw [← hle] at hl3
  have HB := hid (H.out.2.2.2.2.1)
  have H3 := hid (And.intro hl3 (And.intro hI3 (And.intro hK3 hle)))
  clear hlt1 nq hl3 hG1 hG2 hI2 hI3 hK3 hS3 hle
  generalize w2.alloc (.cells #[.func (.func 185) #[] #[dp b3, dp b4, dp b5, dp b1, dp b6]] 202) = w3 at *
  refine (split_21 w3).mono ?_
  rintro e w4 ⟨v, rfl, ho4, hb4⟩
  obtain ⟨pb, po, hpb, hpi, hpc⟩ := ho4.slG.addr (P := Tryz.prog) Tryz.underlying154 size158 0 (by simp)
  have hln4 := fun w' => ho4.slG.len (P := Tryz.prog) (ty := 3) Tryz.underlying154 w'
  have hpi : ∀ w', (Instr.indexAt 154 v (.int .i64 0)).run Tryz.prog w' = .ok (.pointer (some ⟨pb, po, none⟩)) w' := fun w' => hpi w' .i64
  have p0 : w4.cell? ⟨pb, po, none⟩ = some (.int .i64 2) := hpc 0 _ rfl
  have p1 : w4.cell? ⟨pb, po + 1, none⟩ = some (.int .i64 0) := hpc 1 _ rfl
  have p2 : w4.cell? ⟨pb, po + 2, none⟩ = some (.int .i64 1) := hpc 2 _ rfl
  obtain ⟨va, vn, vc, rfl⟩ := slG_sh ho4.slG
  have H4 := hid (And.intro (H3.out.1.below hb4) (And.intro (H3.out.2.1.below hb4) (And.intro (H3.out.2.2.1.trans (KA.of_below hb4 H3.out.2.1.hd.base_le)) hb4)))
  clear ho4 hb4 hpc hpb
  go_wp2_with fail
  refine wp_loop_rounds 2 ?_
  rw [rounds_succ]
  go_wp2_with fail
  have hl5 := BL.new H4.out.1 #[.int .i64 2, .int .i64 0, .int .i64 1] 158
  have hb5 := bel1 w4 (.cells #[.int .i64 2, .int .i64 0, .int .i64 1] 158)
  have hI5 := H4.out.2.1.below hb5
  have hK5 := H4.out.2.2.1.trans (KA.of_below hb5 H4.out.2.1.hd.base_le)
  have hz5 : w4.heap.size < (w4.alloc (.cells #[.int .i64 2, .int .i64 0, .int .i64 1] 158)).heap.size := by simp
  have hv5 := HB.out _ hK5
  clear p0 p1 p2 hpi hln4
  generalize w4.alloc (.cells #[.int .i64 2, .int .i64 0, .int .i64 1] 158) = w5 at *
  obtain ⟨l5, hl5e⟩ : ∃ l, l = (w4.heap.size, (#[.int .i64 2, .int .i64 0, .int .i64 1] : Array Value), (158 : TypeId)) :: l3 := ⟨_, rfl⟩
  rw [← hl5e] at hl5
  have HLE := hid (And.intro hl5e H3.out.2.2.2)
  have hmem : l5 = [(w4.heap.size, (#[.int .i64 2, .int .i64 0, .int .i64 1] : Array Value), (158 : TypeId)), (w2.heap.size, (#[.func (.func 185) #[] #[dp b3, dp b4, dp b5, dp b1, dp b6]] : Array Value), (202 : TypeId)), (b1, #[dp q], 60), (b6, #[.int .i64 1], 3), (w.heap.size, #[.int .i64 0], 29), (bl, #[.slice (some ⟨lb, 0, none⟩) 1 lc], 98), (bx, #[bv], 26), (lb, cur, 60)] := by rw [hl5e, H3.out.2.2.2]
  have HKA : Hid (∀ W', KA base m q kn w5 W' → BL l5 W') := hid fun W' hk => bl_ka hl5 hk hI5.hd.facts.2.1 fun x hx => ⟨by
    rw [hmem] at hx
    simp only [List.mem_cons, List.not_mem_nil, or_false] at hx
    rcases hx with rfl | rfl | rfl | rfl | rfl | rfl | rfl | rfl <;> simp, ne_ty (hl5 x hx) hI5.im (by
    rw [hmem] at hx
    simp only [List.mem_cons, List.not_mem_nil, or_false] at hx
    rcases hx with rfl | rfl | rfl | rfl | rfl | rfl | rfl | rfl <;> simp), ne_ty (hl5 x hx) hI5.kn (by
    rw [hmem] at hx
    simp only [List.mem_cons, List.not_mem_nil, or_false] at hx
    rcases hx with rfl | rfl | rfl | rfl | rfl | rfl | rfl | rfl <;> simp)⟩
  have HM := hid hmem
  have g3 : ∀ W, BL l5 W → ∀ j, W.cell? ⟨w4.heap.size, j, none⟩ = (#[.int .i64 2, .int .i64 0, .int .i64 1] : Array Value)[j]? := fun W hW j => by rw [HM.out] at hW; exact cell_of hW.head j
  have gs : ∀ W, BL l5 W → W.setCell ⟨w.heap.size, 0, none⟩ (.int .i64 0) = W := fun W hW => by rw [HM.out] at hW; exact setCell_self (cell_of hW.tail.tail.tail.tail.head 0)
  have g8 : ∀ W, BL l5 W → W.cell? ⟨w.heap.size, 0, none⟩ = some (.int .i64 0) := fun W hW => by rw [HM.out] at hW; exact cell_of hW.tail.tail.tail.tail.head 0
  have f8 : ∀ W, BL l5 W → W.frozen? ⟨w.heap.size, 0, none⟩ = false := fun W hW => by rw [HM.out] at hW; exact fz_of hW.tail.tail.tail.tail.head 0
  have HWR : Hid (Calls Tryz.prog 91 #[.agg #[.int .i64 2, .int .i64 0, .int .i64 1], .bool true, .int .i64 0, dp bx, dp bl] w5.drew fun e w' => e = .returned (.int .i64 0) ∧ IP base p m room L i q s kn fl nm (.slice (some ⟨g, 0, none⟩) 1 c) rd (ask + 1) w5.drew w') := hid (wr91 (w := w5.drew) (hI5.below (Below.refl _ _).drew) hnl hur hroom hL hask hbs hcur (by have h := hl5; rw [HM.out] at h; exact h.drew.tail.tail.tail.tail.tail) (show SlB w5 w5.heap.size bv bsA from hv5))
  have H5 := hid (And.intro hl5 (And.intro hI5 (And.intro hK5 hz5)))
  clear hl5e hmem hI5 hK5 hz5 hv5 hb5
  go_region_held3 (fun W => BL l5 W) (first | with_reducible assumption | with_reducible exact BL.drew hl5 | with_reducible exact BL.drew (by with_reducible assumption)) (first
    | (go_at_call 91; refine HWR.out.mono ?_; rintro e w6 ⟨rfl, hP⟩; have hl6 := HKA.out _ ((KA.of_below (Below.refl _ _).drew H5.out.2.1.hd.base_le).trans hP.ka)))
  have HP := hid (And.intro hP hl6)
  have y8 := g8 _ hl6
  have x8 := f8 _ hl6
  have s8 := gs _ hl6
  have y3 := g3 _ hl6
  clear g3 gs g8 f8 hP hl6 HWR
  go_wp2_with fail
  rw [rounds_succ]
  go_wp2_with fail
  clear y8 x8 s8 y3
  obtain ⟨tv, him6, htab⟩ := HP.out.1.im
  have hl6 := HP.out.2
  rw [HM.out] at hl6
  have hG5 := H5.out.2.1.hh
  have hg6 : OwnG w6 base 95 7 (.slice (some ⟨g, 0, none⟩) 1 c) [emC] := OwnG.kept (w := w5.drew) hG5 HP.out.1.ka.kp fun k hk => by
    obtain ⟨cc, fr, hc⟩ := hG5.type hk
    exact ⟨⟨not_map H5.out.2.1.hd.facts.2.1 hc, fun c' t' fr' e' => by have e'' : w5.heap[k]? = _ := e'; rw [hc] at e''; cases e''; decide⟩, ⟨(by rintro rfl; rw [H5.out.2.1.im] at hc; cases hc), (by rintro rfl; rw [H5.out.2.1.kn] at hc; cases hc)⟩⟩
  refine leaves_cons (f := 171) (args := #[dp w2.heap.size, dp w.heap.size]) (by simp) (by simp [go_sem]) ?_
  refine (dfr171 b3 b4 b5 .returning him6 hbs.1 hl6.tail.tail.head hl6.tail.tail.tail.head hg6 hl6.tail.tail.tail.tail.head hl6.tail.head).mono ?_
  rintro e u' w7 ⟨rfl, rfl, hv', him7, hk7, hb7⟩
  have h8 : w7.cell? ⟨w.heap.size, 0, none⟩ = some (.int .i64 0) := cell_of ((hk7.block _ (blk_lt hl6.tail.tail.tail.tail.head) (ne_ty hl6.tail.tail.tail.tail.head him6 (by decide))).trans hl6.tail.tail.tail.tail.head) 0
  have hq5 := blk_lt H5.out.2.1.im
  have HE : IP base p m room L i q s kn fl nm hv' rd (ask + 1) w w7 := ⟨⟨tv, him7, fun W hK => htab W ((hk7.imp fun k _ hk => by have h1 : w5.heap.size < k := hk; omega).trans (hK.imp fun k _ hk => by have h1 : w5.heap.size < k := hk; have h2 := H5.out.2.2.1.kp.size; show w.heap.size < k; omega))⟩,
    HP.out.1.hc.kept hk7 fun k hF e => hF (by subst e; exact ⟨not_map HP.out.1.hc.hg.facts.2.1 him6, fun c t fr e => by rw [him6] at e; cases e; decide⟩),
    (H5.out.2.2.1.trans ((KA.of_below (Below.refl _ _).drew H5.out.2.1.hd.base_le).trans HP.out.1.ka)).trans ⟨hb7, hk7.imp fun k _ h => h.2.1⟩⟩
  simp [Leaves, settle, results, Tryz.results90, go_sem, h8]
  exact ⟨hv', HE⟩
theorem sl_one {w : World} {lb lc : Nat} {cur : Array Value} {v : Value} (h : w.heap[lb]? = some (.cells cur 60 (0, 0))) (h1 : 1 ≤ lc) (h2 : lc ≤ maxLen) (hc : cur[0]? = some v) : SlG w w.heap.size 1 (.slice (some ⟨lb, 0, none⟩) 1 lc) [[v]] :=
  ⟨_, _, rfl, h1, h2, fun _ => ⟨lb, 0, rfl, blk_lt h, fun i hi j u hj => by
    obtain rfl : i = 0 := by simp at hi; exact hi
    match j with
    | 0 => simp at hj; subst hj; exact (cell_of h 0).trans hc
    | j + 1 => simp at hj⟩⟩
set_option maxRecDepth 100000 in
set_option maxHeartbeats 2000000 in
theorem write_A {w : World} {base p m room L i q s kn : Nat} {fl : FL} {nm : List UInt8} {rd : Value} {ch : Bool} {ask : Int} (hd : HG w base p m room fl L) (hi : fl[i]? = some (nm, 4)) (him : w.heap[q]? = some (.cells (imX p nm nilS nilS s ch (dp kn) rd ask) 142 (0, 0))) (hkn : w.heap[kn]? = some (.cells #[nilS, .int .i64 0] 310 (0, 0))) (hnl : nm.length ≤ 16)
    (hur : (fl.map (·.2)).sum + 1 ≤ room) (hroom : room ≤ 1048576) (hL : L + 1 ≤ 1000000) (hask : 0 ≤ ask ∧ ask ≤ 1000) (hbs : base ≤ q ∧ base ≤ kn) {lb lc : Nat} {cur : Array Value} {bv : Value} (hcur : cur[0]? = some (dp q)) (hlc : 1 ≤ lc ∧ lc ≤ maxLen)
    (hl : w.heap[lb]? = some (.cells cur 60 (0, 0))) (hb : ∀ W, KA base m q kn w W → SlB W W.heap.size bv bsA) :
    Calls Tryz.prog 49 #[.slice (some ⟨lb, 0, none⟩) 1 lc, .int .i64 2, bv] w fun e w' => e = .returned (.int .i64 0) ∧ ∃ hv, IP base p m room L i q s kn fl nm hv rd (ask + 1) w w' := by
  have hmf : ∀ (fn : Fn) (first cap : Array Value) (w : World), (Instr.makeFunc fn first cap).run Tryz.prog w = .ok (.func fn first cap) w := fun _ _ _ _ => rfl
  have hbw := hb w (KA.of_below (Below.refl _ _) hd.base_le)
  have hln := fun ty w' => SlB.len (P := Tryz.prog) (ty := ty) hbw Tryz.underlying26 w'
  rw [show bsA.length = 16 from rfl] at hln
  obtain ⟨oa, nn, c, rfl⟩ := slB_shape hbw
  have hB0 := bel2 w (.cells #[.slice (some ⟨lb, 0, none⟩) 1 lc] 98) (.cells #[.slice oa nn c] 26)
  have hl0 := (BL.new (BL.new (BL.cons him (BL.cons hkn (BL.cons hl (BL.nil _)))) #[.slice (some ⟨lb, 0, none⟩) 1 lc] 98) #[.slice oa nn c] 26)
  have H := hid (And.intro hd (And.intro hi hb))
  clear hd hi him hkn hl hb hbw
  go_enter Tryz.func49, Tryz.ntmps49
  go_wp2_with fail
  simp only [World.size_alloc] at hl0
  generalize (w.alloc (.cells #[.slice (some ⟨lb, 0, none⟩) 1 lc] 98)).alloc (.cells #[.slice oa nn c] 26) = w0 at *
  refine (within_any hl0.tail.tail.head rfl rfl rfl (sl_one hl0.tail.tail.tail.tail.head hlc.1 hlc.2 hcur)).mono ?_
  rintro e w1 ⟨rfl, hb1⟩
  have HB1 := hid (And.intro (hB0.trans (hb1.mono hB0.size)) (hl0.below hb1))
  have k0 := cell_of HB1.out.2.head 0
  have k1 := cell_of HB1.out.2.tail.head 0
  clear hl0 hb1 hB0
  go_wp2_with fail
  have hl1 := HB1.out.2
  refine (pieces_A (H.out.1.below HB1.out.1) H.out.2.1 hl1.tail.tail.head hl1.tail.tail.tail.head hnl hur hroom hL hask hbs hcur (BL.cons hl1.tail.head (BL.cons hl1.head (BL.cons hl1.tail.tail.tail.tail.head (BL.nil _)))) (fun W hW => H.out.2.2 W ((KA.of_below HB1.out.1 H.out.1.base_le).trans hW))).mono ?_
  rintro e w2 ⟨rfl, hv, hP⟩
  have HE := hid (IP.of HB1.out.1 H.out.1.base_le hP)
  clear hP hl1 k0 k1
  go_wp2_with fail
  go_ret
  exact ⟨rfl, hv, HE.out⟩
end Go.Proofs.YtmcllcepoiakeaaGreat
