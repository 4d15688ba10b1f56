import Derived.Test.YtmcllcepoiakeaaGreatCP
set_option linter.unusedSimpArgs false
set_option linter.unusedVariables false
namespace Go.Proofs.YtmcllcepoiakeaaGreat
open Go.RowKit Go.Mx Go.Proofs.YtmcllcepoiakeaaGreat.Dx Go.Dk Go.Cnt Go.Proofs.YtmcllcepoiakeaaGreat.Cx
/-- an image while one sector is written -/
structure IW (w : World) (base p m room L i q s kn : Nat) (fl : FL) (nm : List UInt8) (tv hv rd : Value) (ch : Bool) (ask : Int) : Prop where
  hd : HG w base p m room fl L
  hi : fl[i]? = some (nm, 4)
  im : w.heap[q]? = some (.cells (imX p nm tv hv s ch (dp kn) rd ask) 142 (0, 0))
  hh : OwnG w base 95 7 hv [emC]
  kn : w.heap[kn]? = some (.cells #[nilS, .int .i64 0] 310 (0, 0))
theorem IW.below {w w' : World} {base p m room L i q s kn : Nat} {fl : FL} {nm : List UInt8} {tv hv rd : Value} {ch : Bool} {ask : Int} (h : IW w base p m room L i q s kn fl nm tv hv rd ch ask) (hb : Below w.heap.size w w') : IW w' base p m room L i q s kn fl nm tv hv rd ch ask :=
  ⟨h.hd.below hb, h.hi, qk_below h.im hb, h.hh.below hb (Nat.le_refl _), qk_below h.kn hb⟩
/-- behind it -/
structure IV (base p m room L i q s kn : Nat) (fl : FL) (nm : List UInt8) (tv hv rd : Value) (ch : Bool) (ask : Int) (w w' : World) : Prop where
  im : w'.heap[q]? = some (.cells (imX p nm tv hv s ch (dp kn) rd ask) 142 (0, 0))
  hc : HC w' base p m room (fl.set i (nm, 5)) (L + 1) i nm 5 4 bsA
  ka : KA base m q kn w w'
set_option maxRecDepth 100000 in
set_option maxHeartbeats 2000000 in
theorem entry_A {w : World} {base p m room L i q s kn : Nat} {fl : FL} {nm : List UInt8} {hv rd : Value} {ch : Bool} {ask : Int} (h : IW w base p m room L i q s kn fl nm nilS hv rd ch ask) (hnl : nm.length ≤ 16)
    (hur : (fl.map (·.2)).sum + 1 ≤ room) (hroom : room ≤ 1048576) (hL : L + 1 ≤ 1000000) (hask : 0 ≤ ask ∧ ask ≤ 1000) (hbs : base ≤ q ∧ base ≤ kn) (bv : Value) {b0 : Nat} (hb : OwnB w b0 5 bv bsA) (hb0 : q < b0 ∧ base ≤ b0) :
    Calls Tryz.prog 229 #[dp q, bv] w fun e w' => e = .returned (.tuple #[eV smA, .int .i64 0]) ∧ IV base p m room L i q s kn fl nm nilS hv rd ch (ask + 1) w w' := by
  have hb1 := bel1 w (.cells #[.int .i64 0, .int .i64 0, .int .i64 0, .int .i64 0, .int .u32 0] 187)
  have e1 := BL.new (BL.nil w) #[.int .i64 0, .int .i64 0, .int .i64 0, .int .i64 0, .int .u32 0] 187
  have HI := hid h
  have HO := hid (And.intro hb hb0)
  obtain ⟨oa, nn, c, rfl⟩ := slB_shape hb.slB
  have H5 := hid (con156 102 _ (by decide) _ _ ((hb.slB.below hb1 (Nat.le_refl _)).mono hb1.size) (by decide))
  have H6 := hid (entries_nil (qk_below h.im hb1))
  clear h hb hb0
  go_enter Tryz.func229, Tryz.ntmps229
  go_wp2_with fail
  refine H5.out.mono ?_
  generalize w.alloc (.cells #[.int .i64 0, .int .i64 0, .int .i64 0, .int .i64 0, .int .u32 0] 187) = w1 at *
  rintro e w2 ⟨rfl, rfl⟩
  go_wp2_with fail
  refine H6.out.mono ?_
  rintro e w2 ⟨mm, rfl, hb2⟩
  have hbw2 := hb1.trans (hb2.mono hb1.size)
  have HB2 := hid (And.intro hbw2 (e1.below hb2))
  have y := fun j => cell_of (HI.out.below hbw2).im j
  simp only [imX] at y
  clear hb1 e1 hb2 hbw2
  go_wp2_with fail
  refine (ifind kn bsA _ w2 (HI.out.below HB2.out.1).kn ((HO.out.1.slB.below HB2.out.1 (Nat.le_refl _)).mono HB2.out.1.size) (by decide)).mono ?_
  rintro e w3 ⟨rfl, hb3⟩
  have HB3 := hid (And.intro (HB2.out.1.trans (hb3.mono HB2.out.1.size)) (HB2.out.2.below hb3))
  clear hb3 y
  go_wp2_with fail
  refine wp_loop_once ?_
  go_wp2_with fail
  have hI3 := HI.out.below HB3.out.1
  refine (laid_A hI3.hd hI3.hi hnl hur hroom hL hask hI3.im hI3.hh hI3.kn hbs _ (HO.out.1.below HB3.out.1 HO.out.1.lt) HO.out.2).mono ?_
  rintro e w4 ⟨rfl, hq4, hc4, hk4⟩
  have hl4 := hk4.cells HB3.out.2.head ⟨not_map hI3.hd.facts.2.1 HB3.out.2.head, by have := blk_lt HI.out.im; omega, by have := blk_lt HI.out.kn; omega⟩ (by decide)
  have HE := hid (And.intro hq4 (And.intro hc4 (And.intro ((KA.of_below HB3.out.1 HI.out.hd.base_le).trans hk4) hl4)))
  have y4 := fun j => cell_of hl4 j
  have f4 := fun j => fz_of hl4 j
  clear hI3 hq4 hc4 hk4 hl4
  go_wp2_with fail
  change bodyPost _ _ _ _ _ (stL w4 w.heap.size 0 [.int .i64 2, .int .i64 4, .int .i64 1, .int .i64 0, .int .u32 smA])
  have hE := stL_heap [.int .i64 2, .int .i64 4, .int .i64 1, .int .i64 0, .int .u32 smA] w4 0 _ HE.out.2.2.2
  have hKL := stL_kept w.heap.size [.int .i64 2, .int .i64 4, .int .i64 1, .int .i64 0, .int .u32 smA] 0 w4
  have hqE := (hKL.block q (blk_lt HE.out.1) (Nat.ne_of_lt (blk_lt HI.out.im))).trans HE.out.1
  have hCE := HE.out.2.1.kept hKL fun k hF e => hF (by subst e; exact ⟨not_map HE.out.2.1.hg.facts.2.1 HE.out.2.2.2, fun c t fr e => by rw [HE.out.2.2.2] at e; cases e; decide⟩)
  have hKE := HE.out.2.2.1.stL (Nat.le_refl _) HI.out.hd.base_le 0 [.int .i64 2, .int .i64 4, .int .i64 1, .int .i64 0, .int .u32 smA]
  have HF := hid (show IV base p m room L i q s kn fl nm nilS hv rd ch (ask + 1) w _ from ⟨hqE, hCE, hKE⟩)
  have hk := fun i => cell_of hE i
  clear hqE hCE hKE hKL hE y4 f4
  generalize stL w4 w.heap.size 0 [.int .i64 2, .int .i64 4, .int .i64 1, .int .i64 0, .int .u32 smA] = wE at *
  exact bodyPost_ret (v := .tuple #[eV smA, .int .i64 0]) (by simp [results, Tryz.results229, go_sem, hk, wrL]) rfl ⟨rfl, HF.out⟩
theorem mown_nil (w : World) : Calls Tryz.prog 179 #[nilS] w fun e w' => e = .returned nilS ∧ w = w' := by
  go_enter Tryz.func179, Tryz.ntmps179
  go_wp2_with fail
  refine (clone133 _).mono ?_
  rintro e w1 ⟨rfl, rfl⟩
  go_wp2_with fail
  refine wp_loop_once ?_
  go_wp2_with fail
  go_ret
  exact ⟨rfl, rfl⟩
theorem touch_nil (a b : Int) (w : World) : Calls Tryz.prog 231 #[nilS, .agg #[.int .i64 a, .int .i64 b]] w fun e w' => e = .returned nilS ∧ Below w.heap.size w w' := by
  go_enter Tryz.func231, Tryz.ntmps231
  go_wp2_with fail
  refine (mown_nil _).mono ?_
  rintro e w1 ⟨rfl, rfl⟩
  go_wp2_with fail
  refine wp_loop_once ?_
  go_wp2_with fail
  go_ret
  exact ⟨rfl, bel1 _ _⟩
theorem itouch {w : World} {p q s kn : Nat} {nm : List UInt8} {tv hv rd : Value} {ch : Bool} {ask : Int} (h : w.heap[q]? = some (.cells (imX p nm tv hv s ch (dp kn) rd ask) 142 (0, 0))) :
    Calls Tryz.prog 172 #[dp q, .int .i64 2] w fun e w' => e = .returned (.tuple #[]) ∧ Below w.heap.size w w' := by
  have y := fun j => cell_of h j
  simp only [imX] at y
  have H := hid h
  clear h
  go_enter Tryz.func172, Tryz.ntmps172
  go_wp2_with fail
  refine (touch_nil _ _ _).mono ?_
  rintro e w1 ⟨rfl, hb⟩
  have h1 := qk_below H.out hb
  have y1 := fun j => cell_of h1 j
  have f1 := fun j => fz_of h1 j
  have hs : w1.setCell ⟨q, 7, none⟩ nilS = w1 := setCell_self (cell_of h1 7)
  simp only [imX] at y1
  have HB := hid hb
  clear h1 hb y
  go_wp2_with fail
  go_end0
  exact ⟨rfl, HB.out⟩
set_option maxRecDepth 100000 in
theorem iset {w : World} {base p q s kn : Nat} {nm : List UInt8} {hv rd : Value} {ch : Bool} {ask : Int} (h : w.heap[q]? = some (.cells (imX p nm nilS hv s ch (dp kn) rd ask) 142 (0, 0))) (hbq : base ≤ q) (sm : Nat) :
    Calls Tryz.prog 230 #[dp q, nmv [], .int .i64 2, eV sm] w fun e w' => ∃ tv, e = .returned (.tuple #[]) ∧ w'.heap[q]? = some (.cells (imX p nm tv hv s true (dp kn) rd ask) 142 (0, 0)) ∧ (∀ W, Kept w' W (fun k => w.heap.size < k) → IsTab W W.heap.size tv (tA sm)) ∧ Kept w w' (· ≠ q) ∧ Below base w w' := by
  have hlt := blk_lt h
  have h1 := qk_alloc h (.cells #[.int .i64 2, .int .i64 4, .int .i64 1, .int .i64 0, .int .u32 sm] 187)
  have y1 := fun j => cell_of h1 j
  have f1 := fun j => fz_of h1 j
  simp only [imX] at y1
  have H1 := hid (And.intro h (And.intro hlt hbq))
  clear h h1
  go_enter Tryz.func230, Tryz.ntmps230
  go_wp2_with fail
  have h2 : (w.setCell ⟨q, 21, none⟩ (.bool true)).heap[q]? = some (.cells (imX p nm nilS hv s true (dp kn) rd ask) 142 (0, 0)) := heap_setCell_at' w q 21 (.bool true) _ _ _ H1.out.1
  have hz : (w.setCell ⟨q, 21, none⟩ (.bool true)).heap.size = w.heap.size := by simp
  have hl : BL [(w.heap.size, #[.int .i64 2, .int .i64 4, .int .i64 1, .int .i64 0, .int .u32 sm], 187), (q, imX p nm nilS hv s true (dp kn) rd ask, 142)] ((w.setCell ⟨q, 21, none⟩ (.bool true)).alloc (.cells #[.int .i64 2, .int .i64 4, .int .i64 1, .int .i64 0, .int .u32 sm] 187)) := by
    have := BL.new (BL.cons h2 (BL.nil _)) #[.int .i64 2, .int .i64 4, .int .i64 1, .int .i64 0, .int .u32 sm] 187
    rw [hz] at this; exact this
  have hK : Kept w ((w.setCell ⟨q, 21, none⟩ (.bool true)).alloc (.cells #[.int .i64 2, .int .i64 4, .int .i64 1, .int .i64 0, .int .u32 sm] 187)) (· ≠ q) := (Kept.set w q 21 _ fun h => h rfl).trans (Kept.of_below (bel1 _ _) fun _ h _ => h)
  have hB : Below base w ((w.setCell ⟨q, 21, none⟩ (.bool true)).alloc (.cells #[.int .i64 2, .int .i64 4, .int .i64 1, .int .i64 0, .int .u32 sm] 187)) := ((Below.refl _ _).setCell (p := ⟨q, 21, none⟩) hbq _).alloc (by simp; omega) _
  have hS2 := hid (And.intro hl (And.intro hK hB))
  clear y1 f1 h2 hK hB
  generalize (w.setCell ⟨q, 21, none⟩ (.bool true)).alloc (.cells #[.int .i64 2, .int .i64 4, .int .i64 1, .int .i64 0, .int .u32 sm] 187) = w2 at *
  have y7 := fun j => cell_of hl.head j
  have y5 : w2.cell? ⟨q, 5, none⟩ = some nilS := cell_of hl.tail.head 5
  have HZ2 := hid (blk_lt hl.head)
  clear hl hz
  go_region_law (go_simp; go_wp2_with (go_at_call 99; refine (set_A sm _).mono ?_; rintro e w9 ⟨tv, rfl, ht, hb9⟩; have hl9 := hS2.out.1.below ((Below.refl _ _).drew.trans hb9); have g5 : w9.cell? ⟨q, 5, none⟩ = some nilS := cell_of hl9.tail.head 5; have z5 := fz_of hl9.tail.head 5; obtain ⟨ta, tn, tc, rfl⟩ := (ht w9 (Kept.of_below (Below.refl _ _) fun _ h _ => h)).shape))
  all_goals
    have hz9 : w2.heap.size ≤ w9.heap.size := hb9.size
    have hq9 : (w9.setCell ⟨q, 5, none⟩ (.slice ta tn tc)).heap[q]? = some (.cells (imX p nm (.slice ta tn tc) hv s true (dp kn) rd ask) 142 (0, 0)) := heap_setCell_at' w9 q 5 _ _ _ _ hl9.tail.head
    have HE := hid (And.intro hq9 (And.intro ((hS2.out.2.1.trans (Kept.of_below ((Below.refl _ _).drew.trans hb9) fun _ h _ => h)).trans (Kept.set w9 q 5 (.slice ta tn tc) fun h => h rfl)) ((hS2.out.2.2.trans (((Below.refl _ _).drew.trans hb9).mono (show base ≤ w2.heap.size from by have h1 := hS2.out.2.2.size; have h2 := H1.out.2.1; have h3 := H1.out.2.2; omega))).setCell (p := ⟨q, 5, none⟩) H1.out.2.2 (.slice ta tn tc))))
    have HT := hid ht
    clear hz9 hq9 hl9 g5 z5 hb9 ht y7 y5
    go_wp2_with fail
    refine bodyPost_ret (results_none rfl _ _ _) rfl ?_
    refine ⟨_, rfl, HE.out.1, fun W hK => HT.out W ((Kept.set (N := fun k => w2.heap.size ≤ k) w9 q 5 (.slice ta tn tc) fun h => by have h1 := hS2.out.2.2.size; have h2 := H1.out.2.1; have h3 : w2.heap.size ≤ q := h; have h4 := hS2.out.2.1.size; omega).trans (hK.imp fun k hk h => ?_)), HE.out.2.1, HE.out.2.2⟩
    have h4 := HZ2.out
    have h5 : w2.heap.size ≤ k := h
    show w.heap.size < k
    omega
/-- an image behind the write of one sector -/
structure IP (base p m room L i q s kn : Nat) (fl : FL) (nm : List UInt8) (hv rd : Value) (ask : Int) (w w' : World) : Prop where
  im : ∃ tv, w'.heap[q]? = some (.cells (imX p nm tv hv s true (dp kn) rd ask) 142 (0, 0)) ∧ ∀ W, Kept w' W (fun k => w.heap.size < k) → IsTab W W.heap.size tv (tA smA)
  hc : HC w' base p m room (fl.set i (nm, 5)) (L + 1) i nm 5 4 bsA
  ka : KA base m q kn w w'
theorem IP.of {base p m room L i q s kn : Nat} {fl : FL} {nm : List UInt8} {hv rd : Value} {ask : Int} {a b c : World} (h : Below a.heap.size a b) (hb : base ≤ a.heap.size) (k : IP base p m room L i q s kn fl nm hv rd ask b c) : IP base p m room L i q s kn fl nm hv rd ask a c := by
  obtain ⟨tv, h1, h2⟩ := k.im
  exact ⟨⟨tv, h1, fun W hK => h2 W (hK.imp fun k _ hk => Nat.lt_of_le_of_lt h.size hk)⟩, k.hc, (KA.of_below h hb).trans k.ka⟩
theorem IP.below {base p m room L i q s kn : Nat} {fl : FL} {nm : List UInt8} {hv rd : Value} {ask : Int} {a b c : World} (k : IP base p m room L i q s kn fl nm hv rd ask a b) (h : Below b.heap.size b c) : IP base p m room L i q s kn fl nm hv rd ask a c := by
  obtain ⟨tv, h1, h2⟩ := k.im
  exact ⟨⟨tv, qk_below h1 h, fun W hK => h2 W ((Kept.of_below h fun _ h _ => h).trans hK)⟩, k.hc.below h, k.ka.trans (KA.of_below h k.hc.hg.base_le)⟩
set_option maxRecDepth 100000 in
set_option maxHeartbeats 2000000 in
theorem fill_A {w : World} {base p m room L i q s kn : Nat} {fl : FL} {nm : List UInt8} {hv rd : Value} {ch : Bool} {ask : Int} (h : IW w base p m room L i q s kn fl nm nilS hv rd ch ask) (hnl : nm.length ≤ 16)
    (hur : (fl.map (·.2)).sum + 1 ≤ room) (hroom : room ≤ 1048576) (hL : L + 1 ≤ 1000000) (hask : 0 ≤ ask ∧ ask ≤ 1000) (hbs : base ≤ q ∧ base ≤ kn) (bv : Value) {b0 : Nat} (hb : OwnB w b0 5 bv bsA) (hb0 : q < b0 ∧ base ≤ b0) :
    Calls Tryz.prog 168 #[dp q, nmv [], .int .i64 2, bv] w fun e w' => e = .returned (.int .i64 0) ∧ IP base p m room L i q s kn fl nm hv rd (ask + 1) w w' := by
  have HI := hid h
  have HO := hid (And.intro hb hb0)
  have H1 := hid (up_any h.hd h.hi hnl q h.im rfl rfl)
  have H2 : Hid (∀ W, Below w.heap.size w W → Calls Tryz.prog 150 #[dp q, .string ⟨#[]⟩] W fun e w' => e = .returned (.tuple #[.agg #[nilS], .int .i64 4, .bool true]) ∧ Below W.heap.size W w') := hid fun W hW => tableOf_own (h.below hW).im rfl rfl rfl
  have hln := fun ty w' => SlB.len (P := Tryz.prog) (ty := ty) hb.slB Tryz.underlying26 w'
  rw [show bsA.length = 16 from rfl] at hln
  obtain ⟨oa, nn, c, rfl⟩ := slB_shape hb.slB
  clear h hb hb0
  go_enter Tryz.func168, Tryz.ntmps168
  go_wp2_with fail
  refine H1.out.mono ?_
  rintro e w1 ⟨rfl, hb1⟩
  have HB1 := hid hb1
  clear hb1
  go_wp2_with fail
  refine (H2.out _ HB1.out).mono ?_
  rintro e w2 ⟨rfl, hb2⟩
  have hb3 := (belT HB1.out hb2).alloc (belT HB1.out hb2).size (.cells #[nilS] 90)
  have HB3 := hid hb3
  have y := fun j => cell_of (HI.out.below hb3).im j
  simp only [imX] at y
  clear hb2 hb3
  go_wp2_with fail
  generalize w2.alloc (.cells #[nilS] 90) = w3 at *
  refine (entry_A (HI.out.below HB3.out) hnl hur hroom hL hask hbs _ (HO.out.1.below HB3.out HO.out.1.lt) HO.out.2).mono ?_
  rintro e w4 ⟨rfl, hV⟩
  have h4q := qk_alloc hV.im (.cells #[.int .i64 2, .int .i64 4, .int .i64 1, .int .i64 0, .int .u32 smA] 187)
  have HV := hid hV
  clear hV y
  go_wp2_with fail
  refine (iset h4q hbs.1 smA).mono ?_
  rintro e w5 ⟨tv, rfl, hq5, ht5, hk5, hb5⟩
  have HE : Hid (IP base p m room L i q s kn fl nm hv rd (ask + 1) w w5) := hid (IP.of HB3.out HI.out.hd.base_le ⟨⟨tv, hq5, fun W hK => ht5 W (hK.imp fun k _ hk => ?_)⟩, ?_, ?_⟩)
  · clear h4q hq5 ht5 hk5 hb5
    go_wp2_with fail
    go_ret
    exact ⟨rfl, HE.out⟩
  · have h1 := HV.out.ka.kp.size
    have h2 : (w4.alloc (.cells #[.int .i64 2, .int .i64 4, .int .i64 1, .int .i64 0, .int .u32 smA] 187)).heap.size < k := hk
    simp at h2
    show w3.heap.size < k
    omega
  · exact (HV.out.hc.below (bel1 _ _)).kept hk5 fun k hF e => hF (by subst e; exact ⟨not_map (HV.out.hc.below (bel1 w4 (.cells #[.int .i64 2, .int .i64 4, .int .i64 1, .int .i64 0, .int .u32 smA] 187))).hg.facts.2.1 h4q, fun c t fr e => by rw [h4q] at e; cases e; decide⟩)
  · exact (HV.out.ka.trans (KA.of_below (bel1 _ _) HV.out.hc.hg.base_le)).trans ⟨hb5, hk5.imp fun k _ h => h.2.1⟩
theorem put_A {w : World} {base p m room L i q s kn : Nat} {fl : FL} {nm : List UInt8} {hv rd : Value} {ch : Bool} {ask : Int} (h : IW w base p m room L i q s kn fl nm nilS hv rd ch ask) (hnl : nm.length ≤ 16)
    (hur : (fl.map (·.2)).sum + 1 ≤ room) (hroom : room ≤ 1048576) (hL : L + 1 ≤ 1000000) (hask : 0 ≤ ask ∧ ask ≤ 1000) (hbs : base ≤ q ∧ base ≤ kn) (bv : Value) {b0 : Nat} (hb : OwnB w b0 5 bv bsA) (hb0 : q < b0 ∧ base ≤ b0) :
    Calls Tryz.prog 92 #[dp q, .int .i64 2, bv] w fun e w' => e = .returned (.int .i64 0) ∧ IP base p m room L i q s kn fl nm hv rd (ask + 1) w w' := by
  have HF := hid (fill_A h hnl hur hroom hL hask hbs bv hb hb0)
  obtain ⟨oa, nn, c, rfl⟩ := slB_shape hb.slB
  clear h hb hb0
  go_enter Tryz.func92, Tryz.ntmps92
  go_wp2_with fail
  refine HF.out.mono ?_
  rintro e w1 ⟨rfl, hP⟩
  have HP := hid hP
  have HT := hid (itouch (hP.im.choose_spec.1))
  clear hP
  go_wp2_with fail
  refine HT.out.mono ?_
  rintro e w2 ⟨rfl, hb2⟩
  have HE := hid (HP.out.below hb2)
  clear hb2
  go_wp2_with fail
  go_ret
  exact ⟨rfl, HE.out⟩
end Go.Proofs.YtmcllcepoiakeaaGreat
