import Derived.Test.YtmcllcepoiakeaaGreatOW
import Derived.Test.YtmcllcepoiakeaaGreatWT
import Derived.Test.YtmcllcepoiakeaaGreatOT
set_option linter.unusedSimpArgs false
set_option linter.unusedVariables false
namespace Go.Proofs.YtmcllcepoiakeaaGreat
open Go.RowKit Go.Mx Go.Proofs.YtmcllcepoiakeaaGreat.Dx Go.Dk Go.Cnt Go.Proofs.YtmcllcepoiakeaaGreat.Cx
set_option maxRecDepth 100000 in
set_option maxHeartbeats 2000000 in
theorem readc_A {w : World} {base p m aa am room L B : Nat} {g : IG} {tv hv : Value} (h : AW w base p m aa am room L B g tv hv) (hnl : g.nm.length ≤ 16) {lb lc : Nat} {cur : Array Value} (hcur : cur[0]? = some (dp g.q)) (hlc : 1 ≤ lc ∧ lc ≤ maxLen) (hl : w.heap[lb]? = some (.cells cur 60 (0, 0))) : Calls Tryz.prog 37 #[.slice (some ⟨lb, 0, none⟩) 1 lc, .string ⟨#[]⟩, .int .i64 2, .int .i64 1] w fun e w' => ∃ v b0, e = .returned (.tuple #[v, .int .i64 0]) ∧ OwnB w' b0 5 v bsA ∧ w.heap.size ≤ b0 ∧ RF base g.rd g.ml w w' := by
  have HA := hid (And.intro h hnl)
  have hsh := (h.tab w (Kept.of_below (Below.refl _ _) fun _ h _ => h)).shape
  obtain ⟨ta, tn, tc, rfl⟩ := hsh
  have HL := hid hl
  have hc0 := (cell_of hl 0).trans hcur
  have HC := hid hcur
  clear h hnl hl hcur
  go_enter Tryz.func37, Tryz.ntmps37
  go_wp2_with fail
  refine (shape_any HA.out.1.im rfl rfl rfl).mono ?_
  rintro e w1 ⟨rfl, hb1⟩
  have H1 := hid hb1
  clear hb1 hc0
  go_wp2_with fail
  refine (split_21 w1).mono ?_
  rintro e w2 ⟨v, rfl, ho, hb2⟩
  obtain ⟨pb, po, hpb, hpi, hpc⟩ := ho.slG.addr (P := Tryz.prog) Tryz.underlying154 size158 0 (by simp)
  have hln := fun w' => ho.slG.len (P := Tryz.prog) (ty := 3) Tryz.underlying154 w'
  have hpi : ∀ w', (Instr.indexAt 154 v (.int .i64 0)).run Tryz.prog w' = .ok (.pointer (some ⟨pb, po, none⟩)) w' := fun w' => hpi w' .i64
  have p0 : w2.cell? ⟨pb, po, none⟩ = some (.int .i64 2) := hpc 0 _ rfl
  have p1 : w2.cell? ⟨pb, po + 1, none⟩ = some (.int .i64 0) := hpc 1 _ rfl
  have p2 : w2.cell? ⟨pb, po + 2, none⟩ = some (.int .i64 1) := hpc 2 _ rfl
  obtain ⟨va, vn, vc, rfl⟩ := slG_sh ho.slG
  have H2 := hid (H1.out.trans (hb2.mono H1.out.size))
  clear ho hb2 hpc hpb
  go_wp2_with fail
  refine wp_loop_rounds 2 ?_
  rw [rounds_succ]
  go_wp2_with fail
  have hb3 := H2.out.alloc H2.out.size (.cells #[.int .i64 2, .int .i64 0, .int .i64 1] 158)
  have e3 := alloc_new w2 (.cells #[.int .i64 2, .int .i64 0, .int .i64 1] 158)
  have H3 := hid (And.intro hb3 e3)
  clear hb3 p0 p1 p2
  generalize w2.alloc (.cells #[.int .i64 2, .int .i64 0, .int .i64 1] 158) = w3 at *
  have x3 : ∀ W, Below w3.heap.size w3 W → ∀ j, W.cell? ⟨w2.heap.size, j, none⟩ = (#[.int .i64 2, .int .i64 0, .int .i64 1] : Array Value)[j]? := fun W hW j => cell_of (qk_below H3.out.2 hW) j
  have xl : ∀ W, Below w3.heap.size w3 W → W.cell? ⟨lb, 0, none⟩ = some (dp g.q) := fun W hW => (cell_of (qk_below HL.out (H3.out.1.trans (hW.mono H3.out.1.size))) 0).trans HC.out
  have HOW : Hid (∀ W, Below w3.heap.size w3 W → Calls Tryz.prog 72 #[dp g.q, .string ⟨#[]⟩, .int .i64 2] W fun e w' => ∃ v b0, e = .returned (.tuple #[v, .int .i64 2, .int .i64 0]) ∧ OwnB w' b0 5 v bsA ∧ W.heap.size ≤ b0 ∧ RF base g.rd g.ml W w') := hid fun W hW => ownc_A ((HA.out.1.below H3.out.1).below hW) HA.out.2
  have xl0 := xl w3 (Below.refl _ _)
  have x30 := x3 w3 (Below.refl _ _)
  clear x3 xl
  have hbase : base ≤ w.heap.size := Nat.le_trans HA.out.1.ck.hp (Nat.le_of_lt (blk_lt HA.out.1.ck.ck))
  have HBs := hid hbase
  clear hbase
  generalize hnv : Value.slice none 0 0 = nv
  have hown0 : ∀ W : World, OwnG W W.heap.size 5 1 nv [] := fun W => by rw [← hnv]; exact OwnG.nil _ _ _ _
  have HNV := hid hnv
  clear hnv
  go_region_law (first
    | (go_simp; go_wp2_with (go_at_call 72; refine (HOW.out _ (by exact (Below.refl _ _).drew)).mono ?_; rintro e w6 ⟨v, b0, rfl, ho6, hb06, hrf6⟩)))
  all_goals (
    obtain ⟨s', hs', hsl⟩ := ho6.slB.part (P := Tryz.prog) Tryz.underlying26 (fun w => by kernel_rfl) 0 16 (by decide) (by decide)
    have hsl : ∀ w', (Instr.slice 26 v (some (.int .i64 0)) (some (.int .i64 16)) none).run Tryz.prog w' = .ok s' w' := fun w' => hsl w' .i64 .i64
    have hs' : SlB w6 w6.heap.size s' bsA := hs'
    obtain ⟨va, vn, vc, rfl⟩ := slB_shape ho6.slB
    obtain ⟨qa, qn, qc, rfl⟩ := slB_shape hs'
    have hrf6 : RF base g.rd g.ml w3 w6 := RF.trans ⟨(Below.refl base w3).drew, .of_below (Below.refl w3.heap.size w3).drew fun _ h _ => h⟩ hrf6
    have hrf : RF base g.rd g.ml w w6 := (RF.of_below H3.out.1 HBs.out).trans hrf6
    have x6 : ∀ j, w6.cell? ⟨w2.heap.size, j, none⟩ = (#[.int .i64 2, .int .i64 0, .int .i64 1] : Array Value)[j]? := fun j => cell_of (hrf6.cells H3.out.2 (HA.out.1.below H3.out.1).ck.ck (HA.out.1.below H3.out.1).ck.mp.isMap (by decide)) j
    have H6 := hid (And.intro hrf (And.intro hs' (Nat.le_trans H3.out.1.size hb06)))
    clear hs' ho6 hb06 hrf6 hrf
    have hsg := slB_G H6.out.2.1
    have hrl : ∀ r ∈ bsA.map fun x => [Mx.u8 x], r.length = 1 := fun r hr => by obtain ⟨x, _, rfl⟩ := List.mem_map.1 hr; rfl
    have hone : ∀ r ∈ bsA.map fun x => [Mx.u8 x], ∀ u ∈ r, u.oneCell' = true := fun r hr u hu => by obtain ⟨x, _, rfl⟩ := List.mem_map.1 hr; simp at hu; subst hu; rfl
    go_wp2_with (at_builtin; refine append_sg _ rfl _ _ 26 5 _ 1 1 rfl Tryz.underlying26 Tryz.info5 rfl (by decide) w6.heap.size _ [] rfl (hown0 w6) w6.heap.size _ (bsA.map fun x => [Mx.u8 x]) rfl hsg hrl hone ?_ ?_ ?_ ?_)
    · decide
    · decide
    · exact Nat.le_refl _
    intro v' w7 ho7 hg7 hb7
    have ho7 : OwnB w7 w6.heap.size 5 v' bsA := ownG_B ho7
    have H7 := hid (And.intro ho7 (And.intro (Nat.le_trans H6.out.1.bel.size (Nat.le_refl _)) (H6.out.1.trans (RF.of_below hb7 (Nat.le_trans HBs.out H6.out.1.bel.size)))))
    clear ho7 hg7 hb7 hsg
    obtain ⟨ya, yn, yc, rfl⟩ := slB_shape H7.out.1.slB
    go_wp2_with fail
    rw [rounds_succ]
    go_wp2_with fail
    go_ret2
    exact ⟨_, w6.heap.size, rfl, H7.out.1, H7.out.2.1, H7.out.2.2⟩)
section
variable {w w' : World} {base p m aa am room L B : Nat} {g : IG} {tv hv : Value}
theorem AW.look (h : AW w base p m aa am room L B g tv hv) (s : List UInt8) (hs : s.length ≤ maxLen) : ∀ W, Below w.heap.size w W → (Instr.lookup 46 (.map (some am)) (nmv s) false).run Tryz.prog W = .ok (.pointer ((Mp.look (gpl [g]) s).map fun b => ⟨b, 0, none⟩)) W := fun W hW => by
  rw [← pv_beq]
  exact (h.below hW).mp.look Tryz.underlying9 Tryz.underlying46 zero60 s hs
theorem AW.chain (h : AW w base p m aa am room L B g tv hv) (hnm : g.nm = [97]) : ∀ W, Below w.heap.size w W → Calls Tryz.prog 38 #[dp aa, nmv [97]] W fun e w' => ∃ lb lc cur, e = .returned (.slice (some ⟨lb, 0, none⟩) 1 lc) ∧ w'.heap[lb]? = some (.cells cur 60 (0, 0)) ∧ cur[0]? = some (dp g.q) ∧ (1 ≤ lc ∧ lc ≤ maxLen) ∧ W.heap.size ≤ lb ∧ Below W.heap.size W w' := fun W hW => by
  have hlq : Mp.look (gpl [g]) [97] = some g.q := by simp [gpl, Mp.look_cons, hnm]
  have hl0 : Mp.look (gpl [g]) [] = none := by simp [gpl, Mp.look_cons, hnm, Mp.look_nil]
  have hlk := h.look [97] (by decide)
  have hlk0 := h.look [] (by decide)
  rw [hlq] at hlk
  rw [hl0] at hlk0
  obtain ⟨dn, hdn, har⟩ := h.ar
  exact chain_any (qk_below har hW) rfl (fun W' h' => hlk W' (belT hW h')) (fun W' h' => hlk0 W' (belT hW h')) (fun W' h' => (meta_T (h.below (belT hW h')) (by rw [hnm]; decide)).mono fun e w' ⟨xa, xn, xc, ca, cn, cc, he, hb⟩ => ⟨_, _, _, _, _, _, he, hb⟩)
end
theorem RF.set {base rd ml : Nat} {w w' : World} (h : RF base rd ml w w') (hb : base ≤ w.heap.size) {k : Nat} (hk : w.heap.size ≤ k) (i : Nat) (v : Value) : RF base rd ml w (w'.setCell ⟨k, i, none⟩ v) :=
  ⟨h.bel.setCell (p := ⟨k, i, none⟩) (Nat.le_trans hb hk) v, ⟨Nat.le_trans h.kp.size (by simp), fun j hj hn => ((Kept.set w' k i v fun hn => hn rfl : Kept w' (w'.setCell ⟨k, i, none⟩ v) (· ≠ k)).block j (Nat.lt_of_lt_of_le hj h.kp.size) (by omega)).trans (h.kp.block j hj hn)⟩⟩
theorem RF.stL {base rd ml : Nat} {w : World} (hb : base ≤ w.heap.size) {k : Nat} (hk : w.heap.size ≤ k) : ∀ (l : List Value) (i : Nat) (w' : World), RF base rd ml w w' → RF base rd ml w (Mx.stL w' k i l)
  | [], _, _, h => h
  | v :: l, i, w', h => RF.stL hb hk l (i + 1) _ (h.set hb hk i v)
set_option maxRecDepth 100000 in
set_option maxHeartbeats 4000000 in
theorem asks_A {w : World} {base p m aa am room L B : Nat} {g : IG} {tv hv : Value} (h : AW w base p m aa am room L B g tv hv) (hnm : g.nm = [97]) : Calls Tryz.prog 19 #[dp aa, .agg (cmdC 3 [97] [] 2 1 0 nilS)] w fun e w' => ∃ v b0, e = .returned (.agg #[.int .i64 0, v, nilS, nilS, .int .i64 0, .int .i64 0]) ∧ OwnB w' b0 5 v bsA ∧ w.heap.size ≤ b0 ∧ RF base g.rd g.ml w w' := by
  have hnl : g.nm.length ≤ 16 := by rw [hnm]; decide
  have hlq : Mp.look (gpl [g]) [97] = some g.q := by simp [gpl, Mp.look_cons, hnm]
  have hlk := h.look [97] (by decide)
  rw [hlq] at hlk
  simp only [Option.map_some] at hlk
  obtain ⟨dn, hdn, har⟩ := h.ar
  have HA := hid (And.intro h (And.intro hnm (And.intro hnl har)))
  have hb0 := bel2 w (.cells (cmdC 3 [97] [] 2 1 0 nilS) 28) (.cells #[.int .i64 0, nilS, nilS, nilS, .int .i64 0, .int .i64 0] 33)
  have hl0 := ((BL.nil w).new (cmdC 3 [97] [] 2 1 0 nilS) 28).new #[.int .i64 0, nilS, nilS, nilS, .int .i64 0, .int .i64 0] 33
  simp only [World.size_alloc, cmdC] at hl0 hb0
  clear h hnm hnl hdn hlq har
  go_enter Tryz.func19, Tryz.ntmps19
  simp only [cmdC]
  go_wp2_with fail
  generalize (w.alloc (.cells #[.int .i64 3, nmv [97], nmv [], .int .i64 2, .int .i64 1, .int .i64 0, nilS] 28)).alloc (.cells #[.int .i64 0, nilS, nilS, nilS, .int .i64 0, .int .i64 0] 33) = w1 at *
  have yk : ∀ W, Below w1.heap.size w1 W → _ := fun W hW => hlk W (hb0.trans (hW.mono hb0.size))
  have ya : ∀ W, Below w1.heap.size w1 W → ∀ j, W.cell? ⟨aa, j, none⟩ = _ := fun W hW j => cell_of (qk_below HA.out.2.2.2 (hb0.trans (hW.mono hb0.size))) j
  have yb : ∀ W, Below w1.heap.size w1 W → ∀ j, W.cell? ⟨w.heap.size, j, none⟩ = _ := fun W hW j => cell_of (hl0.below hW).tail.head j
  have H1 := hid (And.intro hb0 hl0)
  clear hlk hb0 hl0
  go_region_held3 (fun w' => Below w1.heap.size w1 w') (first | with_reducible exact (Below.refl _ _).drew | with_reducible assumption | with_reducible exact Below.drew (by assumption)) (fail)
  have H2 := hid (And.intro (H1.out.1.trans ((Below.refl _ _).drew)) H1.out.2.drew)
  clear yk ya yb
  generalize w1.drew = w2 at *
  go_wp2_with fail
  refine (meta_T (HA.out.1.below H2.out.1) HA.out.2.2.1).mono ?_
  rintro e w3 ⟨xa, xn, xc, ca, cn, cc, rfl, hb3⟩
  have hB3 := H2.out.1.trans (hb3.mono H2.out.1.size)
  have hl3 := ((H2.out.2.below hb3).new #[.int .i64 0, .int .i64 4, nmv [], .slice xa xn xc, nilS, nilS, .slice ca cn cc] 95).new #[.int .i64 0, nilS, nilS, nilS, .int .i64 0, .int .i64 0] 33
  have hB5 := (hB3.alloc hB3.size (.cells #[.int .i64 0, .int .i64 4, nmv [], .slice xa xn xc, nilS, nilS, .slice ca cn cc] 95)).alloc (by have := hB3.size; simp; omega) (.cells #[.int .i64 0, nilS, nilS, nilS, .int .i64 0, .int .i64 0] 33)
  have hz3 := hB3.size
  have hlt3 := blk_lt (H2.out.2.below hb3).head
  have hbase : base ≤ w.heap.size := Nat.le_trans HA.out.1.ck.hp (Nat.le_of_lt (blk_lt HA.out.1.ck.ck))
  simp only [World.size_alloc] at hl3
  clear hb3 hB3
  have k28 : ∀ j, ((w3.alloc (.cells #[.int .i64 0, .int .i64 4, nmv [], .slice xa xn xc, nilS, nilS, .slice ca cn cc] 95)).alloc (.cells #[.int .i64 0, nilS, nilS, nilS, .int .i64 0, .int .i64 0] 33)).cell? ⟨w.heap.size, j, none⟩ = _ := fun j => cell_of hl3.tail.tail.tail.head j
  go_wp2_with fail
  generalize (w3.alloc (.cells #[.int .i64 0, .int .i64 4, nmv [], .slice xa xn xc, nilS, nilS, .slice ca cn cc] 95)).alloc (.cells #[.int .i64 0, nilS, nilS, nilS, .int .i64 0, .int .i64 0] 33) = w5 at *
  have HX : Hid (True ∧ Below w.heap.size w w5 ∧ BL [(w3.heap.size + 1, #[.int .i64 0, nilS, nilS, nilS, .int .i64 0, .int .i64 0], 33), (w3.heap.size, #[.int .i64 0, .int .i64 4, nmv [], .slice xa xn xc, nilS, nilS, .slice ca cn cc], 95), (w.heap.size + 1, #[.int .i64 0, nilS, nilS, nilS, .int .i64 0, .int .i64 0], 33), (w.heap.size, #[.int .i64 3, nmv [97], nmv [], .int .i64 2, .int .i64 1, .int .i64 0, nilS], 28)] w5) := hid ⟨trivial, hB5, hl3⟩
  have hA5 := HA.out.1.below HX.out.2.1
  have HCH := hid (hA5.chain HA.out.2.1)
  have HRD : Hid (∀ W, Below w5.heap.size w5 W → ∀ (lb lc : Nat) (cur : Array Value), W.heap[lb]? = some (.cells cur 60 (0, 0)) → cur[0]? = some (dp g.q) → (1 ≤ lc ∧ lc ≤ maxLen) → Calls Tryz.prog 37 #[.slice (some ⟨lb, 0, none⟩) 1 lc, .string ⟨#[]⟩, .int .i64 2, .int .i64 1] W fun e w' => ∃ v b0, e = .returned (.tuple #[v, .int .i64 0]) ∧ OwnB w' b0 5 v bsA ∧ W.heap.size ≤ b0 ∧ RF base g.rd g.ml W w') := hid fun W hW lb lc cur h1 h2 h3 => readc_A (hA5.below hW) HA.out.2.2.1 h2 h3 h1
  have yb : ∀ W, Below w5.heap.size w5 W → ∀ j, W.cell? ⟨w.heap.size, j, none⟩ = _ := fun W hW j => cell_of (hl3.below hW).tail.tail.tail.head j
  have yb5 := yb w5 (Below.refl _ _)
  have HE7 : Hid (∀ W, Below w5.heap.size w5 W → ∀ W', RF base g.rd g.ml W W' → W'.heap[w3.heap.size + 1]? = some (.cells #[.int .i64 0, nilS, nilS, nilS, .int .i64 0, .int .i64 0] 33 (0, 0)) ∧ W'.heap[w.heap.size + 1]? = some (.cells #[.int .i64 0, nilS, nilS, nilS, .int .i64 0, .int .i64 0] 33 (0, 0))) := hid fun W hW W' hr => ⟨hr.cells (HX.out.2.2.below hW).head (hA5.ck.below hW).ck (hA5.ck.below hW).mp.isMap (by decide), hr.cells (HX.out.2.2.below hW).tail.tail.head (hA5.ck.below hW).ck (hA5.ck.below hW).mp.isMap (by decide)⟩
  clear hB5 hl3 k28 hA5
  go_region_law (go_simp; go_wp2_with (first
    | (go_at_call 38; refine (HCH.out _ (by exact (Below.refl _ _).drew)).mono ?_; rintro e w6 ⟨lb, lc, cur, rfl, hlb, hcur, hlc, hge, hb6⟩; have hb56 := (Below.refl w5.heap.size w5).drew.trans hb6; have yb6 := yb w6 hb56)
    | (go_at_call 37; refine (HRD.out _ (by exact hb56) lb lc cur hlb hcur hlc).mono ?_; rintro e w7 ⟨v, b0, rfl, ho7, hb07, hrf7⟩; have e77 := HE7.out _ hb56 _ hrf7; have f77 := fun j => fz_of e77.1 j; have k77 := fun j => cell_of e77.1 j; obtain ⟨va, vn, vc, rfl⟩ := slB_shape ho7.slB)))
  all_goals (
    have q1 := heap_setCell_at' w7 (w3.heap.size + 1) 1 (.slice va vn vc) _ _ _ e77.1
    have q2 := heap_setCell_at' _ (w3.heap.size + 1) 0 (.int .i64 0) _ _ _ q1
    have r2 := qk_set (i := 0) (v := .int .i64 0) (qk_set (i := 1) (v := .slice va vn vc) e77.2 (show w.heap.size + 1 ≠ w3.heap.size + 1 by omega)) (show w.heap.size + 1 ≠ w3.heap.size + 1 by omega)
    have hz6 := hb56.size
    have hz5 := blk_lt HX.out.2.2.head
    have o2 := (ho7.kept (Kept.set w7 (w3.heap.size + 1) 1 (.slice va vn vc) fun hn => hn rfl : Kept w7 _ (· ≠ w3.heap.size + 1)) fun k hk => by have h1 := (World.ownsRow.lt ho7 k hk).1; omega).kept (Kept.set _ (w3.heap.size + 1) 0 (.int .i64 0) fun hn => hn rfl : Kept _ _ (· ≠ w3.heap.size + 1)) fun k hk => by have h1 := (World.ownsRow.lt ho7 k hk).1; omega
    have rf2 := ((((RF.of_below HX.out.2.1 hbase).trans (RF.of_below hb56 (Nat.le_trans hbase HX.out.2.1.size))).trans hrf7).set hbase (show w.heap.size ≤ w3.heap.size + 1 by omega) 1 (.slice va vn vc)).set hbase (show w.heap.size ≤ w3.heap.size + 1 by omega) 0 (.int .i64 0)
    have HF := hid (And.intro o2 (And.intro (show w.heap.size + 2 ≤ b0 by omega) (And.intro rf2 r2)))
    generalize (w7.setCell ⟨w3.heap.size + 1, 1, none⟩ (.slice va vn vc)).setCell ⟨w3.heap.size + 1, 0, none⟩ (.int .i64 0) = w8 at *
    have x8 := fun j => cell_of q2 j
    have y8 := fun j => cell_of r2 j
    have z8 := fun j => fz_of r2 j
    clear q1 q2 r2 o2 rf2 e77 f77 k77 ho7 hrf7 hb07 hb56 hlb hcur hlc hge hz6 hz5 yb5 yb6 yb
    go_wp2_with fail
    have q9 := stL_heap [.int .i64 0, .slice va vn vc, nilS, nilS, .int .i64 0, .int .i64 0] w8 0 _ HF.out.2.2.2
    have o9 := HF.out.1.kept (stL_kept (w.heap.size + 1) [.int .i64 0, .slice va vn vc, nilS, nilS, .int .i64 0, .int .i64 0] 0 w8) fun k hk => by
      have h1 := (World.ownsRow.lt HF.out.1 k hk).1
      have h2 := HF.out.2.1
      omega
    have r9 := RF.stL hbase (show w.heap.size ≤ w.heap.size + 1 by omega) [.int .i64 0, .slice va vn vc, nilS, nilS, .int .i64 0, .int .i64 0] 0 w8 HF.out.2.2.1
    change bodyPost Tryz.prog Tryz.f19 _ _ _ (Mx.stL w8 (w.heap.size + 1) 0 [.int .i64 0, .slice va vn vc, nilS, nilS, .int .i64 0, .int .i64 0])
    generalize Mx.stL w8 (w.heap.size + 1) 0 [.int .i64 0, .slice va vn vc, nilS, nilS, .int .i64 0, .int .i64 0] = w9 at *
    have hk9 := fun j => cell_of q9 j
    exact bodyPost_ret (v := .agg #[.int .i64 0, .slice va vn vc, nilS, nilS, .int .i64 0, .int .i64 0]) (by simp [results, Tryz.results19, go_sem, hk9, wrL]) rfl ⟨_, b0, rfl, o9, by have := HF.out.2.1; omega, r9⟩)
set_option maxRecDepth 100000 in
set_option maxHeartbeats 2000000 in
theorem do_wr {w : World} {base p m aa am room L : Nat} {g : IG} (h : AR w base p m aa am room L [g]) (hnm : g.nm = [97]) (hbk : g.bk = []) (hr : 5 ≤ room ∧ room ≤ 1048576) (hL : L ≤ 70000) {dv : Value} (hdv : DV w dv) :
    Calls Tryz.prog 5 #[dp aa, .agg (cmdC 4 [97] [] 2 0 0 dv)] w fun e w' => e = .returned (rep 0) ∧ Below base w w' ∧ ∃ B tv hv, AW w' base p m aa am room (L + 2) B g tv hv := by
  have hno : ([] : List UInt8) ∉ (gfl [g]).map (·.1) := by simp [gfl, hnm]
  obtain ⟨dn, hdn, ha⟩ := h.ar
  obtain ⟨db, fr, hde, hdb⟩ := hdv.h
  subst hde
  have b2 := bel2 w (.cells (cmdC 4 [97] [] 2 0 0 (.slice (some ⟨db, 0, none⟩) 16 16)) 28) (.cells #[.int .i64 0, nilS, nilS, nilS, .int .i64 0, .int .i64 0] 33)
  have e1 := new2_0 w (.cells (cmdC 4 [97] [] 2 0 0 (.slice (some ⟨db, 0, none⟩) 16 16)) 28) (.cells #[.int .i64 0, nilS, nilS, nilS, .int .i64 0, .int .i64 0] 33)
  have e2 := new2_1 w (.cells (cmdC 4 [97] [] 2 0 0 (.slice (some ⟨db, 0, none⟩) 16 16)) 28) (.cells #[.int .i64 0, nilS, nilS, nilS, .int .i64 0, .int .i64 0] 33)
  have H := hid (And.intro h (And.intro ha (And.intro hno hdv)))
  have HBS := hid h.hg.base_le
  have HDB := hid hdb
  clear h ha hno hdv hdb
  go_enter Tryz.func5, Tryz.ntmps5
  simp only [cmdC] at b2 e1 e2 ⊢
  go_upto_region 3 with (fail)
  have hz1 : w.heap.size + 2 ≤ ((w.alloc (.cells #[.int .i64 4, nmv [97], nmv [], .int .i64 2, .int .i64 0, .int .i64 0, .slice (some ⟨db, 0, none⟩) 16 16] 28)).alloc (.cells #[.int .i64 0, nilS, nilS, nilS, .int .i64 0, .int .i64 0] 33)).heap.size := by simp
  generalize (w.alloc (.cells #[.int .i64 4, nmv [97], nmv [], .int .i64 2, .int .i64 0, .int .i64 0, .slice (some ⟨db, 0, none⟩) 16 16] 28)).alloc (.cells #[.int .i64 0, nilS, nilS, nilS, .int .i64 0, .int .i64 0] 33) = w1 at *
  have ya := fun j => cell_of (qk_below H.out.2.1 b2) j
  have fa := fun j => fz_of (qk_below H.out.2.1 b2) j
  have H1 := hid (And.intro (H.out.1.below b2) (And.intro (qk_below H.out.2.1 b2) (And.intro b2 (And.intro e1 e2))))
  have HB1 := hid (b2.mono HBS.out)
  clear b2 e1 e2
  go_wp2_with fail
  refine (power_any H1.out.1.hg H.out.2.2.1).mono ?_
  rintro e w2 ⟨rfl, rfl⟩
  go_wp2_with fail
  refine (aadd aa 2 dn 1 w1 (ya 2) (fa 2) (by omega)).mono ?_
  rintro e w2 ⟨rfl, hw2⟩
  obtain ⟨a2, k2⟩ := H1.out.1.done hdn H1.out.2.1
  have hne : aa < w.heap.size := blk_lt H.out.2.1
  have e12 := qk_set (i := 2) (v := .int .i64 ((dn : Int) + 1)) H1.out.2.2.2.1 (show w.heap.size ≠ aa by omega)
  have e22 := qk_set (i := 2) (v := .int .i64 ((dn : Int) + 1)) H1.out.2.2.2.2 (show w.heap.size + 1 ≠ aa by omega)
  have d2 : DV (w1.setCell ⟨aa, 2, none⟩ (.int .i64 ((dn : Int) + 1))) (.slice (some ⟨db, 0, none⟩) 16 16) := ⟨db, fr, rfl, qk_set (qk_below HDB.out H1.out.2.2.1) (ne_tyC HDB.out H.out.2.1 (by decide))⟩
  rw [← hw2] at a2 k2 e12 e22 d2
  have hz2 := k2.bel.size
  have HB2 := hid (HB1.out.trans k2.bel)
  have H2 := hid (And.intro a2 (And.intro d2 (And.intro e12 e22)))
  have yk := a2.look [97] (by decide)
  have yc := a2.cell.2
  rw [show Mp.look (gpl [g]) [97] = some g.q by simp [gpl, Mp.look_cons, hnm]] at yk
  simp only [Option.map_some] at yk
  have yb : ∀ W, Below w2.heap.size w2 W → ∀ j, W.cell? ⟨w.heap.size, j, none⟩ = _ := fun W hW j => cell_of (qk_below e12 hW) j
  have yb2 := yb w2 (Below.refl _ _)
  clear a2 k2 e12 e22 d2 hw2 ya fa
  go_wp2_with fail
  go_region_held3 (fun w' => Below w2.heap.size w2 w') (first | with_reducible exact (Below.refl _ _).drew | with_reducible assumption | with_reducible exact Below.drew (by assumption)) (fail)
  have hb3 : Below w2.heap.size w2 w2.drew := (Below.refl _ _).drew
  have yb3 := yb _ hb3
  have H3 := hid (And.intro (H2.out.1.below hb3) (And.intro (H2.out.2.1.below hb3) (And.intro (qk_below H2.out.2.2.1 hb3) (qk_below H2.out.2.2.2 hb3))))
  have HB3 := hid (HB2.out.trans (Below.refl base w2).drew)
  have hz3 : w.heap.size + 2 ≤ w2.drew.heap.size := by have := hb3.size; omega
  clear yk yc yb yb2 hb3
  generalize w2.drew = w3 at *
  have HT := hid (turns_A H3.out.1 hnm hbk hr (by omega) H3.out.2.1)
  simp only [cmdC] at HT
  go_wp2_with fail
  refine HT.out.mono ?_
  rintro e w4 ⟨rfl, hv, hP⟩
  obtain ⟨tv, hAW⟩ := AW.of H3.out.1 hP
  have e24 := hP.ka.cells H3.out.2.2.2 ⟨not_map H3.out.1.hg.facts.2.1 H3.out.2.2.2, ne_tyC H3.out.2.2.2 (H3.out.1.im g (by simp)).im (by decide), ne_tyC H3.out.2.2.2 (H3.out.1.im g (by simp)).ki (by decide)⟩ (by decide)
  have H4 := hid (And.intro hAW e24)
  have HB4 := hid (HB3.out.trans hP.ka.bel)
  clear hP hAW e24
  go_wp2_with fail
  refine (reply_any 0 w4).mono ?_
  rintro e w5 ⟨rfl, hb5⟩
  have e5 := qk_below H4.out.2 hb5
  have H5 := hid (And.intro (H4.out.1.below hb5) e5)
  have HB5 := hid (HB4.out.trans (hb5.mono (Nat.le_trans HBS.out HB4.out.size)))
  have ye := fun j => cell_of e5 j
  have fe := fun j => fz_of e5 j
  simp only [rep]
  clear hb5 e5 yb3
  go_wp2_with fail
  have a6 := H5.out.1.other (b := w.heap.size + 1) (by omega) (stL_kept (w.heap.size + 1) [.int .i64 0, nilS, nilS, nilS, .int .i64 0, .int .i64 0] 0 w5) H5.out.2 (by decide)
  have q6 := stL_heap [.int .i64 0, nilS, nilS, nilS, .int .i64 0, .int .i64 0] w5 0 _ H5.out.2
  have l6 := stL_below (b := w.heap.size + 1) (Nat.le_succ_of_le HBS.out) [.int .i64 0, nilS, nilS, nilS, .int .i64 0, .int .i64 0] w5 w 0 HB5.out
  change bodyPost Tryz.prog Tryz.f5 _ _ _ (Mx.stL w5 (w.heap.size + 1) 0 [.int .i64 0, nilS, nilS, nilS, .int .i64 0, .int .i64 0])
  generalize Mx.stL w5 (w.heap.size + 1) 0 [.int .i64 0, nilS, nilS, nilS, .int .i64 0, .int .i64 0] = w6 at *
  have hk := fun j => cell_of q6 j
  exact bodyPost_ret (v := rep 0) (by simp [results, Tryz.results5, go_sem, hk, rep, wrL]) rfl ⟨rfl, l6, _, _, _, a6⟩
theorem HC_mono {w : World} {base p m room L L' i l k : Nat} {fl : FL} {nm : List UInt8} {s : Sec} (h : HC w base p m room fl L i nm l k s) (hl : L ≤ L') : HC w base p m room fl L' i nm l k s := by
  obtain ⟨d, fs, lv, x, h, g, r⟩ := h
  exact ⟨d, fs, lv, x, h, { g with len := Nat.le_trans g.len hl }, r⟩
theorem AW.done {w : World} {base p m aa am room L B : Nat} {g : IG} {tv hv : Value} (h : AW w base p m aa am room L B g tv hv) {dn : Nat} (hd : dn ≤ L) (ha : w.heap[aa]? = some (.cells #[dp p, .map (some am), .int .i64 dn] 53 (0, 0))) :
    AW (w.setCell ⟨aa, 2, none⟩ (.int .i64 ((dn : Int) + 1))) base p m aa am room (L + 1) B g tv hv := by
  have k : Kept w (w.setCell ⟨aa, 2, none⟩ (.int .i64 ((dn : Int) + 1))) (· ≠ aa) := Kept.set w aa 2 _ fun hn => hn rfl
  obtain ⟨es, cc, h2⟩ := h.mp.isMap
  obtain ⟨es2, cc2, h3⟩ := h.ck.mp.isMap
  refine ⟨⟨dn + 1, by omega, (heap_setCell_at' w aa 2 _ _ _ _ ha).trans (by simp)⟩, h.mp.block (k.block _ h.mp.lt (by rintro rfl; rw [h2] at ha; cases ha)), (k.block _ (blk_lt h.im) (ne_tyC h.im ha (by decide))).trans h.im, fun W hK => h.tab W ((k.imp fun k _ hk => by have h1 : B < k := hk; have := h.le.1; omega).trans hK), HC_mono ?_ (Nat.le_succ _), ?_, h.ba, h.le, h.ne⟩
  · exact h.hc.kept k fun q hF e => hF (by subst e; exact ⟨not_map h.hc.hg.facts.2.1 ha, fun c t fr e => by rw [ha] at e; cases e; decide⟩)
  · exact ck_empty ((k.block _ (blk_lt h.ck.ck) (ne_tyC h.ck.ck ha (by decide))).trans h.ck.ck) (h.ck.mp.block (k.block _ h.ck.mp.lt (by rintro rfl; rw [h3] at ha; cases ha))) h.ck.hp h.ck.hm
set_option maxRecDepth 100000 in
set_option maxHeartbeats 2000000 in
theorem do_rd {w : World} {base p m aa am room L B : Nat} {g : IG} {tv hv : Value} (h : AW w base p m aa am room L B g tv hv) (hnm : g.nm = [97]) (hL : L ≤ 80000) :
    Calls Tryz.prog 5 #[dp aa, .agg (cmdC 3 [97] [] 2 1 0 nilS)] w fun e w' => ∃ v b0, e = .returned (.agg #[.int .i64 0, v, nilS, nilS, .int .i64 0, .int .i64 0]) ∧ OwnB w' b0 5 v bsA ∧ Below base w w' := by
  obtain ⟨dn, hdn, ha⟩ := h.ar
  have b2 := bel2 w (.cells (cmdC 3 [97] [] 2 1 0 nilS) 28) (.cells #[.int .i64 0, nilS, nilS, nilS, .int .i64 0, .int .i64 0] 33)
  have e1 := new2_0 w (.cells (cmdC 3 [97] [] 2 1 0 nilS) 28) (.cells #[.int .i64 0, nilS, nilS, nilS, .int .i64 0, .int .i64 0] 33)
  have e2 := new2_1 w (.cells (cmdC 3 [97] [] 2 1 0 nilS) 28) (.cells #[.int .i64 0, nilS, nilS, nilS, .int .i64 0, .int .i64 0] 33)
  have H := hid (And.intro h (And.intro ha hnm))
  have HBS := hid (show base ≤ w.heap.size from Nat.le_trans h.ck.hp (Nat.le_of_lt (blk_lt h.ck.ck)))
  clear h ha hnm
  go_enter Tryz.func5, Tryz.ntmps5
  simp only [cmdC] at b2 e1 e2 ⊢
  go_upto_region 3 with (fail)
  have hz1 : w.heap.size + 2 ≤ ((w.alloc (.cells #[.int .i64 3, nmv [97], nmv [], .int .i64 2, .int .i64 1, .int .i64 0, nilS] 28)).alloc (.cells #[.int .i64 0, nilS, nilS, nilS, .int .i64 0, .int .i64 0] 33)).heap.size := by simp
  generalize (w.alloc (.cells #[.int .i64 3, nmv [97], nmv [], .int .i64 2, .int .i64 1, .int .i64 0, nilS] 28)).alloc (.cells #[.int .i64 0, nilS, nilS, nilS, .int .i64 0, .int .i64 0] 33) = w1 at *
  have ya := fun j => cell_of (qk_below H.out.2.1 b2) j
  have fa := fun j => fz_of (qk_below H.out.2.1 b2) j
  have H1 := hid (And.intro (H.out.1.below b2) (And.intro (qk_below H.out.2.1 b2) (And.intro b2 (And.intro e1 e2))))
  have HB1 := hid (b2.mono HBS.out)
  clear b2 e1 e2
  go_wp2_with fail
  refine (power_any H1.out.1.hc.hg (by simp [H.out.2.2])).mono ?_
  rintro e w2 ⟨rfl, rfl⟩
  go_wp2_with fail
  refine (aadd aa 2 dn 1 w1 (ya 2) (fa 2) (by omega)).mono ?_
  rintro e w2 ⟨rfl, hw2⟩
  have a2 := H1.out.1.done hdn H1.out.2.1
  have HB2 := hid (HB1.out.setCell (p := ⟨aa, 2, none⟩) H1.out.1.ba.2 (.int .i64 ((dn : Int) + 1)))
  have hne : aa < w.heap.size := blk_lt H.out.2.1
  have e12 := qk_set (i := 2) (v := .int .i64 ((dn : Int) + 1)) H1.out.2.2.2.1 (show w.heap.size ≠ aa by omega)
  have e22 := qk_set (i := 2) (v := .int .i64 ((dn : Int) + 1)) H1.out.2.2.2.2 (show w.heap.size + 1 ≠ aa by omega)
  have hz2 : w1.heap.size = (w1.setCell ⟨aa, 2, none⟩ (.int .i64 ((dn : Int) + 1))).heap.size := by simp
  rw [← hw2] at a2 e12 e22 hz2 HB2
  have H2 := hid (And.intro a2 (And.intro e12 e22))
  have yk := a2.look [97] (by decide)
  obtain ⟨dn2, hdn2, har2⟩ := a2.ar
  have yc : ∀ W, Below w2.heap.size w2 W → ∀ j, W.cell? ⟨aa, j, none⟩ = _ := fun W hW j => cell_of (qk_below har2 hW) j
  rw [show Mp.look (gpl [g]) [97] = some g.q by simp [gpl, Mp.look_cons, H.out.2.2]] at yk
  simp only [Option.map_some] at yk
  have yb : ∀ W, Below w2.heap.size w2 W → ∀ j, W.cell? ⟨w.heap.size, j, none⟩ = _ := fun W hW j => cell_of (qk_below e12 hW) j
  have yb2 := yb w2 (Below.refl _ _)
  clear a2 e12 e22 hw2 ya fa har2
  go_wp2_with fail
  go_region_held3 (fun w' => Below w2.heap.size w2 w') (first | with_reducible exact (Below.refl _ _).drew | with_reducible assumption | with_reducible exact Below.drew (by assumption)) (fail)
  have hb3 : Below w2.heap.size w2 w2.drew := (Below.refl _ _).drew
  have yb3 := yb _ hb3
  have H3 := hid (And.intro (H2.out.1.below hb3) (And.intro (qk_below H2.out.2.1 hb3) (qk_below H2.out.2.2 hb3)))
  have HB3 := hid (HB2.out.trans (Below.refl base w2).drew)
  have hz3 : w.heap.size + 2 ≤ w2.drew.heap.size := by have := hb3.size; omega
  clear yk yc yb yb2 hb3
  generalize w2.drew = w3 at *
  have HT := hid (asks_A H3.out.1 H.out.2.2)
  simp only [cmdC] at HT
  go_wp2_with fail
  refine HT.out.mono ?_
  rintro e w4 ⟨v, b0, rfl, ho, hb0, hrf⟩
  obtain ⟨va, vn, vc, rfl⟩ := slB_shape ho.slB
  have e24 := hrf.cells H3.out.2.2 H3.out.1.ck.ck H3.out.1.ck.mp.isMap (by decide)
  have H4 := hid (And.intro ho (And.intro hb0 e24))
  have HB4 := hid (HB3.out.trans hrf.bel)
  have ye := fun j => cell_of e24 j
  have fe := fun j => fz_of e24 j
  clear ho hb0 hrf e24 yb3
  go_wp2_with fail
  have q6 := stL_heap [.int .i64 0, .slice va vn vc, nilS, nilS, .int .i64 0, .int .i64 0] w4 0 _ H4.out.2.2
  have o6 := H4.out.1.kept (stL_kept (w.heap.size + 1) [.int .i64 0, .slice va vn vc, nilS, nilS, .int .i64 0, .int .i64 0] 0 w4) fun k hk => by
    have h1 := (World.ownsRow.lt H4.out.1 k hk).1
    have h2 := H4.out.2.1
    omega
  have l6 := stL_below (b := w.heap.size + 1) (Nat.le_succ_of_le HBS.out) [.int .i64 0, .slice va vn vc, nilS, nilS, .int .i64 0, .int .i64 0] w4 w 0 HB4.out
  change bodyPost Tryz.prog Tryz.f5 _ _ _ (Mx.stL w4 (w.heap.size + 1) 0 [.int .i64 0, .slice va vn vc, nilS, nilS, .int .i64 0, .int .i64 0])
  generalize Mx.stL w4 (w.heap.size + 1) 0 [.int .i64 0, .slice va vn vc, nilS, nilS, .int .i64 0, .int .i64 0] = w6 at *
  have hk := fun j => cell_of q6 j
  exact bodyPost_ret (v := .agg #[.int .i64 0, .slice va vn vc, nilS, nilS, .int .i64 0, .int .i64 0]) (by simp [results, Tryz.results5, go_sem, hk, wrL]) rfl ⟨_, _, rfl, o6, l6⟩
end Go.Proofs.YtmcllcepoiakeaaGreat
