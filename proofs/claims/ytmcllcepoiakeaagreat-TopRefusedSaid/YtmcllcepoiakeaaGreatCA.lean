import Derived.Test.YtmcllcepoiakeaaGreatT4
import Derived.Deep.QuietTactic
import Derived.BigQuiet
import Derived.IntWalk
import Derived.WalkSmall
import Derived.Test.YtmcllcepoiakeaaGreatRows
import Derived.Test.YtmcllcepoiakeaaGreatMM
import Derived.Test.YtmcllcepoiakeaaGreatO
set_option linter.unusedSimpArgs false
set_option linter.unusedVariables false
namespace Go.Proofs.YtmcllcepoiakeaaGreat
open Go.RowKit Go.Mx Go.Proofs.YtmcllcepoiakeaaGreat.Dx
set_option maxRecDepth 100000 in
theorem wtable (p base n : Nat) (w : World) (h : WR w base p n) (hn : n ≤ 1000000) :
    Calls Tryz.prog 249 #[.pointer (some ⟨p, 0, none⟩), .agg #[nilS], .int .i64 0] w fun e w' => e = .returned (.tuple #[]) ∧ WR w' base p (n + 2) ∧ Below base w w' := by
  have hle := h.le
  have h := h.below (bel1 w (.cells #[nilS] 90))
  have HB0 := hid ((bel1 w (.cells #[nilS] 90)).mono hle)
  obtain ⟨wv, bs, h1, h2, h3, h4⟩ := h
  go_enter Tryz.func249, Tryz.ntmps249
  go_wp2_with fail
  refine (tput_nil _).mono ?_
  rintro e w1 ⟨ov, ob, rfl, ho, hol, hb⟩
  have h1' := (hb.block _ (blk_lt h1)).trans h1
  have h2' := h2.below hb h2.lt
  have c0 := cell_of h1' 0
  have f0 := fz_of h1' 0
  have hle2 : base ≤ (w.alloc (.cells #[nilS] 90)).heap.size := by simp; omega
  have HH := hid (And.intro h1' (And.intro h2' (And.intro (HB0.out.trans (hb.mono hle2)) (Nat.le_trans hle2 hb.size))))
  have HO := hid ho
  clear h1 h2 hb h1' ho hle hle2
  go_wp2_with (at_builtin; refine append_slg _ rfl _ _ 26 5 rfl Tryz.underlying26 Tryz.info5 base _ bs rfl h2' _ ob _ rfl HO.out.slB ?_ ?_ ?_)
  · omega
  · have := HH.out.2.2.2; omega
  intro v' w2 ho2 hg2
  have hwr := WR.put HH.out.1 HH.out.2.1 hg2 ho2 h4
  have he : (bs ++ ob).length = n + 2 := by simp [h3, hol]
  rw [he] at hwr
  clear he
  have hp2 : w2.heap[p]? = some (.cells #[wv] 364 (0, 0)) := (hg2.block p (blk_lt HH.out.1) (fun e => HH.out.2.1.not_block HH.out.1 (by decide) e.symm)).trans HH.out.1
  have hb2 : Below base w w2 := HH.out.2.2.1.trans ((Below.refl base w1).grown hg2 (by have := HH.out.2.2.2; omega) fun k hk => (World.ownsRow.lt HH.out.2.1 k hk).1)
  have d0 := cell_of hp2 0
  have g0 := fz_of hp2 0
  have HW := hid (And.intro hwr (hb2.setCell (p := ⟨p, 0, none⟩) h4 v'))
  obtain ⟨oa, sn, sc, rfl⟩ := slB_shape ho2.slB
  clear hwr hp2 hb2 ho2 hg2 c0 f0 h2'
  go_wp2
  go_end0
  exact ⟨rfl, HW.out.1, HW.out.2⟩
/-- how long a run of equal numbers is -/
def runL (cs : List Int) (i : Nat) : Nat → Nat → Nat
  | 0, n => n
  | f + 1, n => if n < 65535 ∧ i + n < cs.length ∧ cs.getD (i + n) 0 = cs.getD i 0 then runL cs i f (n + 1) else n
def cntR (cs : List Int) : Nat → Nat → Nat
  | 0, _ => 0
  | f + 1, i => if i < cs.length then 1 + cntR cs f (i + runL cs i cs.length 1) else 0
theorem runL_ge (cs : List Int) (i : Nat) : ∀ f n, n ≤ runL cs i f n
  | 0, n => Nat.le_refl _
  | f + 1, n => by
    unfold runL; split
    · have := runL_ge cs i f (n + 1); omega
    · omega
theorem runL_le (cs : List Int) (i : Nat) : ∀ f n, n ≤ 65535 → i + n ≤ cs.length → runL cs i f n ≤ 65535 ∧ i + runL cs i f n ≤ cs.length
  | 0, n, h1, h2 => ⟨h1, h2⟩
  | f + 1, n, h1, h2 => by
    unfold runL; split
    · rename_i h; exact runL_le cs i f (n + 1) (by omega) (by omega)
    · exact ⟨h1, h2⟩
set_option maxRecDepth 100000 in
set_option maxHeartbeats 2000000 in
theorem wcounts (p base n : Nat) (cv : Value) (cs : List Int) (w : World) (h : WR w base p n) (hn : n ≤ 100000) (hs : SlI w base cv cs) (hl : cs.length ≤ 65536) (hr : ∀ x ∈ cs, 0 ≤ x ∧ x ≤ 65535) :
    Calls Tryz.prog 251 #[.pointer (some ⟨p, 0, none⟩), cv] w fun e w' => e = .returned (.tuple #[]) ∧ WR w' base p (n + 4 + 4 * cntR cs (cs.length + 1) 0) ∧ Below base w w' := by
  have hlen := fun ty => SlI.len (P := Tryz.prog) (ty := ty) hs Tryz.underlying93
  obtain ⟨oa, sn, sc, rfl⟩ : ∃ oa n c, cv = .slice oa n c := by obtain ⟨oa, c, rfl, _⟩ := hs; exact ⟨_, _, _, rfl⟩
  have HP := hid (wnum p base n 4 cs.length w h (by omega) (by omega) (by omega) (by omega) (by omega))
  have HS := hid (And.intro hs hr)
  obtain ⟨N, hN⟩ : ∃ N, N = cs.length := ⟨_, rfl⟩
  obtain ⟨T, hT⟩ : ∃ T, T = cntR cs (N + 1) 0 := ⟨_, rfl⟩
  rw [← hN] at HP hl hlen ⊢
  rw [← hT]
  have HN := hid (And.intro hN hT)
  clear h hs hr hN hT
  go_enter Tryz.func251, Tryz.ntmps251
  go_wp2_with fail
  refine HP.out.mono ?_
  rintro e w1 ⟨rfl, hw1, hb1⟩
  have H1 := hid (And.intro hw1 hb1)
  clear hw1 hb1 HP
  go_wp2_with fail
  go_loopw [4] (fun s4 wr => ∃ (k r f : Nat), k ≤ N ∧ s4 = .int .i64 k ∧ r ≤ k ∧ N + 1 ≤ f + k ∧ Hid (r + cntR cs f k = T) ∧ Hid (WR wr base p (n + 4 + 4 * r) ∧ Below base w wr)) (fun s4 _ => N - (intOf s4).toNat)
  case atStart => exact ⟨0, 0, N + 1, by omega, rfl, by omega, by omega, hid (by rw [HN.out.2]; simp), H1⟩
  case round =>
    obtain ⟨k, r, f, hk, rfl, hrk, hf, hR, hW⟩ := hrel
    by_cases hlt : k < N
    · obtain ⟨g, rfl⟩ : ∃ g, f = g + 1 := ⟨f - 1, by omega⟩
      obtain ⟨R, hRe⟩ : ∃ R, R = runL cs k N 1 := ⟨_, rfl⟩
      have hb2 := HN.out.1
      have hR2 := runL_le cs k N 1 (by omega) (by omega)
      have hR1 := runL_ge cs k N 1
      have hRR := hR.out
      unfold cntR at hRR
      rw [if_pos (by omega), ← hb2, ← hRe] at hRR
      rw [← hRe, ← hb2] at hR2
      rw [← hRe] at hR1
      have HRR := hid hRR
      have HRE := hid hRe
      have hr9 : r ≤ 65536 := by omega
      clear hRe hRR hb2 hR
      go_wp2_with fail
      obtain ⟨wo, hwo⟩ : ∃ x, x = wr := ⟨_, rfl⟩
      subst hwo
      go_loopw [5] (fun s5 wq => ∃ (j g : Nat), 1 ≤ j ∧ j ≤ 65535 ∧ k + j ≤ N ∧ s5 = .int .i64 j ∧ N + 1 ≤ g + (k + j) + 1 ∧ Hid (runL cs k g j = R) ∧ Below wo.heap.size wo wq) (fun s5 _ => N - k - (intOf s5).toNat)
      case atStart => exact ⟨1, N, by omega, by omega, by omega, rfl, by omega, hid HRE.out.symm, Below.refl _ _⟩
      case round =>
        obtain ⟨j, g2, hj1, hj2, hj3, rfl, hg2, hJ, hbq⟩ := hrel
        have hsq := HS.out.1.below (hW.out.2.trans (hbq.mono hW.out.1.le)) (Nat.le_refl _)
        have hw1 : IntKind.i64.wrap ((k : Int) + (j : Int)) = (k : Int) + (j : Int) := IntWalk.i64_in _ (by omega)
        have hw2 : (0 : Int) ≤ (k : Int) + (j : Int) := by omega
        have hw3 : ((k : Int) + (j : Int)).toNat = k + j := by omega
        obtain ⟨b0, o0, hb0, hi0, hc0⟩ := hsq.addr (P := Tryz.prog) Tryz.underlying93 size3 k (by have := HN.out.1; omega)
        have HBQ := hid hbq
        by_cases hA : j < 65535 ∧ k + j < N ∧ cs.getD (k + j) 0 = cs.getD k 0
        · obtain ⟨g3, rfl⟩ : ∃ g3, g2 = g3 + 1 := ⟨g2 - 1, by omega⟩
          have hJ' : runL cs k g3 (j + 1) = R := by
            have := hJ.out; unfold runL at this; rwa [if_pos ⟨hA.1, by have := HN.out.1; omega, hA.2.2⟩] at this
          have HJ := hid hJ'
          obtain ⟨b1, o1, hb1, hi1, hc1⟩ := hsq.addr (P := Tryz.prog) Tryz.underlying93 size3 (k + j) (by have := HN.out.1; omega)
          rw [hA.2.2] at hc1
          obtain ⟨v, hv⟩ : ∃ v, v = cs.getD k 0 := ⟨_, rfl⟩
          rw [← hv] at hc0 hc1
          rw [show ((k + j : Nat) : Int) = (k : Int) + (j : Int) by omega] at hi1
          have t1 : decide ((j : Int) < 65535) = true := by simp; omega
          have t2 : decide ((k : Int) + (j : Int) < (N : Int)) = true := by simp; omega
          have hj9 : j < 65535 ∧ k + j < N := ⟨hA.1, hA.2.1⟩
          clear hA hsq hJ hJ' hv hb0 hb1 hbq
          go_wp2_with fail
          go_quiet (fail)
          go_wp2_with fail
          go_roundw
          case rel => exact ⟨j + 1, g3, by omega, by omega, by omega, by go_num, by omega, HJ, below_drewN HBQ.out _⟩
          case measure => simp [intOf]; omega
        · have hRj : R = j := by
            have := hJ.out
            cases g2 with
            | zero => exact this.symm
            | succ g3 => unfold runL at this; rw [if_neg (by have e := HN.out.1; rw [← e]; exact hA)] at this; exact this.symm
          have hm : cs.getD k 0 ∈ cs := by rw [List.getD_eq_getElem?_getD, List.getElem?_eq_getElem (by have := HN.out.1; omega)]; exact List.getElem_mem _
          have hvv := HS.out.2 _ hm
          have hbase := hW.out.1.le
          have hWq := hW.out.1.below hbq
          obtain ⟨v, hv⟩ : ∃ v, v = cs.getD k 0 := ⟨_, rfl⟩
          rw [← hv] at hc0 hvv
          obtain ⟨u, hu⟩ := Int.eq_ofNat_of_zero_le hvv.1
          subst hu
          have hu6 : u ≤ 65535 := by omega
          have hWB := hid (And.intro hWq (And.intro (hW.out.2.trans (hbq.mono hbase)) hbase))
          have HV := hid hv
          have HA := hid hA
          have tail : ∀ wz : World, Below wr.heap.size wr wz → wz.cell? ⟨b0, o0, none⟩ = some (.int .i64 u) ∧ WR wz base p (n + 4 + 4 * r) ∧ Below base w wz := fun wz hz => ⟨(hz.cell (p := ⟨b0, o0, none⟩) (World.block_lt_of_cell? wr _ hc0)).trans hc0, hWB.out.1.below hz, hWB.out.2.1.trans (hz.mono hWB.out.1.le)⟩
          have HT := hid tail
          have hlast : r + (1 + cntR cs g (k + R)) = T := HRR.out
          have HL := hid hlast
          have hb0' := hid hb0
          clear hvv hWq hlast tail hbq hW hv hm hJ hsq hb0 hbase
          have hcase : decide ((j : Int) < 65535) = false ∨ (decide ((j : Int) < 65535) = true ∧ decide ((k : Int) + (j : Int) < (N : Int)) = false) ∨ (decide ((j : Int) < 65535) = true ∧ decide ((k : Int) + (j : Int) < (N : Int)) = true ∧ ∃ (b1 o1 : Nat) (v1 : Int), (∀ (w' : World) (q : IntKind), (Instr.indexAt 93 (.slice oa sn sc) (.int q ((k : Int) + (j : Int)))).run Tryz.prog w' = .ok (.pointer (some ⟨b1, o1, none⟩)) w') ∧ wr.cell? ⟨b1, o1, none⟩ = some (.int .i64 v1) ∧ (v1 == (u : Int)) = false) := by
            by_cases hA1 : j < 65535
            · by_cases hA2 : k + j < N
              · obtain ⟨b1, o1, hb1, hi1, hc1⟩ := (HS.out.1.below hWB.out.2.1 (Nat.le_refl _)).addr (P := Tryz.prog) Tryz.underlying93 size3 (k + j) (by have := HN.out.1; omega)
                rw [show ((k + j : Nat) : Int) = (k : Int) + (j : Int) by omega] at hi1
                refine .inr (.inr ⟨by simp; omega, by simp; omega, b1, o1, _, hi1, hc1, ?_⟩)
                rw [beq_eq_false_iff_ne]; rintro e
                exact hA ⟨hA1, hA2, by rw [← HV.out, e]⟩
              · exact .inr (.inl ⟨by simp; omega, by simp; omega⟩)
            · exact .inl (by simp; omega)
          clear hA HA
          rcases hcase with t1 | ⟨t1, t2⟩ | ⟨t1, t2, b1, o1, v1, hi1, hc1, t3⟩
          all_goals
            go_wp2_with fail
            go_quiet (fail)
            obtain ⟨y1, y2, y3⟩ := HT.out _ (below_drewN (Below.refl _ _) nq)
            have hp1 := wnum p base (n + 4 + 4 * r) 2 j _ y2 (by omega) (by omega) (by omega) (by omega) (by omega)
            have HP1 := hid (And.intro hp1 y3)
            clear hp1 y2 y3
            go_wp2_with fail
            refine HP1.out.1.mono ?_
            rintro e w5 ⟨rfl, h5, b5⟩
            have hc5 : w5.cell? ⟨b0, o0, none⟩ = some (.int .i64 u) := (b5.cell (p := ⟨b0, o0, none⟩) hb0'.out).trans y1
            have HP2 := hid (And.intro (wnum p base (n + 4 + 4 * r + 2) 2 u _ h5 (by omega) (by omega) (by omega) (by omega) (by omega)) (HP1.out.2.trans b5))
            clear h5 b5 y1
            go_wp2_with fail
            refine HP2.out.1.mono ?_
            rintro e w6 ⟨rfl, h6, b6⟩
            have HP3 := hid (And.intro h6 (HP2.out.2.trans b6))
            clear h6 b6
            go_wp2
            go_roundw
            case rel => exact ⟨k + j, r + 1, g, by omega, by go_num, by omega, by omega, hid (by have := HL.out; rw [hRj] at this; omega), hid ⟨by have := HP3.out.1; rwa [show n + 4 + 4 * r + 2 + 2 = n + 4 + 4 * (r + 1) by omega] at this, HP3.out.2⟩⟩
            case measure => simp [intOf]; omega
    · go_wp2
      go_end0
      obtain ⟨g, rfl⟩ : ∃ g, f = g + 1 := ⟨f - 1, by omega⟩
      have hRR := hR.out
      unfold cntR at hRR
      rw [if_neg (by have := HN.out.1; omega)] at hRR
      have : r = T := by omega
      subst this
      exact ⟨rfl, hW.out.1, hW.out.2⟩
theorem WR.new (w : World) (base : Nat) (hb : base ≤ w.heap.size) : WR (w.alloc (.cells #[nilS] 364)) base w.heap.size 0 :=
  ⟨nilS, [], alloc_new w _, OwnB.nil _ _ _, rfl, hb⟩
set_option maxRecDepth 100000 in
set_option maxHeartbeats 2000000 in
theorem put_em (bk : List UInt8) (hbk : BkOk bk) (cv : Value) (cs : List Int) (w : World) (hs : SlI w w.heap.size cv cs) (hl : cs.length ≤ 65536) (hr : ∀ n ∈ cs, 0 ≤ n ∧ n ≤ 65535) (hc : cntR cs (cs.length + 1) 0 ≤ 1000) :
    Calls Tryz.prog 204 #[emv bk cv] w fun e w' => ∃ ov bs, e = .returned (.tuple #[ov, .int .i64 0]) ∧ OwnB w' w.heap.size 5 ov bs ∧ bs.length = 13 + bk.length + 4 * cntR cs (cs.length + 1) 0 ∧ Below w.heap.size w w' := by
  have hbl : bk.length ≤ 1 := by rcases hbk with rfl | ⟨c, rfl, _⟩ <;> simp
  obtain ⟨oa, sn, sc, rfl⟩ : ∃ oa n c, cv = .slice oa n c := by obtain ⟨oa, c, rfl, _⟩ := hs; exact ⟨_, _, _, rfl⟩
  obtain ⟨T, hT⟩ : ∃ T, T = cntR cs (cs.length + 1) 0 := ⟨_, rfl⟩
  have hx := fun w' h i => bx (w := w) (c := #[.int .i64 0, .int .i64 4, nmv bk, nilS, nilS, nilS, .slice oa sn sc]) (t := 95) (w' := w') h i
  have hb0 := bel1 w (.cells #[.int .i64 0, .int .i64 4, nmv bk, nilS, nilS, nilS, .slice oa sn sc] 95)
  have hs1 := hs.below hb0 (Nat.le_refl _)
  have HR := hid (right_em bk hbk _ cs (w.alloc (.cells #[.int .i64 0, .int .i64 4, nmv bk, nilS, nilS, nilS, .slice oa sn sc] 95)) (hs1.mono hb0.size) hl hr)
  have hz0 : (w.alloc (.cells #[.int .i64 0, .int .i64 4, nmv bk, nilS, nilS, nilS, .slice oa sn sc] 95)).heap.size = w.heap.size + 1 := by simp
  rw [← hT] at hc ⊢
  have HH := hid (And.intro hs1 (And.intro hl (And.intro hr (And.intro hT (And.intro hb0 (And.intro hz0 hbk))))))
  clear hs1 hl hr hT hb0 hz0 hbk hs
  go_enter Tryz.func204, Tryz.ntmps204
  go_wp2_with fail
  refine HR.out.mono ?_
  rintro e w1 ⟨rfl, hb1⟩
  have HX := hid hx
  obtain ⟨w0, hw0⟩ : ∃ w0, w0 = w.alloc (.cells #[.int .i64 0, .int .i64 4, nmv bk, nilS, nilS, nilS, .slice oa sn sc] 95) := ⟨_, rfl⟩
  rw [← hw0] at HX HH hb1
  have hb2 := belT hb1 (bel1 w1 (.cells #[nilS] 364))
  have y2 := fun i => HX.out _ hb2 i
  have hW1 := WR.new w1 w0.heap.size hb1.size
  have HW1 := hid (And.intro hW1 hb2)
  obtain ⟨p, hp⟩ : ∃ p, p = w1.heap.size := ⟨_, rfl⟩
  rw [← hp] at HW1
  clear HR hx hb1 hb2 hW1
  have HB0 := hid hw0
  clear hw0
  go_wp2_with fail
  rw [← hp]
  have HPp := hid hp
  clear hp y2
  refine (wnum p _ _ 1 0 _ HW1.out.1 (by omega) (by omega) (by omega) (by omega) (by omega)).mono ?_
  rintro e w2 ⟨rfl, h2, b2⟩
  have HW2 := hid (And.intro h2 (HW1.out.2.trans b2))
  have y2 := fun i => HX.out _ HW2.out.2 i
  clear h2 b2
  go_wp2_with fail
  refine (wnum p _ _ 2 4 _ HW2.out.1 (by omega) (by omega) (by omega) (by omega) (by omega)).mono ?_
  rintro e w3 ⟨rfl, h3, b3⟩
  have HW3 := hid (And.intro h3 (HW2.out.2.trans b3))
  have y3 := fun i => HX.out _ HW3.out.2 i
  clear h3 b3 y2
  go_wp2_with fail
  refine (wtext p _ _ bk _ HW3.out.1 (by omega) (by omega)).mono ?_
  rintro e w4 ⟨rfl, h4, b4⟩
  have HW4 := hid (And.intro h4 (HW3.out.2.trans b4))
  have y4 := fun i => HX.out _ HW4.out.2 i
  clear h4 b4 y3
  go_wp2_with fail
  refine (wtable p _ _ _ HW4.out.1 (by omega)).mono ?_
  rintro e w5 ⟨rfl, h5, b5⟩
  have HW5 := hid (And.intro h5 (HW4.out.2.trans b5))
  have y5 := fun i => HX.out _ HW5.out.2 i
  clear h5 b5 y4
  go_wp2_with fail
  refine (wnum p _ _ 1 0 _ HW5.out.1 (by omega) (by omega) (by omega) (by omega) (by omega)).mono ?_
  rintro e w6 ⟨rfl, h6, b6⟩
  have HW6 := hid (And.intro h6 (HW5.out.2.trans b6))
  have y6 := fun i => HX.out _ HW6.out.2 i
  clear h6 b6 y5
  go_wp2_with fail
  refine wp_loop_once ?_
  go_wp2_with fail
  refine (wnum p _ _ 1 0 _ HW6.out.1 (by omega) (by omega) (by omega) (by omega) (by omega)).mono ?_
  rintro e w7 ⟨rfl, h7, b7⟩
  have HW7 := hid (And.intro h7 (HW6.out.2.trans b7))
  have y7 := fun i => HX.out _ HW7.out.2 i
  clear h7 b7 y6
  go_wp2_with fail
  refine wp_loop_once ?_
  go_wp2_with fail
  refine (wcounts p _ _ _ cs _ HW7.out.1 (by omega) ((HH.out.1.below HW7.out.2 (by have := HH.out.2.2.2.2.2.1; omega)).mono (by have := HH.out.2.2.2.2.2.1; omega)) HH.out.2.1 HH.out.2.2.1).mono ?_
  rintro e w8 ⟨rfl, h8, b8⟩
  obtain ⟨wv, bs, q1, q2, q3, q4⟩ := h8
  rw [← HH.out.2.2.2.1] at q3
  have hln := fun w' => len_own (P := Tryz.prog) (ty := 3) Tryz.underlying26 q2 w'
  have c0 := cell_of q1 0
  have hbl8 : 0 + 1 + 2 + (2 + bk.length) + 2 + 1 + 1 + 4 + 4 * T = 13 + bk.length + 4 * T := by omega
  have hle8 : bs.length ≤ 20000 := by omega
  have t1 : decide ((1048576 : Int) < bs.length) = false := by simp; omega
  have HE := hid (And.intro (q2.any_base (base' := w.heap.size) (by have := HH.out.2.2.2.2.2.1; omega)) (And.intro (q3.trans hbl8) (HH.out.2.2.2.2.1.trans ((HW7.out.2.trans b8).mono (by have := HH.out.2.2.2.2.2.1; omega)))))
  obtain ⟨va, vn, vc, rfl⟩ := slB_shape q2.slB
  clear q1 q2 q3 b8 y7 hbl8 hle8
  go_wp2
  go_ret2
  exact ⟨_, _, rfl, HE.out.1, HE.out.2.1, HE.out.2.2⟩
end Go.Proofs.YtmcllcepoiakeaaGreat
namespace Go.Cnt
/-- are n places from s on free? -/
def freeB (us : List Int) (s n : Nat) : Bool := ((us.drop s).take n).all (· == 0)
/-- the first free place from s on -/
def first (us : List Int) (n : Nat) (s : Nat) : Nat :=
  if _h : s < us.length then (if freeB us s n then s else first us n (s + 1)) else s
termination_by us.length - s
def freeM (us : List Int) (n from_ most : Int) : Int × Bool :=
  if n < 1 ∨ from_ < 0 ∨ most < 0 ∨ n > most then (0, false)
  else if (first us n.toNat from_.toNat : Int) > most - n then (0, false) else (first us n.toNat from_.toNat, true)
theorem freeB_iff (us : List Int) (s n : Nat) : freeB us s n = true ↔ ∀ k, s ≤ k → k < s + n → k < us.length → us.getD k 0 = 0 := by
  unfold freeB
  rw [List.all_eq_true]
  constructor
  · intro h k h1 h2 h3
    have hm : us.getD k 0 ∈ (us.drop s).take n := by
      rw [List.mem_iff_getElem?]
      refine ⟨k - s, ?_⟩
      rw [List.getElem?_take, if_pos (by omega), List.getElem?_drop, show s + (k - s) = k by omega, List.getD_eq_getElem?_getD, List.getElem?_eq_getElem h3]
      rfl
    simpa using h _ hm
  · intro h x hx
    rw [List.mem_iff_getElem?] at hx
    obtain ⟨i, hi⟩ := hx
    rw [List.getElem?_take] at hi
    split at hi
    · rename_i hin
      rw [List.getElem?_drop] at hi
      have hl : s + i < us.length := (List.getElem?_eq_some_iff.1 hi).1
      have := h (s + i) (by omega) (by omega) hl
      rw [List.getD_eq_getElem?_getD, hi] at this
      simpa using this
    · cases hi
theorem first_end (us : List Int) (n s : Nat) (h : us.length ≤ s) : first us n s = s := by
  rw [first, dif_neg (by omega)]
theorem first_free (us : List Int) (n s : Nat) (h : freeB us s n = true) : first us n s = s := by
  rw [first]; split <;> simp [h]
theorem first_next (us : List Int) (n s : Nat) (h : freeB us s n = false) : first us n s = first us n (s + 1) := by
  by_cases hl : s < us.length
  · rw [first, dif_pos hl, h]; simp
  · have : freeB us s n = true := (freeB_iff us s n).2 (fun k h1 _ h3 => by omega)
    rw [h] at this; cases this
theorem first_ge (us : List Int) (n : Nat) : ∀ d s, us.length - s = d → s ≤ first us n s := by
  intro d
  induction d with
  | zero => intro s h; rw [first_end _ _ _ (by omega)]; exact Nat.le_refl _
  | succ d ih =>
    intro s h
    cases hb : freeB us s n
    · rw [first_next _ _ _ hb]; have := ih (s + 1) (by omega); omega
    · rw [first_free _ _ _ hb]; exact Nat.le_refl _
theorem le_first (us : List Int) (n s : Nat) : s ≤ first us n s := first_ge us n _ s rfl
theorem first_le (us : List Int) (n : Nat) : ∀ d s, us.length - s = d → first us n s ≤ max s us.length := by
  intro d
  induction d with
  | zero => intro s h; rw [first_end _ _ _ (by omega)]; omega
  | succ d ih =>
    intro s h
    cases hb : freeB us s n
    · rw [first_next _ _ _ hb]; have := ih (s + 1) (by omega); omega
    · rw [first_free _ _ _ hb]; omega
theorem first_max (us : List Int) (n s : Nat) : first us n s ≤ max s us.length := first_le us n _ s rfl
theorem first_isFree (us : List Int) (n : Nat) : ∀ d s, us.length - s = d → freeB us (first us n s) n = true := by
  intro d
  induction d with
  | zero => intro s h; rw [first_end _ _ _ (by omega)]; exact (freeB_iff _ _ _).2 (fun k _ _ _ => by omega)
  | succ d ih =>
    intro s h
    cases hb : freeB us s n
    · rw [first_next _ _ _ hb]; exact ih (s + 1) (by omega)
    · rw [first_free _ _ _ hb]; exact hb
theorem first_is (us : List Int) (n s : Nat) : freeB us (first us n s) n = true := first_isFree us n _ s rfl
theorem first_not (us : List Int) (n : Nat) : ∀ d s p, us.length - s = d → s ≤ p → p < first us n s → freeB us p n = false := by
  intro d
  induction d with
  | zero => intro s p h h1 h2; rw [first_end _ _ _ (by omega)] at h2; omega
  | succ d ih =>
    intro s p h h1 h2
    cases hb : freeB us s n
    · rw [first_next _ _ _ hb] at h2
      by_cases e : p = s
      · subst e; exact hb
      · exact ih (s + 1) p (by omega) (by omega) h2
    · rw [first_free _ _ _ hb] at h2; omega
/-- what is used at s: no place that reaches it is free -/
theorem first_skip (us : List Int) (n s : Nat) (hs : s < us.length) (hu : us.getD s 0 ≠ 0) : ∀ d p, s - p = d → p ≤ s → s < p + n → first us n p = first us n (s + 1) := by
  intro d
  induction d with
  | zero =>
    intro p h h1 h2
    obtain rfl : p = s := by omega
    refine first_next _ _ _ ?_
    cases hb : freeB us p n
    · rfl
    · exact absurd ((freeB_iff _ _ _).1 hb p (Nat.le_refl _) (by omega) hs) hu
  | succ d ih =>
    intro p h h1 h2
    have hb : freeB us p n = false := by
      cases hb : freeB us p n
      · rfl
      · exact absurd ((freeB_iff _ _ _).1 hb s h1 h2 hs) hu
    rw [first_next _ _ _ hb]
    exact ih (p + 1) (by omega) (by omega) (by omega)
/-- the walk's invariant: run noughts ahead of s -/
structure Run (us : List Int) (n f s run : Nat) (R : Nat) : Prop where
  lt : run < n
  le : f + run ≤ s
  zero : ∀ k, s - run ≤ k → k < s → us.getD k 0 = 0
  eq : R = first us n (s - run)
theorem Run.start (us : List Int) (n f : Nat) (hn : 1 ≤ n) : Run us n f f 0 (first us n f) := ⟨by omega, by omega, fun k h1 h2 => by omega, by simp⟩
theorem Run.used {us : List Int} {n f s run R : Nat} (h : Run us n f s run R) (hs : s < us.length) (hu : us.getD s 0 ≠ 0) : Run us n f (s + 1) 0 R :=
  ⟨by have := h.lt; omega, by have := h.le; omega, fun k h1 h2 => by omega, by
    rw [h.eq, Nat.sub_zero]
    exact first_skip us n s hs hu _ (s - run) rfl (by omega) (by have := h.lt; have := h.le; omega)⟩
theorem Run.free {us : List Int} {n f s run R : Nat} (h : Run us n f s run R) (hu : us.getD s 0 = 0) (hn : run + 1 < n) : Run us n f (s + 1) (run + 1) R :=
  ⟨hn, by have := h.le; omega, fun k h1 h2 => by
    by_cases e : k = s
    · subst e; exact hu
    · exact h.zero k (by omega) (by omega), by rw [h.eq]; congr 1; omega⟩
theorem Run.full {us : List Int} {n f s run R : Nat} (h : Run us n f s run R) (hu : us.getD s 0 = 0) (hn : run + 1 = n) : R = s + 1 - n := by
  have h1 := h.le
  rw [h.eq, first_free _ _ _ ((freeB_iff _ _ _).2 fun k h2 h3 _ => ?_)]
  · omega
  · by_cases e : k = s
    · subst e; exact hu
    · exact h.zero k (by omega) (by omega)
theorem Run.done {us : List Int} {n f run R : Nat} (h : Run us n f us.length run R) : R = us.length - run := by
  rw [h.eq]
  exact first_free _ _ _ ((freeB_iff _ _ _).2 fun k h2 h3 h4 => h.zero k (by omega) h4)
theorem freeB_succ (us : List Int) (s d : Nat) (h : s + d < us.length) : freeB us s (d + 1) = (freeB us s d && (us.getD (s + d) 0 == 0)) := by
  unfold freeB
  have e : (us.drop s).take (d + 1) = (us.drop s).take d ++ [us.getD (s + d) 0] := by
    rw [List.take_add_one, List.getElem?_drop, List.getElem?_eq_getElem h, List.getD_eq_getElem?_getD, List.getElem?_eq_getElem h]; rfl
  rw [e, List.all_append]
  simp
theorem freeB_zero (us : List Int) (s : Nat) : freeB us s 0 = true := by unfold freeB; simp
theorem freeB_past (us : List Int) (s d n : Nat) (h : us.length ≤ s + d) (hn : d ≤ n) : freeB us s d = freeB us s n := by
  unfold freeB
  rw [List.take_of_length_le (by simp; omega), List.take_of_length_le (by simp; omega)]
theorem freeB_end (us : List Int) (s n : Nat) (h : us.length ≤ s) : freeB us s n = true := (freeB_iff _ _ _).2 (fun k h1 _ h3 => by omega)
theorem freeM_none (us : List Int) (n m : Int) (f s : Nat) (h : first us n.toNat f = first us n.toNat s) (hs : m - n < s) : freeM us n f m = (0, false) := by
  unfold freeM
  split
  · rfl
  · have := le_first us n.toNat s
    rw [Int.toNat_natCast, h, if_pos (by omega)]
theorem freeM_some (us : List Int) (n m : Int) (f s : Nat) (hn : 1 ≤ n) (h : first us n.toNat f = first us n.toNat s) (hb : freeB us s n.toNat = true) (hs : (s : Int) ≤ m - n) : freeM us n f m = ((s : Int), true) := by
  unfold freeM
  rw [if_neg (by omega), Int.toNat_natCast, h, first_free _ _ _ hb, if_neg (by omega)]
theorem getD_nil (k : Nat) : ([] : List Int).getD k 0 = 0 := by simp
end Go.Cnt
namespace Go.Proofs.YtmcllcepoiakeaaGreat.Cx
open Go.RowKit Go.Mx Go.Cnt
theorem sizeI (w : World) : (sizeOf 3).run Tryz.prog w = .ok 1 w := by kernel_rfl
theorem ret_ib {a : Int} {b : Bool} {r : Int × Bool} (h : r = (a, b)) : Ending.returned (.tuple #[.int .i64 a, .bool b]) = .returned (.tuple #[.int .i64 r.1, .bool r.2]) := by rw [h]
def fitM (s n m : Int) : Int × Bool := if s > m - n then (0, false) else (s, true)
theorem fits_any (s n m : Int) (w : World) (hn : 1 ≤ n) (hm : n ≤ m) (hm2 : m ≤ 9223372036854775807) :
    Calls Tryz.prog 252 #[.int .i64 s, .int .i64 n, .int .i64 m] w fun e w' => e = .returned (.tuple #[.int .i64 (fitM s n m).1, .bool (fitM s n m).2]) ∧ w = w' := by
  by_cases h : m - n < s
  · have HF := hid (show fitM s n m = (0, false) from if_pos h)
    go_enter Tryz.func252, Tryz.ntmps252
    go_wp2
    go_ret2
    exact ⟨ret_ib HF.out, rfl⟩
  · have HF := hid (show fitM s n m = (s, true) from if_neg h)
    go_enter Tryz.func252, Tryz.ntmps252
    go_wp2
    go_ret2
    exact ⟨ret_ib HF.out, rfl⟩
theorem freeM_fit (us : List Int) (n f m : Int) (h : ¬ (n < 1 ∨ f < 0 ∨ m < 0 ∨ n > m)) : freeM us n f m = fitM (first us n.toNat f.toNat : Nat) n m := by
  unfold freeM fitM; rw [if_neg h]
set_option maxRecDepth 100000 in
set_option maxHeartbeats 1000000 in
theorem free_any (us : List Int) (uv : Value) (n f m : Int) (w : World) (hu : SlI w w.heap.size uv us) (hl : us.length ≤ 1000000000)
    (hn : -9223372036854775808 ≤ n) (hf2 : f ≤ 9223372036854775807) (hm2 : m ≤ 9223372036854775807) :
    Calls Tryz.prog 207 #[uv, .int .i64 n, .int .i64 f, .int .i64 m] w fun e w' => e = .returned (.tuple #[.int .i64 (freeM us n f m).1, .bool (freeM us n f m).2]) ∧ w = w' := by
  have hlen := fun w' => hu.len (P := Tryz.prog) (ty := 3) Tryz.underlying93 w'
  by_cases hbad : n < 1 ∨ f < 0 ∨ m < 0 ∨ n > m
  · have HF := hid (show freeM us n f m = (0, false) from if_pos hbad)
    by_cases h1 : n < 1
    · clear hbad
      go_enter Tryz.func207, Tryz.ntmps207
      go_wp2
      go_ret2
      exact ⟨ret_ib HF.out, rfl⟩
    by_cases h2 : f < 0
    · clear hbad
      go_enter Tryz.func207, Tryz.ntmps207
      go_wp2
      go_ret2
      exact ⟨ret_ib HF.out, rfl⟩
    by_cases h3 : m < 0
    · clear hbad
      go_enter Tryz.func207, Tryz.ntmps207
      go_wp2
      go_ret2
      exact ⟨ret_ib HF.out, rfl⟩
    have h4 : m < n := by omega
    clear hbad
    go_enter Tryz.func207, Tryz.ntmps207
    go_wp2
    go_ret2
    exact ⟨ret_ib HF.out, rfl⟩
  · have hn1 : 1 ≤ n := by omega
    have hf1 : 0 ≤ f := by omega
    have hm1 : 0 ≤ m := by omega
    have hnm : n ≤ m := by omega
    have HR := freeM_fit us n f m hbad
    clear hbad
    obtain ⟨k, rfl⟩ := Int.eq_ofNat_of_zero_le hf1
    obtain ⟨N, rfl⟩ := Int.eq_ofNat_of_zero_le (show 0 ≤ n by omega)
    simp only [Int.toNat_natCast] at HR
    obtain ⟨R, hR⟩ : ∃ R, R = freeM us N k m := ⟨_, rfl⟩
    rw [← hR] at HR ⊢
    clear hR
    have HH := hid HR
    clear HR
    by_cases hk : k < us.length
    · go_enter Tryz.func207, Tryz.ntmps207
      go_wp2
      go_loop [10, 11] (fun r i => ∃ (s run : Nat), s ≤ us.length ∧ i = .int .i64 s ∧ r = .int .i64 run ∧ Run us N k s run (first us N k))
        (fun _ i => us.length - (intOf i).toNat)
      case atStart => exact ⟨k, 0, by omega, rfl, rfl, Run.start us N k (by omega)⟩
      case round =>
        obtain ⟨s, run, hs, rfl, rfl, hrun⟩ := hrel
        have hlt := hrun.lt
        have hle := hrun.le
        have HRun := hid hrun
        clear hrun
        by_cases hsl : s < us.length
        · obtain ⟨b, o, hb, hia, hc⟩ := hu.addr (P := Tryz.prog) Tryz.underlying93 sizeI s hsl
          by_cases hz : us.getD s 0 = 0
          · rw [hz] at hc
            have HZ := hid hz
            clear hz
            by_cases hfull : run + 1 = N
            · have hbe : ((run : Int) + 1 == (N : Int)) = true := by simp; omega
              have hfin := HRun.out.full HZ.out hfull
              have hge : N ≤ s + 1 := by omega
              clear hfull
              go_wp2_with fail
              have HFin := hid (show (s : Int) - (N : Int) + 1 = (first us N k : Nat) by rw [hfin]; omega)
              clear hfin
              refine (fits_any _ _ _ _ (by omega) (by omega) (by omega)).mono ?_
              rintro e w' ⟨rfl, rfl⟩
              go_wp2
              go_ret2
              exact ⟨ret_ib (by rw [HH.out, HFin.out]), rfl⟩
            · have hbe : ((run : Int) + 1 == (N : Int)) = false := by rw [beq_eq_false_iff_ne]; omega
              go_wp2_with fail
              go_round
              case rel => exact ⟨s + 1, run + 1, by omega, by go_num, by go_num, HRun.out.free HZ.out (by omega)⟩
              case measure => simp [intOf]; omega
          · have hzb : (us.getD s 0 != 0) = true := by rw [bne_iff_ne]; exact hz
            obtain ⟨x, hx⟩ : ∃ x, x = us.getD s 0 := ⟨_, rfl⟩
            rw [← hx] at hc hzb
            have HZ := hid hz
            clear hz hx
            go_wp2_with fail
            go_round
            case rel => exact ⟨s + 1, 0, by omega, by go_num, rfl, HRun.out.used hsl HZ.out⟩
            case measure => simp [intOf]; omega
        · obtain rfl : s = us.length := by omega
          have hd := HRun.out.done
          have HD := hid (show (us.length : Int) - (run : Int) = (first us N k : Nat) by rw [hd]; omega)
          clear hd
          go_wp2_with fail
          refine (fits_any _ _ _ _ (by omega) (by omega) (by omega)).mono ?_
          rintro e w' ⟨rfl, rfl⟩
          go_wp2
          go_ret2
          exact ⟨ret_ib (by rw [HH.out, HD.out]), rfl⟩
    · have hfe := first_end us N k (by omega)
      have HD := hid (show (k : Int) = (first us N k : Nat) by rw [hfe])
      clear hfe
      go_enter Tryz.func207, Tryz.ntmps207
      go_wp2
      refine wp_loop_once ?_
      go_wp2_with fail
      refine (fits_any _ _ _ _ (by omega) (by omega) (by omega)).mono ?_
      rintro e w' ⟨rfl, rfl⟩
      go_wp2
      go_ret2
      exact ⟨ret_ib (by rw [HH.out, ← HD.out]), rfl⟩
end Go.Proofs.YtmcllcepoiakeaaGreat.Cx
