import Derived.Test.YtpgdncpomacghaaP80
import Derived.BigQuiet
import Derived.Deep.RegionHeld
namespace Go.Proofs.Ytpgdncpomacghaa
open Go.RowKit Go.Mx Go.Cnt Go.Shelf
set_option linter.unusedSimpArgs false
set_option linter.unusedVariables false
set_option maxRecDepth 100000 in
set_option maxHeartbeats 4000000 in
theorem shots_any (m : MetaM) (tv sv mv cv : Value) (w : World) (hm : IsMeta w w.heap.size m tv sv mv cv) (hw : MetaW m) :
    Calls Try.prog 8 #[metaV m tv sv mv cv] w fun e w' => e = .returned (.bool true) ∧ Below w.heap.size w w' := by
  have hB0 := Bx.new hm
  have hb0 : Below w.heap.size w (w.alloc (.cells #[.int .i64 m.cl, .int .i64 m.sz, .string ⟨m.bk.toArray⟩, tv, sv, mv, cv] 29)) := (Below.refl _ _).alloc (Nat.le_refl _) _
  have HG := hid (greatx_any m tv sv mv cv _ hB0.is hw)
  obtain ⟨ta, tn, tc, htv⟩ := hm.t.shape
  obtain ⟨sa, sn, sc, hsv⟩ : ∃ oa n c, sv = .slice oa n c := by obtain ⟨lvs, _, ⟨oa, cap, h, _⟩, _⟩ := hm.ss; exact ⟨_, _, _, h⟩
  obtain ⟨ma, mn, mc, hmv⟩ : ∃ oa n c, mv = .slice oa n c := by obtain ⟨lvs, _, ⟨oa, cap, h, _⟩, _⟩ := hm.ms; exact ⟨_, _, _, h⟩
  obtain ⟨ca, cn, cc, hcv⟩ : ∃ oa n c, cv = .slice oa n c := by obtain ⟨oa, cap, h, _⟩ := hm.cs; exact ⟨_, _, _, h⟩
  subst htv; subst hsv; subst hmv; subst hcv
  have HB0 := hid (And.intro hB0 hb0)
  have HMW := hid hw
  clear hB0 hb0 hm hw
  unfold metaV
  go_enter Try.func8, Try.ntmps8
  go_wp2_with fail
  refine HG.out.mono ?_
  rintro e w1 ⟨b1, rfl, hP1, hb1⟩
  have B1 := HB0.out.1.step hb1
  have hw1 : Below w.heap.size w w1 := HB0.out.2.trans (hb1.mono HB0.out.2.size)
  obtain ⟨c0, c1, c2, c3, c4, c5, c6⟩ := B1.cells
  have HB1 := hid (And.intro B1 (And.intro hw1 hP1))
  clear B1 hw1 hP1 hb1 HB0 HG
  cases b1
  rotate_left
  · go_wp2_with fail
    refine (awake_any _).mono ?_
    rintro e w2 ⟨rfl, hb2⟩
    go_wp2
    go_ret
    exact ⟨rfl, HB1.out.2.1.trans (hb2.mono HB1.out.2.1.size)⟩
  have HS := hid (HB1.out.2.2 rfl)
  go_wp2_with fail
  refine (right_any m _ _ _ _ _ HB1.out.1.is HMW.out).mono ?_
  rintro e w2 ⟨b2, rfl, hP2, hb2⟩
  have B2 := HB1.out.1.step hb2
  have hw2 : Below w.heap.size w w2 := HB1.out.2.1.trans (hb2.mono HB1.out.2.1.size)
  clear c0 c1 c2 c3 c4 c5 c6
  obtain ⟨c0, c1, c2, c3, c4, c5, c6⟩ := B2.cells
  have HB2 := hid (And.intro B2 (And.intro hw2 hP2))
  clear B2 hw2 hP2 hb2 HB1
  cases b2
  · go_wp2_with fail
    refine (awake_any _).mono ?_
    rintro e w3 ⟨rfl, hb3⟩
    go_wp2
    go_ret
    exact ⟨rfl, HB2.out.2.1.trans (hb3.mono HB2.out.2.1.size)⟩
  have HP := hid (HB2.out.2.2 rfl)
  have HBW := hid HB2.out.2.1
  have HBB := hid HB2.out.1
  clear HB2 HMW
  obtain ⟨cl, sz, bk, t, ss, ms, cs⟩ := m
  simp only at c0 c1 c2 c3 c4 c5 c6
  have HAS := hid (addShot_any ⟨cl, sz, bk, t, ss, ms, cs⟩ (.slice ta tn tc) (.slice sa sn sc) (.slice ma mn mc) (.slice ca cn cc) [111, 110, 101, 45, 109, 111, 114, 101] (by decide) w2 HBB.out.is HS.out)
  unfold metaV at HAS
  simp only at HAS
  go_wp2_with fail
  refine HAS.out.mono ?_
  rintro e w3 ⟨a3, a4, a5, a6, n3, n4, n5, n6, d3, d4, d5, d6, xa, xb, xc, code, rfl, hb3, hok⟩
  have B3 := HBB.out.step hb3
  have hw3 : Below w.heap.size w w3 := HBW.out.trans (hb3.mono HBW.out.size)
  have HK := hid hok
  clear hok c0 c1 c2 c3 c4 c5 c6 HAS
  by_cases hc0 : code = 0
  rotate_left
  · have tc0 : (code == 0) = false := by rw [beq_eq_false_iff_ne]; exact hc0
    have hb9 : Below w.heap.size w (w3.alloc (.cells #[.int .i64 xa, .int .i64 xb, .string xc, .slice a3 n3 d3, .slice a4 n4 d4, .slice a5 n5 d5, .slice a6 n6 d6] 29)) := hw3.alloc hw3.size _
    have HB9 := hid hb9
    clear hb9 B3 hw3
    go_wp2_with fail
    refine (awake_any _).mono ?_
    rintro e w4 ⟨rfl, hb4⟩
    go_wp2
    go_ret
    exact ⟨rfl, HB9.out.trans (hb4.mono HB9.out.size)⟩
  subst hc0
  have hq1 : w3.heap[w.heap.size]? = some (.cells #[.int .i64 cl, .int .i64 sz, .string ⟨bk.toArray⟩, .slice ta tn tc, .slice sa sn sc, .slice ma mn mc, .slice ca cn cc] 29 (0, 0)) := B3.at_
  have hA3 : Below w3.heap.size w3 (w3.alloc (.cells #[.int .i64 xa, .int .i64 xb, .string xc, .slice a3 n3 d3, .slice a4 n4 d4, .slice a5 n5 d5, .slice a6 n6 d6] 29)) := (Below.refl _ _).alloc (Nat.le_refl _) _
  have hq3 := alloc_new w3 (.cells #[.int .i64 xa, .int .i64 xb, .string xc, .slice a3 n3 d3, .slice a4 n4 d4, .slice a5 n5 d5, .slice a6 n6 d6] 29)
  have hz3 : (w3.alloc (.cells #[.int .i64 xa, .int .i64 xb, .string xc, .slice a3 n3 d3, .slice a4 n4 d4, .slice a5 n5 d5, .slice a6 n6 d6] 29)).heap.size = w3.heap.size + 1 := by simp
  obtain ⟨A3, hA3e⟩ : ∃ A, A = w3.alloc (.cells #[.int .i64 xa, .int .i64 xb, .string xc, .slice a3 n3 d3, .slice a4 n4 d4, .slice a5 n5 d5, .slice a6 n6 d6] 29) := ⟨_, rfl⟩
  rw [← hA3e] at hA3 hq3 hz3
  have q1A := (hA3.block _ (blk_lt hq1)).trans hq1
  have c0 : A3.cell? ⟨w.heap.size, 0, none⟩ = some (.int .i64 cl) := by simp [World.cell?, q1A]
  have c1 : A3.cell? ⟨w.heap.size, 1, none⟩ = some (.int .i64 sz) := by simp [World.cell?, q1A]
  have c2 : A3.cell? ⟨w.heap.size, 2, none⟩ = some (.string ⟨bk.toArray⟩) := by simp [World.cell?, q1A]
  have c3 : A3.cell? ⟨w.heap.size, 3, none⟩ = some (.slice ta tn tc) := by simp [World.cell?, q1A]
  have c4 : A3.cell? ⟨w.heap.size, 4, none⟩ = some (.slice sa sn sc) := by simp [World.cell?, q1A]
  have c5 : A3.cell? ⟨w.heap.size, 5, none⟩ = some (.slice ma mn mc) := by simp [World.cell?, q1A]
  have c6 : A3.cell? ⟨w.heap.size, 6, none⟩ = some (.slice ca cn cc) := by simp [World.cell?, q1A]
  have hA5 : Below A3.heap.size A3 (A3.alloc (.cells #[.int .i64 cl, .int .i64 sz, .string ⟨bk.toArray⟩, .slice ta tn tc, .slice none 0 0, .slice ma mn mc, .slice ca cn cc] 29)) := (Below.refl _ _).alloc (Nat.le_refl _) _
  have p5 := alloc_new A3 (.cells #[.int .i64 cl, .int .i64 sz, .string ⟨bk.toArray⟩, .slice ta tn tc, .slice none 0 0, .slice ma mn mc, .slice ca cn cc] 29)
  rw [hz3] at hA5 p5
  obtain ⟨wA, hwA⟩ : ∃ A, A = A3.alloc (.cells #[.int .i64 cl, .int .i64 sz, .string ⟨bk.toArray⟩, .slice ta tn tc, .slice none 0 0, .slice ma mn mc, .slice ca cn cc] 29) := ⟨_, rfl⟩
  rw [← hwA] at hA5 p5
  have hbA : Below w3.heap.size w3 wA := hA3.trans (hA5.mono (by omega))
  have p1 := (hbA.block _ (blk_lt hq1)).trans hq1
  have p3 := (hA5.block w3.heap.size (by omega)).trans hq3
  have hwAw : Below w.heap.size w wA := hw3.trans (hbA.mono hw3.size)
  -- the three metas
  have hPT : TabP t := HP.out.1
  have hPS : ∀ i, i < ss.length → TabP (ss.getD i default).t := HP.out.2
  have hok := HK.out rfl
  obtain ⟨S, hS⟩ : ∃ S : ShotM, S = ⟨[111, 110, 101, 45, 109, 111, 114, 101], sz, t⟩ := ⟨_, rfl⟩
  simp only at hok
  rw [← hS] at hok
  have hSt : S.t = t := by rw [hS]
  clear hS
  have hTA : Tabs wA (.slice ta tn tc) (.slice sa sn sc) t ss := ⟨(B3.is.t.below hbA (Nat.le_refl _)).mono hbA.size, (B3.is.ss.below hbA (Nat.le_refl _)).mono hbA.size, HS.out.t.1, fun i hi => (HS.out.ss i hi).1, by have := HS.out.sl; simp only at this; omega, eachM_good ⟨cl, sz, bk, t, ss, ms, cs⟩ HP.out⟩
  have hsl := HS.out.sl
  simp only at hsl
  have hsl1 : (ss ++ [S]).length ≤ 30 := by rw [List.length_append, List.length_singleton]; omega
  have hgB : MetaP ⟨cl, sz, bk, t, ss ++ [S], ms, cs⟩ := ⟨hPT, snoc_get (P := fun s => TabP s.t) hPS (by rw [hSt]; exact hPT)⟩
  have hlsB : ∀ i, i < (ss ++ [S]).length → ((ss ++ [S]).getD i default).t.length ≤ 6000 := snoc_get (P := fun s => s.t.length ≤ 6000) (fun i hi => (HS.out.ss i hi).1) (by rw [hSt]; exact HS.out.t.1)
  have hTB : Tabs wA (.slice a3 n3 d3) (.slice a4 n4 d4) t (ss ++ [S]) := ⟨(hok.1.tab.below hbA (Nat.le_refl _)).mono hbA.size, (hok.2.shots.below hbA (Nat.le_refl _)).mono hbA.size, HS.out.t.1, hlsB, hsl1, eachM_good ⟨cl, sz, bk, t, ss ++ [S], ms, cs⟩ hgB⟩
  have hTC : Tabs wA (.slice ta tn tc) (.slice none 0 0) t [] := ⟨hTA.ht, ⟨[], rfl, SlG.nil _ _ _, fun i hi => absurd hi (by simp)⟩, HS.out.t.1, fun i hi => absurd hi (by simp), by simp, eachM_good ⟨cl, sz, bk, t, [], ms, cs⟩ ⟨hPT, fun i hi => absurd hi (by simp)⟩⟩
  have HTA := hid hTA; have HTB := hid hTB; have HTC := hid hTC
  obtain ⟨lA, hlA⟩ : ∃ l, l = eachM t ss := ⟨_, rfl⟩
  obtain ⟨lB, hlB⟩ : ∃ l, l = eachM t (ss ++ [S]) := ⟨_, rfl⟩
  obtain ⟨lC, hlC⟩ : ∃ l, l = eachM t [] := ⟨_, rfl⟩
  have hlen : lB.length = lA.length + lC.length := by rw [hlA, hlB, hlC]; exact len_more t ss _ hSt
  have hcnt : ∀ i, 2 ≤ i → i < 300 → (ofM lB 300).getD i 0 = (ofM lA 300).getD i 0 + (ofM lC 300).getD i 0 := fun i h2 h3 => by
    rw [show (300 : Int) = ((300 : Nat) : Int) by rfl, ofM_at _ 300 (by omega) i h3, ofM_at _ 300 (by omega) i h3, ofM_at _ 300 (by omega) i h3, hlA, hlB, hlC]
    exact cnt_more t ss _ hSt i h2
  have hbd : ∀ i, (i < 300) → 0 ≤ (ofM lA 300).getD i 0 ∧ (ofM lA 300).getD i 0 ≤ 1 + lA.length := fun i h3 => by
    rw [show (300 : Int) = ((300 : Nat) : Int) by rfl, ofM_at _ 300 (by omega) i h3]; exact cntK_bd lA lA.length i
  have hbdC : ∀ i, (i < 300) → 0 ≤ (ofM lC 300).getD i 0 ∧ (ofM lC 300).getD i 0 ≤ 1 + lC.length := fun i h3 => by
    rw [show (300 : Int) = ((300 : Nat) : Int) by rfl, ofM_at _ 300 (by omega) i h3]; exact cntK_bd lC lC.length i
  have hN : ∀ l : List Lin, (ofM l 300).length = 300 := fun l => ofM_lenN l 300 (by omega)
  have hlAb : lA.length ≤ 1008000 := by rw [hlA]; exact eachM_len ⟨cl, sz, bk, t, ss, ms, cs⟩ HS.out.p
  have hlCb : lC.length ≤ 1008000 := by rw [hlC]; exact eachM_len ⟨cl, sz, bk, t, [], ms, cs⟩ ⟨HS.out.t.1, by simp, fun i hi => absurd hi (by simp)⟩
  have HLL := hid (And.intro hlA (And.intro hlB hlC))
  have HC := hid (And.intro hcnt (And.intro hbd (And.intro hbdC (And.intro hN hlen))))
  have HOA : Hid (∀ w', Below wA.heap.size wA w' → Calls Try.prog 15 #[.agg #[.int .i64 cl, .int .i64 sz, .string ⟨bk.toArray⟩, .slice ta tn tc, .slice sa sn sc, .slice ma mn mc, .slice ca cn cc], .int .i64 300] w' fun e w'' => (∃ v, e = .returned v ∧ SlI w'' w''.heap.size v (ofM lA 300) ∧ Below wA.heap.size wA w'') ∧ (∀ v l, SlI w' w'.heap.size v l → SlI w'' w''.heap.size v l)) := hid fun w' h => by rw [hlA]; exact hTA.ofN _ _ _ _ _ h
  have HOB : Hid (∀ w', Below wA.heap.size wA w' → Calls Try.prog 15 #[.agg #[.int .i64 xa, .int .i64 xb, .string xc, .slice a3 n3 d3, .slice a4 n4 d4, .slice a5 n5 d5, .slice a6 n6 d6], .int .i64 300] w' fun e w'' => (∃ v, e = .returned v ∧ SlI w'' w''.heap.size v (ofM lB 300) ∧ Below wA.heap.size wA w'') ∧ (∀ v l, SlI w' w'.heap.size v l → SlI w'' w''.heap.size v l)) := hid fun w' h => by rw [hlB]; exact hTB.ofN _ _ _ _ _ h
  have HOC : Hid (∀ w', Below wA.heap.size wA w' → Calls Try.prog 15 #[.agg #[.int .i64 cl, .int .i64 sz, .string ⟨bk.toArray⟩, .slice ta tn tc, .slice none 0 0, .slice ma mn mc, .slice ca cn cc], .int .i64 300] w' fun e w'' => (∃ v, e = .returned v ∧ SlI w'' w''.heap.size v (ofM lC 300) ∧ Below wA.heap.size wA w'') ∧ (∀ v l, SlI w' w'.heap.size v l → SlI w'' w''.heap.size v l)) := hid fun w' h => by rw [hlC]; exact hTC.ofN _ _ _ _ _ h
  have HEA : Hid (∀ w', Below wA.heap.size wA w' → Calls Try.prog 18 #[.agg #[.int .i64 cl, .int .i64 sz, .string ⟨bk.toArray⟩, .slice ta tn tc, .slice sa sn sc, .slice ma mn mc, .slice ca cn cc]] w' fun e w'' => ∃ v, e = .returned v ∧ (∀ W, (Builtin.len_ #[35] 3 #[v]).run Try.prog W = .ok (.int .i64 lA.length) W) ∧ Below wA.heap.size wA w'') := hid fun w' h => by rw [hlA]; exact hTA.eachN _ _ _ _ _ h
  have HEB : Hid (∀ w', Below wA.heap.size wA w' → Calls Try.prog 18 #[.agg #[.int .i64 xa, .int .i64 xb, .string xc, .slice a3 n3 d3, .slice a4 n4 d4, .slice a5 n5 d5, .slice a6 n6 d6]] w' fun e w'' => ∃ v, e = .returned v ∧ (∀ W, (Builtin.len_ #[35] 3 #[v]).run Try.prog W = .ok (.int .i64 lB.length) W) ∧ Below wA.heap.size wA w'') := hid fun w' h => by rw [hlB]; exact hTB.eachN _ _ _ _ _ h
  have HEC : Hid (∀ w', Below wA.heap.size wA w' → Calls Try.prog 18 #[.agg #[.int .i64 cl, .int .i64 sz, .string ⟨bk.toArray⟩, .slice ta tn tc, .slice none 0 0, .slice ma mn mc, .slice ca cn cc]] w' fun e w'' => ∃ v, e = .returned v ∧ (∀ W, (Builtin.len_ #[35] 3 #[v]).run Try.prog W = .ok (.int .i64 lC.length) W) ∧ Below wA.heap.size wA w'') := hid fun w' h => by rw [hlC]; exact hTC.eachN _ _ _ _ _ h
  have C0 : ∀ w', Below wA.heap.size wA w' → w'.cell? ⟨w.heap.size, 0, none⟩ = some (.int .i64 cl) := fun w' h => by have h9 := (h.block _ (blk_lt p1)).trans p1; simp [World.cell?, h9]
  have C1 : ∀ w', Below wA.heap.size wA w' → w'.cell? ⟨w.heap.size, 1, none⟩ = some (.int .i64 sz) := fun w' h => by have h9 := (h.block _ (blk_lt p1)).trans p1; simp [World.cell?, h9]
  have C2 : ∀ w', Below wA.heap.size wA w' → w'.cell? ⟨w.heap.size, 2, none⟩ = some (.string ⟨bk.toArray⟩) := fun w' h => by have h9 := (h.block _ (blk_lt p1)).trans p1; simp [World.cell?, h9]
  have C3 : ∀ w', Below wA.heap.size wA w' → w'.cell? ⟨w.heap.size, 3, none⟩ = some (.slice ta tn tc) := fun w' h => by have h9 := (h.block _ (blk_lt p1)).trans p1; simp [World.cell?, h9]
  have C4 : ∀ w', Below wA.heap.size wA w' → w'.cell? ⟨w.heap.size, 4, none⟩ = some (.slice sa sn sc) := fun w' h => by have h9 := (h.block _ (blk_lt p1)).trans p1; simp [World.cell?, h9]
  have C5 : ∀ w', Below wA.heap.size wA w' → w'.cell? ⟨w.heap.size, 5, none⟩ = some (.slice ma mn mc) := fun w' h => by have h9 := (h.block _ (blk_lt p1)).trans p1; simp [World.cell?, h9]
  have C6 : ∀ w', Below wA.heap.size wA w' → w'.cell? ⟨w.heap.size, 6, none⟩ = some (.slice ca cn cc) := fun w' h => by have h9 := (h.block _ (blk_lt p1)).trans p1; simp [World.cell?, h9]
  have D0 : ∀ w', Below wA.heap.size wA w' → w'.cell? ⟨w3.heap.size, 0, none⟩ = some (.int .i64 xa) := fun w' h => by have h9 := (h.block _ (blk_lt p3)).trans p3; simp [World.cell?, h9]
  have D1 : ∀ w', Below wA.heap.size wA w' → w'.cell? ⟨w3.heap.size, 1, none⟩ = some (.int .i64 xb) := fun w' h => by have h9 := (h.block _ (blk_lt p3)).trans p3; simp [World.cell?, h9]
  have D2 : ∀ w', Below wA.heap.size wA w' → w'.cell? ⟨w3.heap.size, 2, none⟩ = some (.string xc) := fun w' h => by have h9 := (h.block _ (blk_lt p3)).trans p3; simp [World.cell?, h9]
  have D3 : ∀ w', Below wA.heap.size wA w' → w'.cell? ⟨w3.heap.size, 3, none⟩ = some (.slice a3 n3 d3) := fun w' h => by have h9 := (h.block _ (blk_lt p3)).trans p3; simp [World.cell?, h9]
  have D4 : ∀ w', Below wA.heap.size wA w' → w'.cell? ⟨w3.heap.size, 4, none⟩ = some (.slice a4 n4 d4) := fun w' h => by have h9 := (h.block _ (blk_lt p3)).trans p3; simp [World.cell?, h9]
  have D5 : ∀ w', Below wA.heap.size wA w' → w'.cell? ⟨w3.heap.size, 5, none⟩ = some (.slice a5 n5 d5) := fun w' h => by have h9 := (h.block _ (blk_lt p3)).trans p3; simp [World.cell?, h9]
  have D6 : ∀ w', Below wA.heap.size wA w' → w'.cell? ⟨w3.heap.size, 6, none⟩ = some (.slice a6 n6 d6) := fun w' h => by have h9 := (h.block _ (blk_lt p3)).trans p3; simp [World.cell?, h9]
  have E0 : ∀ w', Below wA.heap.size wA w' → w'.cell? ⟨w3.heap.size + 1, 0, none⟩ = some (.int .i64 cl) := fun w' h => by have h9 := (h.block _ (blk_lt p5)).trans p5; simp [World.cell?, h9]
  have E1 : ∀ w', Below wA.heap.size wA w' → w'.cell? ⟨w3.heap.size + 1, 1, none⟩ = some (.int .i64 sz) := fun w' h => by have h9 := (h.block _ (blk_lt p5)).trans p5; simp [World.cell?, h9]
  have E2 : ∀ w', Below wA.heap.size wA w' → w'.cell? ⟨w3.heap.size + 1, 2, none⟩ = some (.string ⟨bk.toArray⟩) := fun w' h => by have h9 := (h.block _ (blk_lt p5)).trans p5; simp [World.cell?, h9]
  have E3 : ∀ w', Below wA.heap.size wA w' → w'.cell? ⟨w3.heap.size + 1, 3, none⟩ = some (.slice ta tn tc) := fun w' h => by have h9 := (h.block _ (blk_lt p5)).trans p5; simp [World.cell?, h9]
  have E4 : ∀ w', Below wA.heap.size wA w' → w'.cell? ⟨w3.heap.size + 1, 4, none⟩ = some (.slice none 0 0) := fun w' h => by have h9 := (h.block _ (blk_lt p5)).trans p5; simp [World.cell?, h9]
  have E5 : ∀ w', Below wA.heap.size wA w' → w'.cell? ⟨w3.heap.size + 1, 5, none⟩ = some (.slice ma mn mc) := fun w' h => by have h9 := (h.block _ (blk_lt p5)).trans p5; simp [World.cell?, h9]
  have E6 : ∀ w', Below wA.heap.size wA w' → w'.cell? ⟨w3.heap.size + 1, 6, none⟩ = some (.slice ca cn cc) := fun w' h => by have h9 := (h.block _ (blk_lt p5)).trans p5; simp [World.cell?, h9]
  have HWA := hid hwAw
  have HCE := hid (And.intro C0 (And.intro C1 (And.intro C2 (And.intro C3 (And.intro C4 (And.intro C5 C6))))))
  have HDE := hid (And.intro D0 (And.intro D1 (And.intro D2 (And.intro D3 (And.intro D4 (And.intro D5 D6))))))
  have HEE := hid (And.intro E0 (And.intro E1 (And.intro E2 (And.intro E3 (And.intro E4 (And.intro E5 E6))))))
  clear hTA hTB hTC hlA hlB hlC hlen hcnt hbd hbdC hN hok hPT hPS p1 p3 p5 q1A hq1 hq3 hA3 hA5 hbA hwAw hw3 B3 hb3 hz3
  have HwA : Hid (wA = (w3.alloc (.cells #[.int .i64 xa, .int .i64 xb, .string xc, .slice a3 n3 d3, .slice a4 n4 d4, .slice a5 n5 d5, .slice a6 n6 d6] 29)).alloc (.cells #[.int .i64 cl, .int .i64 sz, .string ⟨bk.toArray⟩, .slice ta tn tc, .slice none 0 0, .slice ma mn mc, .slice ca cn cc] 29)) := hid (by rw [hwA, hA3e])
  rw [hA3e] at c0 c1 c2 c3 c4 c5 c6
  clear hwA hA3e
  clear C0 C1 C2 C3 C4 C5 C6 D0 D1 D2 D3 D4 D5 D6 E0 E1 E2 E3 E4 E5 E6
  go_wp2_with fail
  rw [← HwA.out]
  clear c0 c1 c2 c3 c4 c5 c6
  have C0 := HCE.out.1
  have C1 := HCE.out.2.1
  have C2 := HCE.out.2.2.1
  have C3 := HCE.out.2.2.2.1
  have C4 := HCE.out.2.2.2.2.1
  have C5 := HCE.out.2.2.2.2.2.1
  have C6 := HCE.out.2.2.2.2.2.2
  have D0 := HDE.out.1
  have D1 := HDE.out.2.1
  have D2 := HDE.out.2.2.1
  have D3 := HDE.out.2.2.2.1
  have D4 := HDE.out.2.2.2.2.1
  have D5 := HDE.out.2.2.2.2.2.1
  have D6 := HDE.out.2.2.2.2.2.2
  have E0 := HEE.out.1
  have E1 := HEE.out.2.1
  have E2 := HEE.out.2.2.1
  have E3 := HEE.out.2.2.2.1
  have E4 := HEE.out.2.2.2.2.1
  have E5 := HEE.out.2.2.2.2.2.1
  have E6 := HEE.out.2.2.2.2.2.2
  go_region_held (fun w' => Below wA.heap.size wA w') (first | exact (Below.refl _ _).drew | assumption | exact Below.drew (by assumption)) (first
    | (go_at_call 15; refine (HOC.out _ hw6).mono ?_; rintro e w7 ⟨⟨v7, rfl, O7, hw7⟩, hk7⟩; have O57 := hk7 _ _ O56; have O67 := hk7 _ _ O6)
    | (go_at_call 15; refine (HOB.out _ hw5).mono ?_; rintro e w6 ⟨⟨v6, rfl, O6, hw6⟩, hk6⟩; have O56 := hk6 _ _ O5)
    | (go_at_call 15; refine (HOA.out _ (by assumption)).mono ?_; rintro e w5 ⟨⟨v5, rfl, O5, hw5⟩, _⟩))
  have hla : ∀ (w' : World), (Builtin.len_ #[27] 3 #[v5]).run Try.prog w' = .ok (.int .i64 300) w' := fun w' => by have := O57.len (P := Try.prog) (ty := 3) Try.underlying27 w'; rw [HC.out.2.2.2.1] at this; exact this
  have hlb : ∀ (w' : World), (Builtin.len_ #[27] 3 #[v6]).run Try.prog w' = .ok (.int .i64 300) w' := fun w' => by have := O67.len (P := Try.prog) (ty := 3) Try.underlying27 w'; rw [HC.out.2.2.2.1] at this; exact this
  have hlc : ∀ (w' : World), (Builtin.len_ #[27] 3 #[v7]).run Try.prog w' = .ok (.int .i64 300) w' := fun w' => by have := O7.len (P := Try.prog) (ty := 3) Try.underlying27 w'; rw [HC.out.2.2.2.1] at this; exact this
  have HO := hid (And.intro O57 (And.intro O67 (And.intro O7 hw7)))
  clear C0 C1 C2 C3 C4 C5 C6 D0 D1 D2 D3 D4 D5 D6 E0 E1 E2 E3 E4 E5 E6 O57 O67 O7 O56 O5 O6 hk7 hk6 hw5 hw6 hw7
  go_wp2_with fail
  go_loopw [9] (fun s9 wr => ∃ i : Nat, s9 = .int .i64 i ∧ 2 ≤ i ∧ i ≤ 300 ∧ Below w7.heap.size w7 wr) (fun s9 _ => 300 - (intOf s9).toNat)
  case atStart => exact ⟨2, rfl, by omega, by omega, Below.refl _ _⟩
  case round =>
    obtain ⟨i, rfl, hi2, hi, hbl⟩ := hrel
    by_cases hlt : i < 300
    · obtain ⟨b5, o5, hb5, hi5, g5⟩ := HO.out.1.addr (P := Try.prog) Try.underlying27 sizeI i (by rw [HC.out.2.2.2.1]; omega)
      obtain ⟨b6, o6, hb6, hi6, g6⟩ := HO.out.2.1.addr (P := Try.prog) Try.underlying27 sizeI i (by rw [HC.out.2.2.2.1]; omega)
      obtain ⟨b7, o7, hb7, hi7, g7⟩ := HO.out.2.2.1.addr (P := Try.prog) Try.underlying27 sizeI i (by rw [HC.out.2.2.2.1]; omega)
      have hsum := HC.out.1 i hi2 hlt
      have hy := HC.out.2.1 i hlt
      have hz := HC.out.2.2.1 i hlt
      rw [hsum] at g6
      obtain ⟨Y, hY⟩ : ∃ Y, Y = (ofM lA 300).getD i 0 := ⟨_, rfl⟩
      obtain ⟨Z, hZ⟩ : ∃ Z, Z = (ofM lC 300).getD i 0 := ⟨_, rfl⟩
      rw [← hY] at g5 g6 hy
      rw [← hZ] at g7 g6 hz
      have hadd : IntKind.i64.wrap (Y + Z) = Y + Z := IntWalk.i64_in _ (by omega)
      have hne : ((Y + Z) != (Y + Z)) = false := by simp
      have e5 : wr.cell? ⟨b5, o5, none⟩ = some (.int .i64 Y) := (hbl.cell (p := ⟨b5, o5, none⟩) hb5).trans g5
      have e6 : wr.cell? ⟨b6, o6, none⟩ = some (.int .i64 (Y + Z)) := (hbl.cell (p := ⟨b6, o6, none⟩) hb6).trans g6
      have e7 : wr.cell? ⟨b7, o7, none⟩ = some (.int .i64 Z) := (hbl.cell (p := ⟨b7, o7, none⟩) hb7).trans g7
      have HB := hid hbl
      clear hY hZ hsum g5 g6 g7 hbl hb5 hb6 hb7
      go_wp2_with fail
      go_quiet (fail)
      rename_i nq
      generalize hwq : wr.drewN nq = wq
      have hbq : Below wr.heap.size wr wq := hwq ▸ below_drewN (Below.refl _ _) nq
      have HBq := hid hbq
      clear hwq hbq
      go_wp2_with fail
      go_roundw
      case rel => exact ⟨i + 1, by go_num, by omega, by omega, HB.out.trans (HBq.out.mono HB.out.size)⟩
      case measure => simp [intOf]; omega
    · obtain rfl : i = 300 := by omega
      have hfd : Below wA.heap.size wA wr.drew := HO.out.2.2.2.trans ((hbl.mono HO.out.2.2.2.size).drew)
      have hadd : IntKind.i64.wrap ((lA.length : Int) + (lC.length : Int)) = (lB.length : Int) := by rw [IntWalk.i64_in _ (by omega)]; have := HC.out.2.2.2.2; omega
      have C0 := HCE.out.1
      have C1 := HCE.out.2.1
      have C2 := HCE.out.2.2.1
      have C3 := HCE.out.2.2.2.1
      have C4 := HCE.out.2.2.2.2.1
      have C5 := HCE.out.2.2.2.2.2.1
      have C6 := HCE.out.2.2.2.2.2.2
      have D0 := HDE.out.1
      have D1 := HDE.out.2.1
      have D2 := HDE.out.2.2.1
      have D3 := HDE.out.2.2.2.1
      have D4 := HDE.out.2.2.2.2.1
      have D5 := HDE.out.2.2.2.2.2.1
      have D6 := HDE.out.2.2.2.2.2.2
      have E0 := HEE.out.1
      have E1 := HEE.out.2.1
      have E2 := HEE.out.2.2.1
      have E3 := HEE.out.2.2.2.1
      have E4 := HEE.out.2.2.2.2.1
      have E5 := HEE.out.2.2.2.2.2.1
      have E6 := HEE.out.2.2.2.2.2.2
      clear hbl
      go_wp2_with fail
      refine wp_region_held_drew (S := fun w' => Below wA.heap.size wA w') (by kernel_rfl) (by exact hfd) (fun hHeld => ?_)
      refine wpAnyH_take (i := 0) (v := ?_) rfl (by kernel_rfl) (by kernel_rfl) (by kernel_rfl) (fun _ _ _ h => h) (Or.inl ⟨by rfl, ?_⟩) (by assumption) ?_
      rotate_left
      · (intro w hSw; (try dsimp only at hSw); go_simp; try (with_reducible rfl))
      try simp only [Act.put, List.getElem_toArray, List.getElem_cons_succ, List.getElem_cons_zero, List.setIfInBounds_toArray, List.set_cons_zero, List.set_cons_succ]
      refine wpAnyH_take (i := 3) (v := ?_) rfl (by kernel_rfl) (by kernel_rfl) (by kernel_rfl) (fun _ _ _ h => h) (Or.inl ⟨by rfl, ?_⟩) (by assumption) ?_
      rotate_left
      · (intro w hSw; (try dsimp only at hSw); go_simp; try (with_reducible rfl))
      try simp only [Act.put, List.getElem_toArray, List.getElem_cons_succ, List.getElem_cons_zero, List.setIfInBounds_toArray, List.set_cons_zero, List.set_cons_succ]
      refine wpAnyH_take (i := 6) (v := ?_) rfl (by kernel_rfl) (by kernel_rfl) (by kernel_rfl) (fun _ _ _ h => h) (Or.inl ⟨by rfl, ?_⟩) (by assumption) ?_
      rotate_left
      · (intro w hSw; (try dsimp only at hSw); go_simp; try (with_reducible rfl))
      try simp only [Act.put, List.getElem_toArray, List.getElem_cons_succ, List.getElem_cons_zero, List.setIfInBounds_toArray, List.set_cons_zero, List.set_cons_succ]
      refine wpAnyH_ready (rs := [1]) (by kernel_rfl) (by simp) (AllReadyH.cons rfl (fun K hK => ?_) AllReadyH.nil)
      go_simp
      go_wp2_with ((go_at_call 18; refine (HEB.out _ hHeld).mono ?_; rintro e w11 ⟨v11, rfl, hl11, hb11⟩))
      refine hK.out _ _ (by first | assumption | exact Below.refl _ _) (fun hHeld5 => ?_)
      clear hK K hHeld
      have hHeld := hHeld5
      clear hHeld5
      try simp only [Act.put, List.getElem_toArray, List.getElem_cons_succ, List.getElem_cons_zero, List.setIfInBounds_toArray, List.set_cons_zero, List.set_cons_succ]
      refine wpAnyH_take (i := 2) (v := ?_) rfl (by kernel_rfl) (by kernel_rfl) (by kernel_rfl) (fun _ _ _ h => h) (Or.inl ⟨by rfl, ?_⟩) (by assumption) ?_
      rotate_left
      · (intro w hSw; (try dsimp only at hSw); go_simp; try (with_reducible rfl))
      try simp only [Act.put, List.getElem_toArray, List.getElem_cons_succ, List.getElem_cons_zero, List.setIfInBounds_toArray, List.set_cons_zero, List.set_cons_succ]
      refine wpAnyH_ready (rs := [4]) (by kernel_rfl) (by simp) (AllReadyH.cons rfl (fun K hK => ?_) AllReadyH.nil)
      go_simp
      go_wp2_with ((go_at_call 18; refine (HEA.out _ hb11).mono ?_; rintro e w12 ⟨v12, rfl, hl12, hb12⟩))
      refine hK.out _ _ (by first | assumption | exact Below.refl _ _) (fun hHeld5 => ?_)
      clear hK K hHeld
      have hHeld := hHeld5
      clear hHeld5
      try simp only [Act.put, List.getElem_toArray, List.getElem_cons_succ, List.getElem_cons_zero, List.setIfInBounds_toArray, List.set_cons_zero, List.set_cons_succ]
      refine wpAnyH_take (i := 5) (v := ?_) rfl (by kernel_rfl) (by kernel_rfl) (by kernel_rfl) (fun _ _ _ h => h) (Or.inl ⟨by rfl, ?_⟩) (by assumption) ?_
      rotate_left
      · (intro w hSw; (try dsimp only at hSw); go_simp; try (with_reducible rfl))
      try simp only [Act.put, List.getElem_toArray, List.getElem_cons_succ, List.getElem_cons_zero, List.setIfInBounds_toArray, List.set_cons_zero, List.set_cons_succ]
      refine wpAnyH_ready (rs := [7]) (by kernel_rfl) (by simp) (AllReadyH.cons rfl (fun K hK => ?_) AllReadyH.nil)
      go_simp
      go_wp2_with ((go_at_call 18; refine (HEC.out _ hb12).mono ?_; rintro e w13 ⟨v13, rfl, hl13, hb13⟩))
      refine hK.out _ _ (by first | assumption | exact Below.refl _ _) (fun hHeld5 => ?_)
      clear hK K hHeld
      have hHeld := hHeld5
      clear hHeld5
      try simp only [Act.put, List.getElem_toArray, List.getElem_cons_succ, List.getElem_cons_zero, List.setIfInBounds_toArray, List.set_cons_zero, List.set_cons_succ]
      refine wpAnyH_take (i := 8) (v := ?_) rfl (by kernel_rfl) (by kernel_rfl) (by kernel_rfl) (fun _ _ _ h => h) (Or.inl ⟨by rfl, ?_⟩) (by assumption) ?_
      rotate_left
      · (intro w hSw; (try dsimp only at hSw); go_simp; try (with_reducible rfl))
      try simp only [Act.put, List.getElem_toArray, List.getElem_cons_succ, List.getElem_cons_zero, List.setIfInBounds_toArray, List.set_cons_zero, List.set_cons_succ]
      refine wpAnyH_take (i := 9) (v := ?_) rfl (by kernel_rfl) (by kernel_rfl) (by kernel_rfl) (fun _ _ _ h => h) (Or.inl ⟨by rfl, ?_⟩) (by assumption) ?_
      rotate_left
      · (intro w hSw; (try dsimp only at hSw); go_simp; try (with_reducible rfl))
      try simp only [Act.put, List.getElem_toArray, List.getElem_cons_succ, List.getElem_cons_zero, List.setIfInBounds_toArray, List.set_cons_zero, List.set_cons_succ]
      refine wpAnyH_take (i := 10) (v := ?_) rfl (by kernel_rfl) (by kernel_rfl) (by kernel_rfl) (fun _ _ _ h => h) (Or.inl ⟨by rfl, ?_⟩) (by assumption) ?_
      rotate_left
      · (intro w hSw; (try dsimp only at hSw); go_simp; try (with_reducible rfl))
      try simp only [Act.put, List.getElem_toArray, List.getElem_cons_succ, List.getElem_cons_zero, List.setIfInBounds_toArray, List.set_cons_zero, List.set_cons_succ]
      refine wpAnyH_take (i := 11) (v := ?_) rfl (by kernel_rfl) (by kernel_rfl) (by kernel_rfl) (fun _ _ _ h => h) (Or.inl ⟨by rfl, ?_⟩) (by assumption) ?_
      rotate_left
      · (intro w hSw; (try dsimp only at hSw); go_simp; try (with_reducible rfl))
      try simp only [Act.put, List.getElem_toArray, List.getElem_cons_succ, List.getElem_cons_zero, List.setIfInBounds_toArray, List.set_cons_zero, List.set_cons_succ]
      refine wpAnyH_ready (rs := [12]) (by kernel_rfl) (by simp) (AllReadyH.cons rfl (fun K hK => ?_) AllReadyH.nil)
      go_simp
      go_wp2_with ((go_at_call 13; refine (awakeB hb13).mono ?_; rintro e w14 ⟨rfl, hb14⟩))
      refine hK.out _ _ (by first | assumption | exact Below.refl _ _) (fun hHeld5 => ?_)
      clear hK K hHeld
      have hHeld := hHeld5
      clear hHeld5
      try simp only [Act.put, List.getElem_toArray, List.getElem_cons_succ, List.getElem_cons_zero, List.setIfInBounds_toArray, List.set_cons_zero, List.set_cons_succ]
      refine wpAnyH_take (i := 13) (v := ?_) rfl (by kernel_rfl) (by kernel_rfl) (by kernel_rfl) (fun _ _ _ h => h) (Or.inl ⟨by rfl, ?_⟩) (by assumption) ?_
      rotate_left
      · (intro w hSw; (try dsimp only at hSw); go_simp; try (with_reducible rfl))
      try simp only [Act.put, List.getElem_toArray, List.getElem_cons_succ, List.getElem_cons_zero, List.setIfInBounds_toArray, List.set_cons_zero, List.set_cons_succ]
      refine wpAnyH_take (i := 14) (v := ?_) rfl (by kernel_rfl) (by kernel_rfl) (by kernel_rfl) (fun _ _ _ h => h) (Or.inl ⟨by rfl, ?_⟩) (by assumption) ?_
      rotate_left
      · (intro w hSw; (try dsimp only at hSw); go_simp; try (with_reducible rfl))
      try simp only [Act.put, List.getElem_toArray, List.getElem_cons_succ, List.getElem_cons_zero, List.setIfInBounds_toArray, List.set_cons_zero, List.set_cons_succ]
      refine wpAnyH_done (by kernel_rfl) ?_ _
      go_wp2_with fail
      go_ret
      exact ⟨rfl, HWA.out.trans (hb14.mono HWA.out.size)⟩
end Go.Proofs.Ytpgdncpomacghaa
