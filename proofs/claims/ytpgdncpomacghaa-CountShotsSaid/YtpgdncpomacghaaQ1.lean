import Derived.Test.YtpgdncpomacghaaZ2
import Derived.Test.YtpgdncpomacghaaL2
namespace Go.Proofs.Ytpgdncpomacghaa
open Go.RowKit Go.Mx Go.Cnt Go.Shelf
/-- a table that is not great -/
def TabS (t : Tab) : Prop := t.length ≤ 6000 ∧ ∀ j, j < t.length → (t.getD j []).length ≤ 6000
/-- what a meta that is not great keeps to -/
structure SmallX (m : MetaM) : Prop where
  t : TabS m.t
  sl : m.ss.length ≤ 20
  ml : m.ms.length ≤ 20
  cl : m.cs.length ≤ 20000
  ss : ∀ j, j < m.ss.length → TabS (m.ss.getD j default).t
  ms : ∀ j, j < m.ms.length → (m.ms.getD j default).l.length ≤ 500
theorem SmallX.p {m : MetaM} (h : SmallX m) : SmallP m := ⟨h.t.1, h.sl, fun i hi => (h.ss i hi).1⟩
set_option maxRecDepth 100000 in
set_option maxHeartbeats 1000000 in
theorem great8x_any (t : Tab) (tv : Value) (w : World) (ht : IsTab w w.heap.size tv t) : Calls Try.prog 22 #[.agg #[tv]] w (RF (TabS t) w) := by
  have hlen := fun w' => ht.len w' (ty := 3)
  have hle := ht.le
  have hb : Below w.heap.size w (w.alloc (.cells #[tv] 24)) := (Below.refl _ _).alloc (Nat.le_refl _) _
  have HB := hid hb
  clear hb
  go_enter Try.func22, Try.ntmps22
  go_wp2_with fail
  go_loop [3, 4] (fun n i => ∃ (N k : Nat), k ≤ t.length ∧ k ≤ N ∧ N ≤ 12001 ∧ i = .int .i64 k ∧ n = .int .i64 N ∧ Hid (N ≤ 6000 → ∀ j, j < k → (t.getD j []).length ≤ 6000))
    (fun _ i => t.length - (intOf i).toNat)
  case atStart => exact ⟨0, 0, by omega, by omega, by omega, rfl, rfl, fun _ j hj => absurd hj (by omega)⟩
  case round =>
    obtain ⟨N, k, hk, hkN, hN, rfl, rfl, HL⟩ := hrel
    by_cases hlt : k < t.length
    · by_cases hN6 : N ≤ 6000
      · obtain ⟨b, o, lv, hbb, hia, hc, hlv⟩ := ht.leaf k hlt
        have hll := fun w' => hlv.len w' (ty := 3)
        have hle2 := hlv.le
        obtain ⟨lf, hlf⟩ : ∃ lf, lf = t.getD k [] := ⟨_, rfl⟩
        rw [← hlf] at hll hle2
        have HLF := hid hlf
        clear hlf hlv
        obtain ⟨m, hm⟩ : ∃ m : Nat, (m : Int) = (if (6000 : Int) < (lf.length : Int) then (6000 : Int) else (lf.length : Int)) ∧ m ≤ 6000 := by
          by_cases h : (6000 : Int) < (lf.length : Int)
          · exact ⟨6000, by rw [if_pos h]; rfl, by omega⟩
          · exact ⟨lf.length, by rw [if_neg h], by omega⟩
        obtain ⟨hm1, hm2⟩ := hm
        have hm3 := hm1.symm
        have HN : Hid (N + 1 + m ≤ 6000 → ∀ j, j < k + 1 → (t.getD j []).length ≤ 6000) := hid (fun h j hj => by
          by_cases e : j = k
          · subst e
            rw [← HLF.out]
            split at hm1 <;> omega
          · exact HL.out hN6 j (by omega))
        clear hm1
        go_wp2_with fail
        go_round
        case rel => exact ⟨N + 1 + m, k + 1, by omega, by omega, by omega, by go_num, by go_num, HN⟩
        case measure => simp [intOf]; omega
      · go_wp2_with fail
        go_ret
        exact RF.mk (fun h => absurd h (by simp <;> omega)) HB.out
    · obtain rfl : k = t.length := by omega
      go_wp2_with fail
      go_ret
      exact RF.mk (fun h => ⟨by simp at h <;> omega, fun j hj => HL.out (by simp at h <;> omega) j hj⟩) HB.out

set_option maxRecDepth 100000 in
set_option maxHeartbeats 4000000 in
theorem greatx_any (m : MetaM) (tv sv mv cv : Value) (w : World) (hm : IsMeta w w.heap.size m tv sv mv cv) (hw : MetaW m) :
    Calls Try.prog 11 #[metaV m tv sv mv cv] w (RF (SmallX m) w) := by
  obtain ⟨cl, sz, bk, t, ss, ms, cs⟩ := m
  obtain ⟨ht, hs, hmp, hcs⟩ := hm
  obtain ⟨⟨cl1, cl2⟩, ⟨sz1, sz2⟩, hbk, htw, hsw, hmw⟩ := hw
  simp only at ht hs hmp hcs cl1 cl2 sz1 sz2 hbk htw hsw hmw
  unfold metaV
  simp only
  have hls := fun w' => hs.len w' (ty := 3)
  have hlm := fun w' => hmp.len w' (ty := 3)
  have hlc := fun w' => hcs.len (P := Try.prog) (ty := 3) Try.underlying27 w'
  have hlsle := hs.le
  have hb : Below w.heap.size w (w.alloc (.cells #[.int .i64 cl, .int .i64 sz, .string ⟨bk.toArray⟩, tv, sv, mv, cv] 29)) := (Below.refl _ _).alloc (Nat.le_refl _) _
  have hbx := World.alloc_heap_new w (.cells #[.int .i64 cl, .int .i64 sz, .string ⟨bk.toArray⟩, tv, sv, mv, cv] 29)
  have HB := hid (And.intro hb hbx)
  clear hb hbx
  have HSW := hid hsw
  have HMW := hid hmw
  have HM := hid (And.intro ht (And.intro hs (And.intro hmp hcs)))
  clear htw hsw hmw ht hs hmp hcs
  have hms : (w.alloc (.cells #[.int .i64 cl, .int .i64 sz, .string ⟨bk.toArray⟩, tv, sv, mv, cv] 29)).heap.size = w.heap.size + 1 := World.size_alloc _ _
  have HMS := hid hms
  clear hms
  go_enter Try.func11, Try.ntmps11
  go_wp2_with fail
  refine (great8x_any t tv _ ((HM.out.1.below HB.out.1 (Nat.le_refl _)).mono (by rw [HMS.out]; omega))).mono ?_
  rintro e w1 ⟨b1, rfl, hP1, hb1⟩
  have hX1 : w1.heap[w.heap.size]? = some (.cells #[.int .i64 cl, .int .i64 sz, .string ⟨bk.toArray⟩, tv, sv, mv, cv] 29 (0, 0)) := (hb1.block w.heap.size (by rw [HMS.out]; omega)).trans HB.out.2
  have hBel1 : Below w.heap.size w w1 := HB.out.1.trans (hb1.mono (by rw [HMS.out]; omega))
  have hzw1 : w.heap.size < w1.heap.size := (Array.getElem?_eq_some_iff.1 hX1).1
  have HP1 := hid hP1
  clear hb1 HB HMS hP1
  cases b1
  rotate_left
  · go_wp2
    go_ret
    exact RF.mk (fun h => by cases h) hBel1
  have HT := hid (HP1.out rfl)
  have c0 : w1.cell? ⟨w.heap.size, 0, none⟩ = some (.int .i64 cl) := by simp [World.cell?, hX1]
  have c1 : w1.cell? ⟨w.heap.size, 1, none⟩ = some (.int .i64 sz) := by simp [World.cell?, hX1]
  have c2 : w1.cell? ⟨w.heap.size, 2, none⟩ = some (.string ⟨bk.toArray⟩) := by simp [World.cell?, hX1]
  have c3 : w1.cell? ⟨w.heap.size, 3, none⟩ = some tv := by simp [World.cell?, hX1]
  have c4 : w1.cell? ⟨w.heap.size, 4, none⟩ = some sv := by simp [World.cell?, hX1]
  have c5 : w1.cell? ⟨w.heap.size, 5, none⟩ = some mv := by simp [World.cell?, hX1]
  have c6 : w1.cell? ⟨w.heap.size, 6, none⟩ = some cv := by simp [World.cell?, hX1]
  have HX1 := hid hX1
  clear hX1 HP1
  by_cases hl1 : 20 < ss.length
  · go_wp2
    go_ret
    exact RF.mk (fun h => by cases h) hBel1
  by_cases hl2 : 20 < ms.length
  · go_wp2
    go_ret
    exact RF.mk (fun h => by cases h) hBel1
  by_cases hl3 : 20000 < cs.length
  · go_wp2
    go_ret
    exact RF.mk (fun h => by cases h) hBel1
  by_cases hl4 : 1000 < bk.length
  · go_wp2
    go_ret
    exact RF.mk (fun h => by cases h) hBel1
  go_wp2_with fail
  have HSS := hid (And.intro (show ss.length ≤ 20 by omega) (And.intro (show ms.length ≤ 20 by omega) (show cs.length ≤ 20000 by omega)))
  clear hl1 hl3 hl4 hzw1
  go_loopw [3] (fun i wr => ∃ k : Nat, k ≤ ss.length ∧ i = .int .i64 k ∧ Below w.heap.size w wr ∧ wr.heap[w.heap.size]? = some (.cells #[.int .i64 cl, .int .i64 sz, .string ⟨bk.toArray⟩, tv, sv, mv, cv] 29 (0, 0)) ∧ Hid (∀ j, j < k → TabS (ss.getD j default).t))
    (fun i _ => ss.length - (intOf i).toNat)
  case atStart => exact ⟨0, by omega, rfl, hBel1, HX1.out, fun j hj => absurd hj (by omega)⟩
  case round =>
    obtain ⟨k, hk, rfl, hbel, hX, HP⟩ := hrel
    clear c0 c1 c2 c3 c4 c5 c6 HX1 hBel1
    have hz := hbel.size
    have hzb : w.heap.size < wr.heap.size := (Array.getElem?_eq_some_iff.1 hX).1
    have c4 : wr.cell? ⟨w.heap.size, 4, none⟩ = some sv := by simp [World.cell?, hX]
    have c5 : wr.cell? ⟨w.heap.size, 5, none⟩ = some mv := by simp [World.cell?, hX]
    have HX := hid hX
    clear hX
    by_cases hlt : k < ss.length
    · have hsr : IsShots wr w.heap.size sv ss := HM.out.2.1.below hbel (Nat.le_refl _)
      obtain ⟨b, o, lv, hbb, hia, d0, d1, d2, htk⟩ := hsr.at k hlt
      have HMM := hid (fun (h : TabS (ss.getD k default).t) (q : Nat) (hq : q < k + 1) => (show TabS (ss.getD q default).t from if e : q = k then e ▸ h else HP.out q (by omega)))
      obtain ⟨S, hS⟩ : ∃ S, S = ss.getD k default := ⟨_, rfl⟩
      have hnl := (HSW.out k hlt).2.2
      rw [← hS] at d0 htk HMM hnl
      clear hS hsr d1
      obtain ⟨nm, size, tt⟩ := S
      simp only at d0 htk HMM hnl
      have HK := hid htk
      clear htk
      have HD0 := hid d0
      clear d0
      go_wp2_with fail
      refine (great8x_any tt lv _ (HK.out.mono (by omega))).mono ?_
      rintro e w3 ⟨b3, rfl, hP3, hb3⟩
      have hX3 : w3.heap[w.heap.size]? = some (.cells #[.int .i64 cl, .int .i64 sz, .string ⟨bk.toArray⟩, tv, sv, mv, cv] 29 (0, 0)) := (hb3.block w.heap.size hzb).trans HX.out
      have hBel3 : Below w.heap.size w w3 := hbel.trans (hb3.mono (by omega))
      have HP3 := hid hP3
      clear c4 c5 d2 hP3
      have c4 : w3.cell? ⟨w.heap.size, 4, none⟩ = some sv := by simp [World.cell?, hX3]
      have d0 : w3.cell? ⟨b, o, none⟩ = some (.string ⟨nm.toArray⟩) := (hb3.cell (p := ⟨b, o, none⟩) (by show b < _; omega)).trans HD0.out
      have HX3 := hid hX3
      clear hX3 hb3
      cases b3
      rotate_left
      · go_wp2
        go_ret
        exact RF.mk (fun h => by cases h) hBel3
      have HQ := hid (HMM.out (HP3.out rfl))
      by_cases hn : 1000 < nm.length
      · go_wp2
        go_ret
        exact RF.mk (fun h => by cases h) hBel3
      go_wp2
      go_roundw
      case rel => exact ⟨k + 1, by omega, by go_num, hBel3, HX3.out, HQ⟩
      case measure => simp [intOf]; omega
    · obtain rfl : k = ss.length := by omega
      have HSP := hid (And.intro HT.out (And.intro HSS.out (fun j (hj : j < ss.length) => HP.out j hj)))
      clear hlt HP
      obtain ⟨wB, rfl⟩ : ∃ wB : World, wB = wr := ⟨_, rfl⟩
      go_wp2_with fail
      go_loopw [4] (fun i wq => ∃ k : Nat, k ≤ ms.length ∧ i = .int .i64 k ∧ Below w.heap.size w wq ∧ wq.heap[w.heap.size]? = some (.cells #[.int .i64 cl, .int .i64 sz, .string ⟨bk.toArray⟩, tv, sv, mv, cv] 29 (0, 0)) ∧ Hid (∀ j, j < k → (ms.getD j default).l.length ≤ 500))
        (fun i _ => ms.length - (intOf i).toNat)
      case atStart => exact ⟨0, by omega, rfl, hbel, HX.out, fun j hj => absurd hj (by omega)⟩
      case round =>
        clear hbel HX c4 c5 hz hzb hk
        obtain ⟨k, hk, rfl, hbel, hX, HML⟩ := hrel
        have hz := hbel.size
        have c5 : wr.cell? ⟨w.heap.size, 5, none⟩ = some mv := by simp [World.cell?, hX]
        have HX := hid hX
        clear hX
        by_cases hlt : k < ms.length
        · have hmr : IsMaps wr w.heap.size mv ms := HM.out.2.2.1.below hbel (Nat.le_refl _)
          obtain ⟨b, o, lv, hbb, hia, d0, d1, d2, htk⟩ := hmr.at k hlt
          have hnl := HMW.out k hlt
          have HMQ := hid (fun (h : (ms.getD k default).l.length ≤ 500) (q : Nat) (hq : q < k + 1) => (show (ms.getD q default).l.length ≤ 500 from if e : q = k then e ▸ h else HML.out q (by omega)))
          obtain ⟨S, hS⟩ : ∃ S, S = ms.getD k default := ⟨_, rfl⟩
          rw [← hS] at d0 htk hnl HMQ
          clear hS hmr d1
          obtain ⟨nm, on, l⟩ := S
          simp only at d0 htk hnl HMQ
          have hll := fun w' => htk.len w' (ty := 3)
          have hle := htk.le
          clear htk
          by_cases hn : 500 < l.length
          · go_wp2
            go_ret
            exact RF.mk (fun h => by cases h) hbel
          have HMR := hid (HMQ.out (by omega))
          by_cases hn : 1000 < nm.length
          · go_wp2
            go_ret
            exact RF.mk (fun h => by cases h) hbel
          go_wp2
          go_roundw
          case rel => exact ⟨k + 1, by omega, by go_num, hbel, HX.out, HMR⟩
          case measure => simp [intOf]; omega
        · obtain rfl : k = ms.length := by omega
          go_wp2
          go_ret
          exact RF.mk (fun _ => ⟨HSP.out.1, HSP.out.2.1.1, HSP.out.2.1.2.1, HSP.out.2.1.2.2, HSP.out.2.2, HML.out⟩) hbel
end Go.Proofs.Ytpgdncpomacghaa
