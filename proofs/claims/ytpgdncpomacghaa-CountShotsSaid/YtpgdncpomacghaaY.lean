import Derived.Test.YtpgdncpomacghaaW
namespace Go.Proofs.Ytpgdncpomacghaa
open Go.RowKit Go.Mx Go.Cnt Go.Shelf

/-- what a meta that is not great keeps to -/
def SmallP (m : MetaM) : Prop := m.t.length ≤ 6000 ∧ m.ss.length ≤ 20 ∧ ∀ i, i < m.ss.length → (m.ss.getD i default).t.length ≤ 6000

set_option maxRecDepth 100000 in
set_option maxHeartbeats 4000000 in
theorem great_any (m : MetaM) (tv sv mv cv : Value) (w : World) (hm : IsMeta w w.heap.size m tv sv mv cv) (hw : MetaW m) :
    Calls Try.prog 11 #[metaV m tv sv mv cv] w (RF (SmallP m) w) := by
  obtain ⟨cl, sz, bk, t, ss, ms, cs⟩ := m
  obtain ⟨ht, hs, hmp, hcs⟩ := hm
  obtain ⟨⟨cl1, cl2⟩, ⟨sz1, sz2⟩, hbk, htw, hsw, hmw⟩ := hw
  simp only at ht hs hmp hcs cl1 cl2 sz1 sz2 hbk htw hsw hmw
  unfold metaV
  simp only
  have hls := fun w' => hs.len w' (ty := 3)
  have hlm := fun w' => hmp.len w' (ty := 3)
  have hlc := fun w' => hcs.len (P := Try.prog) (ty := 3) Try.underlying27 w'
  have hlsle := hs.le
  have hb : Below w.heap.size w (w.alloc (.cells #[.int .i64 cl, .int .i64 sz, .string ⟨bk.toArray⟩, tv, sv, mv, cv] 29)) := (Below.refl _ _).alloc (Nat.le_refl _) _
  have hbx := World.alloc_heap_new w (.cells #[.int .i64 cl, .int .i64 sz, .string ⟨bk.toArray⟩, tv, sv, mv, cv] 29)
  have HB := hid (And.intro hb hbx)
  clear hb hbx
  have HSW := hid hsw
  have HMW := hid hmw
  have HM := hid (And.intro ht (And.intro hs (And.intro hmp hcs)))
  clear htw hsw hmw ht hs hmp hcs
  have hms : (w.alloc (.cells #[.int .i64 cl, .int .i64 sz, .string ⟨bk.toArray⟩, tv, sv, mv, cv] 29)).heap.size = w.heap.size + 1 := World.size_alloc _ _
  have HMS := hid hms
  clear hms
  go_enter Try.func11, Try.ntmps11
  go_wp2_with fail
  refine (great8_any t tv _ ((HM.out.1.below HB.out.1 (Nat.le_refl _)).mono (by rw [HMS.out]; omega))).mono ?_
  rintro e w1 ⟨b1, rfl, hP1, hb1⟩
  have hX1 : w1.heap[w.heap.size]? = some (.cells #[.int .i64 cl, .int .i64 sz, .string ⟨bk.toArray⟩, tv, sv, mv, cv] 29 (0, 0)) := (hb1.block w.heap.size (by rw [HMS.out]; omega)).trans HB.out.2
  have hBel1 : Below w.heap.size w w1 := HB.out.1.trans (hb1.mono (by rw [HMS.out]; omega))
  have hzw1 : w.heap.size < w1.heap.size := (Array.getElem?_eq_some_iff.1 hX1).1
  have HP1 := hid hP1
  clear hb1 HB HMS hP1
  cases b1
  rotate_left
  · go_wp2
    go_ret
    exact RF.mk (fun h => by cases h) hBel1
  have HT := hid (HP1.out rfl)
  have c0 : w1.cell? ⟨w.heap.size, 0, none⟩ = some (.int .i64 cl) := by simp [World.cell?, hX1]
  have c1 : w1.cell? ⟨w.heap.size, 1, none⟩ = some (.int .i64 sz) := by simp [World.cell?, hX1]
  have c2 : w1.cell? ⟨w.heap.size, 2, none⟩ = some (.string ⟨bk.toArray⟩) := by simp [World.cell?, hX1]
  have c3 : w1.cell? ⟨w.heap.size, 3, none⟩ = some tv := by simp [World.cell?, hX1]
  have c4 : w1.cell? ⟨w.heap.size, 4, none⟩ = some sv := by simp [World.cell?, hX1]
  have c5 : w1.cell? ⟨w.heap.size, 5, none⟩ = some mv := by simp [World.cell?, hX1]
  have c6 : w1.cell? ⟨w.heap.size, 6, none⟩ = some cv := by simp [World.cell?, hX1]
  have HX1 := hid hX1
  clear hX1 HP1
  by_cases hl1 : 20 < ss.length
  · go_wp2
    go_ret
    exact RF.mk (fun h => by cases h) hBel1
  by_cases hl2 : 20 < ms.length
  · go_wp2
    go_ret
    exact RF.mk (fun h => by cases h) hBel1
  by_cases hl3 : 20000 < cs.length
  · go_wp2
    go_ret
    exact RF.mk (fun h => by cases h) hBel1
  by_cases hl4 : 1000 < bk.length
  · go_wp2
    go_ret
    exact RF.mk (fun h => by cases h) hBel1
  go_wp2_with fail
  have HSS := hid (show ss.length ≤ 20 by omega)
  clear hl1 hl3 hl4 hzw1
  go_loopw [3] (fun i wr => ∃ k : Nat, k ≤ ss.length ∧ i = .int .i64 k ∧ Below w.heap.size w wr ∧ wr.heap[w.heap.size]? = some (.cells #[.int .i64 cl, .int .i64 sz, .string ⟨bk.toArray⟩, tv, sv, mv, cv] 29 (0, 0)) ∧ Hid (∀ j, j < k → (ss.getD j default).t.length ≤ 6000))
    (fun i _ => ss.length - (intOf i).toNat)
  case atStart => exact ⟨0, by omega, rfl, hBel1, HX1.out, fun j hj => absurd hj (by omega)⟩
  case round =>
    obtain ⟨k, hk, rfl, hbel, hX, HP⟩ := hrel
    clear c0 c1 c2 c3 c4 c5 c6 HX1 hBel1
    have hz := hbel.size
    have hzb : w.heap.size < wr.heap.size := (Array.getElem?_eq_some_iff.1 hX).1
    have c4 : wr.cell? ⟨w.heap.size, 4, none⟩ = some sv := by simp [World.cell?, hX]
    have c5 : wr.cell? ⟨w.heap.size, 5, none⟩ = some mv := by simp [World.cell?, hX]
    have HX := hid hX
    clear hX
    by_cases hlt : k < ss.length
    · have hsr : IsShots wr w.heap.size sv ss := HM.out.2.1.below hbel (Nat.le_refl _)
      obtain ⟨b, o, lv, hbb, hia, d0, d1, d2, htk⟩ := hsr.at k hlt
      have HMM := hid (fun (h : (ss.getD k default).t.length ≤ 6000) (q : Nat) (hq : q < k + 1) => (show (ss.getD q default).t.length ≤ 6000 from if e : q = k then e ▸ h else HP.out q (by omega)))
      obtain ⟨S, hS⟩ : ∃ S, S = ss.getD k default := ⟨_, rfl⟩
      have hnl := (HSW.out k hlt).2.2
      rw [← hS] at d0 htk HMM hnl
      clear hS hsr d1
      obtain ⟨nm, size, tt⟩ := S
      simp only at d0 htk HMM hnl
      have HK := hid htk
      clear htk
      have HD0 := hid d0
      clear d0
      go_wp2_with fail
      refine (great8_any tt lv _ (HK.out.mono (by omega))).mono ?_
      rintro e w3 ⟨b3, rfl, hP3, hb3⟩
      have hX3 : w3.heap[w.heap.size]? = some (.cells #[.int .i64 cl, .int .i64 sz, .string ⟨bk.toArray⟩, tv, sv, mv, cv] 29 (0, 0)) := (hb3.block w.heap.size hzb).trans HX.out
      have hBel3 : Below w.heap.size w w3 := hbel.trans (hb3.mono (by omega))
      have HP3 := hid hP3
      clear c4 c5 d2 hP3
      have c4 : w3.cell? ⟨w.heap.size, 4, none⟩ = some sv := by simp [World.cell?, hX3]
      have d0 : w3.cell? ⟨b, o, none⟩ = some (.string ⟨nm.toArray⟩) := (hb3.cell (p := ⟨b, o, none⟩) (by show b < _; omega)).trans HD0.out
      have HX3 := hid hX3
      clear hX3 hb3
      cases b3
      rotate_left
      · go_wp2
        go_ret
        exact RF.mk (fun h => by cases h) hBel3
      have HQ := hid (HMM.out (HP3.out rfl))
      by_cases hn : 1000 < nm.length
      · go_wp2
        go_ret
        exact RF.mk (fun h => by cases h) hBel3
      go_wp2
      go_roundw
      case rel => exact ⟨k + 1, by omega, by go_num, hBel3, HX3.out, HQ⟩
      case measure => simp [intOf]; omega
    · obtain rfl : k = ss.length := by omega
      have HSP := hid (show SmallP ⟨cl, sz, bk, t, ss, ms, cs⟩ from ⟨HT.out, HSS.out, fun j hj => HP.out j hj⟩)
      clear hlt HP
      obtain ⟨wB, rfl⟩ : ∃ wB : World, wB = wr := ⟨_, rfl⟩
      go_wp2_with fail
      go_loopw [4] (fun i wq => ∃ k : Nat, k ≤ ms.length ∧ i = .int .i64 k ∧ Below w.heap.size w wq ∧ wq.heap[w.heap.size]? = some (.cells #[.int .i64 cl, .int .i64 sz, .string ⟨bk.toArray⟩, tv, sv, mv, cv] 29 (0, 0)))
        (fun i _ => ms.length - (intOf i).toNat)
      case atStart => exact ⟨0, by omega, rfl, hbel, HX.out⟩
      case round =>
        clear hbel HX c4 c5 hz hzb hk
        obtain ⟨k, hk, rfl, hbel, hX⟩ := hrel
        have hz := hbel.size
        have c5 : wr.cell? ⟨w.heap.size, 5, none⟩ = some mv := by simp [World.cell?, hX]
        have HX := hid hX
        clear hX
        by_cases hlt : k < ms.length
        · have hmr : IsMaps wr w.heap.size mv ms := HM.out.2.2.1.below hbel (Nat.le_refl _)
          obtain ⟨b, o, lv, hbb, hia, d0, d1, d2, htk⟩ := hmr.at k hlt
          have hnl := HMW.out k hlt
          obtain ⟨S, hS⟩ : ∃ S, S = ms.getD k default := ⟨_, rfl⟩
          rw [← hS] at d0 htk hnl
          clear hS hmr d1
          obtain ⟨nm, on, l⟩ := S
          simp only at d0 htk hnl
          have hll := fun w' => htk.len w' (ty := 3)
          have hle := htk.le
          clear htk
          by_cases hn : 500 < l.length
          · go_wp2
            go_ret
            exact RF.mk (fun h => by cases h) hbel
          by_cases hn : 1000 < nm.length
          · go_wp2
            go_ret
            exact RF.mk (fun h => by cases h) hbel
          go_wp2
          go_roundw
          case rel => exact ⟨k + 1, by omega, by go_num, hbel, HX.out⟩
          case measure => simp [intOf]; omega
        · obtain rfl : k = ms.length := by omega
          go_wp2
          go_ret
          exact RF.mk (fun _ => HSP.out) hbel
end Go.Proofs.Ytpgdncpomacghaa
