import Derived.Test.YtpgdncpomacghaaV
namespace Go.Proofs.Ytpgdncpomacghaa
open Go.RowKit Go.Mx Go.Cnt Go.Shelf

/-- what a right meta's tables hold -/
def MetaP (m : MetaM) : Prop := TabP m.t ∧ ∀ i, i < m.ss.length → TabP (m.ss.getD i default).t

/-- its numbers are numbers of their kinds -/
structure MetaW (m : MetaM) : Prop where
  cl : -9223372036854775808 ≤ m.cl ∧ m.cl ≤ 9223372036854775807
  sz : -9223372036854775808 ≤ m.sz ∧ m.sz ≤ 9223372036854775807
  bk : m.bk.length ≤ 9223372036854775807
  t : TabW m.t
  ss : ∀ i, i < m.ss.length → TabW (m.ss.getD i default).t ∧ (-9223372036854775808 ≤ (m.ss.getD i default).size ∧ (m.ss.getD i default).size ≤ 9223372036854775807) ∧ (m.ss.getD i default).name.length ≤ 9223372036854775807
  ms : ∀ i, i < m.ms.length → (m.ms.getD i default).name.length ≤ 9223372036854775807

structure IsMeta (w : World) (B : Nat) (m : MetaM) (tv sv mv cv : Value) : Prop where
  t : IsTab w B tv m.t
  ss : IsShots w B sv m.ss
  ms : IsMaps w B mv m.ms
  cs : SlI w B cv m.cs

theorem IsMeta.below {w w' : World} {B B' : Nat} {m : MetaM} {tv sv mv cv : Value} (h : IsMeta w B m tv sv mv cv) (hb : Below B' w w') (hB : B ≤ B') : IsMeta w' B m tv sv mv cv :=
  ⟨h.t.below hb hB, h.ss.below hb hB, h.ms.below hb hB, h.cs.below hb hB⟩
theorem IsMeta.mono {w : World} {B B' : Nat} {m : MetaM} {tv sv mv cv : Value} (h : IsMeta w B m tv sv mv cv) (hB : B ≤ B') : IsMeta w B' m tv sv mv cv :=
  ⟨h.t.mono hB, h.ss.mono hB, h.ms.mono hB, h.cs.mono hB⟩

def metaV (m : MetaM) (tv sv mv cv : Value) : Value := .agg #[.int .i64 m.cl, .int .i64 m.sz, .string ⟨m.bk.toArray⟩, tv, sv, mv, cv]

theorem shr_ok (n c : Int) (h1 : -9223372036854775808 ≤ n) (h2 : n ≤ 9223372036854775807) : -9223372036854775808 ≤ n / 2 ^ c.toNat ∧ n / 2 ^ c.toNat ≤ 9223372036854775807 := by
  have hp : (0 : Int) < 2 ^ c.toNat := Int.pow_pos (by omega)
  constructor
  · rw [Int.le_ediv_iff_mul_le hp]
    have : (-9223372036854775808 : Int) * 2 ^ c.toNat ≤ -9223372036854775808 * 1 := Int.mul_le_mul_of_nonpos_left (by omega) (by omega)
    omega
  · have : n / 2 ^ c.toNat < 9223372036854775808 := by
      rw [Int.ediv_lt_iff_lt_mul hp]
      have : (9223372036854775808 : Int) * 1 ≤ 9223372036854775808 * 2 ^ c.toNat := Int.mul_le_mul_of_nonneg_left (by omega) (by omega)
      omega
    omega

set_option maxRecDepth 100000 in
set_option maxHeartbeats 16000000 in
theorem right_any (m : MetaM) (tv sv mv cv : Value) (w : World) (hm : IsMeta w w.heap.size m tv sv mv cv) (hw : MetaW m) :
    Calls Try.prog 12 #[metaV m tv sv mv cv] w (RB (MetaP m) w) := by
  obtain ⟨cl, sz, bk, t, ss, ms, cs⟩ := m
  obtain ⟨ht, hs, hmp, hcs⟩ := hm
  obtain ⟨⟨cl1, cl2⟩, ⟨sz1, sz2⟩, hbk, htw, hsw, hmw⟩ := hw
  simp only at ht hs hmp hcs cl1 cl2 sz1 sz2 hbk htw hsw hmw
  unfold metaV
  simp only
  have hls := fun w' => hs.len w' (ty := 3)
  have hlm := fun w' => hmp.len w' (ty := 3)
  have hlc := fun w' => hcs.len (P := Try.prog) (ty := 3) Try.underlying27 w'
  have hb : Below w.heap.size w (w.alloc (.cells #[.int .i64 cl, .int .i64 sz, .string ⟨bk.toArray⟩, tv, sv, mv, cv] 29)) := (Below.refl _ _).alloc (Nat.le_refl _) _
  have hbx := World.alloc_heap_new w (.cells #[.int .i64 cl, .int .i64 sz, .string ⟨bk.toArray⟩, tv, sv, mv, cv] 29)
  have HB := hid (And.intro hb hbx)
  clear hb hbx
  by_cases h1 : cl < 0
  · go_enter Try.func12, Try.ntmps12
    go_wp2
    go_ret
    exact RB.mk (fun h => by cases h) HB.out.1
  by_cases h2 : 6 < cl
  · go_enter Try.func12, Try.ntmps12
    go_wp2
    go_ret
    exact RB.mk (fun h => by cases h) HB.out.1
  have HTW := hid htw
  have HSW := hid hsw
  have HMW := hid hmw
  have HM := hid (And.intro ht (And.intro hs (And.intro hmp hcs)))
  clear htw hsw hmw ht hs hmp hcs
  have hms : (w.alloc (.cells #[.int .i64 cl, .int .i64 sz, .string ⟨bk.toArray⟩, tv, sv, mv, cv] 29)).heap.size = w.heap.size + 1 := World.size_alloc _ _
  have HMS := hid hms
  clear hms
  go_enter Try.func12, Try.ntmps12
  go_wp2_with fail
  refine (sized_any sz cl _ ⟨by omega, by omega⟩ ⟨sz1, sz2⟩).mono ?_
  rintro e w1 ⟨b1, rfl, _, hb1⟩
  have hbk1 := hb1.block w.heap.size (by rw [HMS.out]; omega)
  have hX1 : w1.heap[w.heap.size]? = some (.cells #[.int .i64 cl, .int .i64 sz, .string ⟨bk.toArray⟩, tv, sv, mv, cv] 29 (0, 0)) := hbk1.trans HB.out.2
  have hBel1 : Below w.heap.size w w1 := HB.out.1.trans (hb1.mono (by rw [HMS.out]; omega))
  have hzw1 : w.heap.size < w1.heap.size := (Array.getElem?_eq_some_iff.1 hX1).1
  clear hbk1 hb1 HB HMS
  cases b1
  · go_wp2
    go_ret
    exact RB.mk (fun h => by cases h) hBel1
  have c0 : w1.cell? ⟨w.heap.size, 0, none⟩ = some (.int .i64 cl) := by simp [World.cell?, hX1]
  have c1 : w1.cell? ⟨w.heap.size, 1, none⟩ = some (.int .i64 sz) := by simp [World.cell?, hX1]
  have c2 : w1.cell? ⟨w.heap.size, 2, none⟩ = some (.string ⟨bk.toArray⟩) := by simp [World.cell?, hX1]
  have c3 : w1.cell? ⟨w.heap.size, 3, none⟩ = some tv := by simp [World.cell?, hX1]
  have c4 : w1.cell? ⟨w.heap.size, 4, none⟩ = some sv := by simp [World.cell?, hX1]
  have c5 : w1.cell? ⟨w.heap.size, 5, none⟩ = some mv := by simp [World.cell?, hX1]
  have c6 : w1.cell? ⟨w.heap.size, 6, none⟩ = some cv := by simp [World.cell?, hX1]
  have HX1 := hid hX1
  clear hX1
  by_cases hbe : bk = []
  · subst hbe
    by_cases hl1 : 8 < ss.length
    · go_wp2
      go_ret
      exact RB.mk (fun h => by cases h) hBel1
    by_cases hl2 : 8 < ms.length
    · go_wp2
      go_ret
      exact RB.mk (fun h => by cases h) hBel1
    by_cases hl3 : 65536 < cs.length
    · go_wp2
      go_ret
      exact RB.mk (fun h => by cases h) hBel1
    go_wp2_with fail
    refine (tableRight_any t tv _ _ _ ((HM.out.1.below hBel1 (Nat.le_refl _)).mono (Nat.le_of_lt hzw1)) HTW.out (shr_ok sz cl sz1 sz2) ⟨cl1, cl2⟩).mono ?_
    rintro e w2 ⟨b2, rfl, hPT, hb2⟩
    have hX2 : w2.heap[w.heap.size]? = some (.cells #[.int .i64 cl, .int .i64 sz, .string ⟨#[]⟩, tv, sv, mv, cv] 29 (0, 0)) := (hb2.block w.heap.size hzw1).trans HX1.out
    have hBel2 : Below w.heap.size w w2 := hBel1.trans (hb2.mono (Nat.le_of_lt hzw1))
    clear c0 c1 c2 c3 c4 c5 c6 HX1 hb2 hBel1 hl1 hl2 hl3
    have HPT := hid hPT
    have HX2 := hid hX2
    clear hPT hX2
    cases b2
    · go_wp2
      go_ret
      exact RB.mk (fun h => by cases h) hBel2
    have HTP := hid (HPT.out rfl)
    clear HPT
    go_wp2_with fail
    clear hzw1
    go_loopw [3] (fun i wr => ∃ k : Nat, k ≤ ss.length ∧ i = .int .i64 k ∧ Below w.heap.size w wr ∧ wr.heap[w.heap.size]? = some (.cells #[.int .i64 cl, .int .i64 sz, .string ⟨#[]⟩, tv, sv, mv, cv] 29 (0, 0)) ∧ Hid (∀ j, j < k → TabP (ss.getD j default).t))
      (fun i _ => ss.length - (intOf i).toNat)
    case atStart => exact ⟨0, by omega, rfl, hBel2, HX2.out, fun j hj => absurd hj (by omega)⟩
    case round =>
      obtain ⟨k, hk, rfl, hbel, hX, HP⟩ := hrel
      have hz := hbel.size
      have hzb : w.heap.size < wr.heap.size := (Array.getElem?_eq_some_iff.1 hX).1
      have c0 : wr.cell? ⟨w.heap.size, 0, none⟩ = some (.int .i64 cl) := by simp [World.cell?, hX]
      have c1 : wr.cell? ⟨w.heap.size, 1, none⟩ = some (.int .i64 sz) := by simp [World.cell?, hX]
      have c2 : wr.cell? ⟨w.heap.size, 2, none⟩ = some (.string ⟨#[]⟩) := by simp [World.cell?, hX]
      have c3 : wr.cell? ⟨w.heap.size, 3, none⟩ = some tv := by simp [World.cell?, hX]
      have c4 : wr.cell? ⟨w.heap.size, 4, none⟩ = some sv := by simp [World.cell?, hX]
      have c5 : wr.cell? ⟨w.heap.size, 5, none⟩ = some mv := by simp [World.cell?, hX]
      have c6 : wr.cell? ⟨w.heap.size, 6, none⟩ = some cv := by simp [World.cell?, hX]
      have HX := hid hX
      clear hX HX2 hBel2
      by_cases hlt : k < ss.length
      · have hsr : IsShots wr w.heap.size sv ss := HM.out.2.1.below hbel (Nat.le_refl _)
        obtain ⟨b, o, lv, hbb, hia, d0, d1, d2, htk⟩ := hsr.at k hlt
        obtain ⟨htwk, ⟨hk1, hk2⟩, hnl⟩ := HSW.out k hlt
        have HMM := hid (fun (h : TabP (ss.getD k default).t) (q : Nat) (hq : q < k + 1) => (show TabP (ss.getD q default).t from if e : q = k then e ▸ h else HP.out q (by omega)))
        obtain ⟨S, hS⟩ : ∃ S, S = ss.getD k default := ⟨_, rfl⟩
        rw [← hS] at d0 d1 htk htwk hk1 hk2 hnl HMM
        clear hS hsr
        obtain ⟨nm, size, tt⟩ := S
        simp only at d0 d1 d2 htk htwk hk1 hk2 hnl HMM
        obtain ⟨oa, nn, cap, hlv⟩ : ∃ oa nn cap, lv = Value.slice oa nn cap := by
          obtain ⟨_, _, ⟨oa, cap, h, _⟩, _⟩ := htk
          exact ⟨oa, _, cap, h⟩
        rw [hlv] at d2
        have HNA := hid (fun w' => name_any nm w' hnl)
        have HTA := hid (And.intro htk htwk)
        have hbA : Below wr.heap.size wr (wr.alloc (.cells #[.string ⟨nm.toArray⟩, .int .i64 size, (.slice oa nn cap)] 53)) := (Below.refl _ _).alloc (Nat.le_refl _) _
        have hzA := hbA.size
        have hkA := World.alloc_heap_new wr (.cells #[.string ⟨nm.toArray⟩, .int .i64 size, (.slice oa nn cap)] 53)
        have HBA := hid (And.intro hbA hkA)
        have hms : (wr.alloc (.cells #[.string ⟨nm.toArray⟩, .int .i64 size, (.slice oa nn cap)] 53)).heap.size = wr.heap.size + 1 := World.size_alloc _ _
        have HMS := hid hms
        clear hbA hkA hms htk htwk hnl
        go_wp2_with fail
        refine (HNA.out _).mono ?_
        rintro e w3 ⟨b3, rfl, _, hb3⟩
        have hbE3 : Below wr.heap.size wr w3 := HBA.out.1.trans (hb3.mono hzA)
        have hk3 : w3.heap[wr.heap.size]? = some (.cells #[.string ⟨nm.toArray⟩, .int .i64 size, (.slice oa nn cap)] 53 (0, 0)) := (hb3.block wr.heap.size (by rw [HMS.out]; omega)).trans HBA.out.2
        rw [← hlv] at hk3
        clear hlv
        have hX3 : w3.heap[w.heap.size]? = some (.cells #[.int .i64 cl, .int .i64 sz, .string ⟨#[]⟩, tv, sv, mv, cv] 29 (0, 0)) := (hbE3.block w.heap.size hzb).trans HX.out
        have hz3 : wr.heap.size < w3.heap.size := (Array.getElem?_eq_some_iff.1 hk3).1
        clear c0 c1 c2 c3 c4 c5 c6 d0 d1 d2 hia HNA HBA hb3 HMS hzA
        have c0 : w3.cell? ⟨w.heap.size, 0, none⟩ = some (.int .i64 cl) := by simp [World.cell?, hX3]
        have c1 : w3.cell? ⟨w.heap.size, 1, none⟩ = some (.int .i64 sz) := by simp [World.cell?, hX3]
        have c2 : w3.cell? ⟨w.heap.size, 2, none⟩ = some (.string ⟨#[]⟩) := by simp [World.cell?, hX3]
        have c3 : w3.cell? ⟨w.heap.size, 3, none⟩ = some tv := by simp [World.cell?, hX3]
        have c4 : w3.cell? ⟨w.heap.size, 4, none⟩ = some sv := by simp [World.cell?, hX3]
        have c5 : w3.cell? ⟨w.heap.size, 5, none⟩ = some mv := by simp [World.cell?, hX3]
        have c6 : w3.cell? ⟨w.heap.size, 6, none⟩ = some cv := by simp [World.cell?, hX3]
        have q0 : w3.cell? ⟨wr.heap.size, 0, none⟩ = some (.string ⟨nm.toArray⟩) := by simp [World.cell?, hk3]
        have q1 : w3.cell? ⟨wr.heap.size, 1, none⟩ = some (.int .i64 size) := by simp [World.cell?, hk3]
        have q2 : w3.cell? ⟨wr.heap.size, 2, none⟩ = some lv := by simp [World.cell?, hk3]
        have HX3 := hid hX3
        have HK3 := hid hk3
        have hBel3 : Below w.heap.size w w3 := hbel.trans (hbE3.mono hz)
        clear hX3 hk3
        cases b3
        · go_wp2
          go_ret
          exact RB.mk (fun h => by cases h) hBel3
        go_wp2_with fail
        refine (shot_any _ _ _ _ _ _ _ ss _ _ ((HM.out.2.1.below hBel3 (Nat.le_refl _)).mono (by omega))).mono ?_
        rintro e w4 ⟨n4, rfl, hb4⟩
        have hk4 : w4.heap[wr.heap.size]? = some (.cells #[.string ⟨nm.toArray⟩, .int .i64 size, lv] 53 (0, 0)) := (hb4.block wr.heap.size hz3).trans HK3.out
        have hX4 : w4.heap[w.heap.size]? = some (.cells #[.int .i64 cl, .int .i64 sz, .string ⟨#[]⟩, tv, sv, mv, cv] 29 (0, 0)) := (hb4.block w.heap.size (by omega)).trans HX3.out
        have hBel4 : Below w.heap.size w w4 := hBel3.trans (hb4.mono (by omega))
        have hbE4 : Below wr.heap.size wr w4 := hbE3.trans (hb4.mono (by omega))
        have hz4 : wr.heap.size < w4.heap.size := (Array.getElem?_eq_some_iff.1 hk4).1
        clear c0 c1 c2 c3 c4 c5 c6 q0 q1 q2 HX3 HK3 hBel3 hbE3 hb4 hz3
        have c0 : w4.cell? ⟨w.heap.size, 0, none⟩ = some (.int .i64 cl) := by simp [World.cell?, hX4]
        have c1 : w4.cell? ⟨w.heap.size, 1, none⟩ = some (.int .i64 sz) := by simp [World.cell?, hX4]
        have c2 : w4.cell? ⟨w.heap.size, 2, none⟩ = some (.string ⟨#[]⟩) := by simp [World.cell?, hX4]
        have c3 : w4.cell? ⟨w.heap.size, 3, none⟩ = some tv := by simp [World.cell?, hX4]
        have c4 : w4.cell? ⟨w.heap.size, 4, none⟩ = some sv := by simp [World.cell?, hX4]
        have c5 : w4.cell? ⟨w.heap.size, 5, none⟩ = some mv := by simp [World.cell?, hX4]
        have c6 : w4.cell? ⟨w.heap.size, 6, none⟩ = some cv := by simp [World.cell?, hX4]
        have q1 : w4.cell? ⟨wr.heap.size, 1, none⟩ = some (.int .i64 size) := by simp [World.cell?, hk4]
        have q2 : w4.cell? ⟨wr.heap.size, 2, none⟩ = some lv := by simp [World.cell?, hk4]
        have HX4 := hid hX4
        have HK4 := hid hk4
        clear hX4 hk4
        cases hne : (n4 != (k : Int))
        rotate_left
        · go_wp2
          go_ret
          exact RB.mk (fun h => by cases h) hBel4
        go_wp2_with fail
        refine (sized_any size cl _ ⟨by omega, by omega⟩ ⟨hk1, hk2⟩).mono ?_
        rintro e w5 ⟨b5, rfl, _, hb5⟩
        have hk5 : w5.heap[wr.heap.size]? = some (.cells #[.string ⟨nm.toArray⟩, .int .i64 size, lv] 53 (0, 0)) := (hb5.block wr.heap.size hz4).trans HK4.out
        have hX5 : w5.heap[w.heap.size]? = some (.cells #[.int .i64 cl, .int .i64 sz, .string ⟨#[]⟩, tv, sv, mv, cv] 29 (0, 0)) := (hb5.block w.heap.size (by omega)).trans HX4.out
        have hBel5 : Below w.heap.size w w5 := hBel4.trans (hb5.mono (by omega))
        have hbE5 : Below wr.heap.size wr w5 := hbE4.trans (hb5.mono (by omega))
        have hz5 : wr.heap.size < w5.heap.size := (Array.getElem?_eq_some_iff.1 hk5).1
        clear c0 c1 c2 c3 c4 c5 c6 q1 q2 HX4 HK4 hBel4 hbE4 hb5 hz4 hne
        have c0 : w5.cell? ⟨w.heap.size, 0, none⟩ = some (.int .i64 cl) := by simp [World.cell?, hX5]
        have c1 : w5.cell? ⟨w.heap.size, 1, none⟩ = some (.int .i64 sz) := by simp [World.cell?, hX5]
        have c2 : w5.cell? ⟨w.heap.size, 2, none⟩ = some (.string ⟨#[]⟩) := by simp [World.cell?, hX5]
        have c3 : w5.cell? ⟨w.heap.size, 3, none⟩ = some tv := by simp [World.cell?, hX5]
        have c4 : w5.cell? ⟨w.heap.size, 4, none⟩ = some sv := by simp [World.cell?, hX5]
        have c5 : w5.cell? ⟨w.heap.size, 5, none⟩ = some mv := by simp [World.cell?, hX5]
        have c6 : w5.cell? ⟨w.heap.size, 6, none⟩ = some cv := by simp [World.cell?, hX5]
        have q1 : w5.cell? ⟨wr.heap.size, 1, none⟩ = some (.int .i64 size) := by simp [World.cell?, hk5]
        have q2 : w5.cell? ⟨wr.heap.size, 2, none⟩ = some lv := by simp [World.cell?, hk5]
        have HX5 := hid hX5
        clear hX5 hk5
        cases b5
        · go_wp2
          go_ret
          exact RB.mk (fun h => by cases h) hBel5
        go_wp2_with fail
        refine (tableRight_any tt lv _ _ _ ((HTA.out.1.below hbE5 (by omega)).mono (by omega)) HTA.out.2 (shr_ok size cl hk1 hk2) ⟨cl1, cl2⟩).mono ?_
        rintro e w6 ⟨b6, rfl, hP6, hb6⟩
        have hX6 : w6.heap[w.heap.size]? = some (.cells #[.int .i64 cl, .int .i64 sz, .string ⟨#[]⟩, tv, sv, mv, cv] 29 (0, 0)) := (hb6.block w.heap.size (by omega)).trans HX5.out
        have hBel6 : Below w.heap.size w w6 := hBel5.trans (hb6.mono (by omega))
        have HX6 := hid hX6
        have HP6 := hid hP6
        clear c0 c1 c2 c3 c4 c5 c6 q1 q2 HX5 hBel5 hbE5 hb6 hz5 hX6 hP6
        cases b6
        · go_wp2
          go_ret
          exact RB.mk (fun h => by cases h) hBel6
        have HQ := hid (HMM.out (HP6.out rfl))
        go_wp2
        go_roundw
        case rel => exact ⟨k + 1, by omega, by go_num, hBel6, HX6.out, HQ⟩
        case measure => simp [intOf]; omega
      · obtain rfl : k = ss.length := by omega
        have HSP := hid (fun j hj => HP.out j hj)
        have hzz := hz
        clear hlt HP
        obtain ⟨wB, rfl⟩ : ∃ wB : World, wB = wr := ⟨_, rfl⟩
        go_wp2_with fail
        go_loopw [5] (fun i wq => ∃ k : Nat, k ≤ ms.length ∧ i = .int .i64 k ∧ Below w.heap.size w wq ∧ wq.heap[w.heap.size]? = some (.cells #[.int .i64 cl, .int .i64 sz, .string ⟨#[]⟩, tv, sv, mv, cv] 29 (0, 0)))
          (fun i _ => ms.length - (intOf i).toNat)
        case atStart => exact ⟨0, by omega, rfl, hbel, HX.out⟩
        case round =>
          clear hbel HX c0 c1 c2 c3 c4 c5 c6 hz hzb hzz
          obtain ⟨k, hk, rfl, hbel, hX⟩ := hrel
          have hz := hbel.size
          have hzb : w.heap.size < wr.heap.size := (Array.getElem?_eq_some_iff.1 hX).1
          have c0 : wr.cell? ⟨w.heap.size, 0, none⟩ = some (.int .i64 cl) := by simp [World.cell?, hX]
          have c1 : wr.cell? ⟨w.heap.size, 1, none⟩ = some (.int .i64 sz) := by simp [World.cell?, hX]
          have c2 : wr.cell? ⟨w.heap.size, 2, none⟩ = some (.string ⟨#[]⟩) := by simp [World.cell?, hX]
          have c3 : wr.cell? ⟨w.heap.size, 3, none⟩ = some tv := by simp [World.cell?, hX]
          have c4 : wr.cell? ⟨w.heap.size, 4, none⟩ = some sv := by simp [World.cell?, hX]
          have c5 : wr.cell? ⟨w.heap.size, 5, none⟩ = some mv := by simp [World.cell?, hX]
          have c6 : wr.cell? ⟨w.heap.size, 6, none⟩ = some cv := by simp [World.cell?, hX]
          have HX := hid hX
          clear hX
          by_cases hlt : k < ms.length
          · have hmr : IsMaps wr w.heap.size mv ms := HM.out.2.2.1.below hbel (Nat.le_refl _)
            obtain ⟨b, o, lv, hbb, hia, d0, d1, d2, htk⟩ := hmr.at k hlt
            have hnl := HMW.out k hlt
            obtain ⟨S, hS⟩ : ∃ S, S = ms.getD k default := ⟨_, rfl⟩
            rw [← hS] at d0 d1 htk hnl
            clear hS hmr
            obtain ⟨nm, on, l⟩ := S
            simp only at d0 d1 d2 htk hnl
            obtain ⟨oa, nn, cap, hlv⟩ : ∃ oa nn cap, lv = Value.slice oa nn cap := by
              obtain ⟨oa, cap, h, _⟩ := htk
              exact ⟨oa, _, cap, h⟩
            rw [hlv] at d2
            have HNA := hid (fun w' => name_any nm w' hnl)
            have HTA := hid htk
            have hbA : Below wr.heap.size wr (wr.alloc (.cells #[.string ⟨nm.toArray⟩, .bool on, (.slice oa nn cap)] 56)) := (Below.refl _ _).alloc (Nat.le_refl _) _
            have hzA := hbA.size
            have hkA := World.alloc_heap_new wr (.cells #[.string ⟨nm.toArray⟩, .bool on, (.slice oa nn cap)] 56)
            have HBA := hid (And.intro hbA hkA)
            have hms : (wr.alloc (.cells #[.string ⟨nm.toArray⟩, .bool on, (.slice oa nn cap)] 56)).heap.size = wr.heap.size + 1 := World.size_alloc _ _
            have HMS := hid hms
            clear hbA hkA hms htk hnl
            go_wp2_with fail
            refine (HNA.out _).mono ?_
            rintro e w3 ⟨b3, rfl, _, hb3⟩
            have hbE3 : Below wr.heap.size wr w3 := HBA.out.1.trans (hb3.mono hzA)
            have hk3 : w3.heap[wr.heap.size]? = some (.cells #[.string ⟨nm.toArray⟩, .bool on, (.slice oa nn cap)] 56 (0, 0)) := (hb3.block wr.heap.size (by rw [HMS.out]; omega)).trans HBA.out.2
            rw [← hlv] at hk3
            clear hlv
            have hX3 : w3.heap[w.heap.size]? = some (.cells #[.int .i64 cl, .int .i64 sz, .string ⟨#[]⟩, tv, sv, mv, cv] 29 (0, 0)) := (hbE3.block w.heap.size hzb).trans HX.out
            have hz3 : wr.heap.size < w3.heap.size := (Array.getElem?_eq_some_iff.1 hk3).1
            clear c0 c1 c2 c3 c4 c5 c6 d0 d1 d2 hia HNA HBA hb3 HMS hzA
            have c5 : w3.cell? ⟨w.heap.size, 5, none⟩ = some mv := by simp [World.cell?, hX3]
            have q0 : w3.cell? ⟨wr.heap.size, 0, none⟩ = some (.string ⟨nm.toArray⟩) := by simp [World.cell?, hk3]
            have HX3 := hid hX3
            have HK3 := hid hk3
            have hBel3 : Below w.heap.size w w3 := hbel.trans (hbE3.mono hz)
            clear hX3 hk3
            cases b3
            · go_wp2
              go_ret
              exact RB.mk (fun h => by cases h) hBel3
            go_wp2_with fail
            refine (bitmap_any _ ms _ _ ((HM.out.2.2.1.below hBel3 (Nat.le_refl _)).mono (by omega))).mono ?_
            rintro e w4 ⟨n4, rfl, hb4⟩
            have hk4 : w4.heap[wr.heap.size]? = some (.cells #[.string ⟨nm.toArray⟩, .bool on, lv] 56 (0, 0)) := (hb4.block wr.heap.size hz3).trans HK3.out
            have hX4 : w4.heap[w.heap.size]? = some (.cells #[.int .i64 cl, .int .i64 sz, .string ⟨#[]⟩, tv, sv, mv, cv] 29 (0, 0)) := (hb4.block w.heap.size (by omega)).trans HX3.out
            have hBel4 : Below w.heap.size w w4 := hBel3.trans (hb4.mono (by omega))
            have hbE4 : Below wr.heap.size wr w4 := hbE3.trans (hb4.mono (by omega))
            have hz4 : wr.heap.size < w4.heap.size := (Array.getElem?_eq_some_iff.1 hk4).1
            clear c5 q0 HX3 HK3 hBel3 hbE3 hb4 hz3
            have q2 : w4.cell? ⟨wr.heap.size, 2, none⟩ = some lv := by simp [World.cell?, hk4]
            have HX4 := hid hX4
            have HK4 := hid hk4
            clear hX4 hk4
            cases hne : (n4 != (k : Int))
            rotate_left
            · go_wp2
              go_ret
              exact RB.mk (fun h => by cases h) hBel4
            go_wp2_with fail
            refine (sright_any l lv _ ((SlG.below HTA.out hbE4 (by omega)).mono (by omega))).mono ?_
            rintro e w5 ⟨b5, rfl, _, hb5⟩
            have hk5 : w5.heap[wr.heap.size]? = some (.cells #[.string ⟨nm.toArray⟩, .bool on, lv] 56 (0, 0)) := (hb5.block wr.heap.size hz4).trans HK4.out
            have hX5 : w5.heap[w.heap.size]? = some (.cells #[.int .i64 cl, .int .i64 sz, .string ⟨#[]⟩, tv, sv, mv, cv] 29 (0, 0)) := (hb5.block w.heap.size (by omega)).trans HX4.out
            have hBel5 : Below w.heap.size w w5 := hBel4.trans (hb5.mono (by omega))
            have hbE5 : Below wr.heap.size wr w5 := hbE4.trans (hb5.mono (by omega))
            have hz5 : wr.heap.size < w5.heap.size := (Array.getElem?_eq_some_iff.1 hk5).1
            have q2 : w5.cell? ⟨wr.heap.size, 2, none⟩ = some lv := by simp [World.cell?, hk5]
            clear HX4 HK4 hBel4 hbE4 hb5 hz4 hne
            have HX5 := hid hX5
            clear hX5 hk5
            have hls5 : SlP w5 w.heap.size lv l := SlG.below HTA.out hbE5 (by omega)
            have hll := fun w' => hls5.len w' (ty := 3)
            have hle := hls5.le
            cases b5
            · go_wp2
              go_ret
              exact RB.mk (fun h => by cases h) hBel5
            by_cases hl0 : l.length = 0
            · have hll' : ∀ (w' : World), (Builtin.len_ #[54] 3 #[lv]).run Try.prog w' = .ok (.int .i64 0) w' := by rw [hl0] at hll; exact hll
              clear hll hls5
              go_wp2
              go_roundw
              case rel => exact ⟨k + 1, by omega, by go_num, hBel5, HX5.out⟩
              case measure => simp [intOf]; omega
            · obtain ⟨b6, o6, hb6, hia6, e0, e1⟩ := hls5.at (l.length - 1) (by omega)
              rw [show ((l.length - 1 : Nat) : Int) = (l.length : Int) - 1 by omega] at hia6
              obtain ⟨z, hz1⟩ : ∃ z, z = (l.getD (l.length - 1) default).2 := ⟨_, rfl⟩
              rw [← hz1] at e1
              clear hz1 e0 hls5
              by_cases hzz : 4096 < z
              · go_wp2
                go_ret
                exact RB.mk (fun h => by cases h) hBel5
              · go_wp2
                go_roundw
                case rel => exact ⟨k + 1, by omega, by go_num, hBel5, HX5.out⟩
                case measure => simp [intOf]; omega
          · obtain rfl : k = ms.length := by omega
            obtain ⟨wC, rfl⟩ : ∃ wC : World, wC = wr := ⟨_, rfl⟩
            go_wp2_with fail
            go_loopw [7] (fun i wq => ∃ k : Nat, k ≤ cs.length ∧ i = .int .i64 k ∧ Below w.heap.size w wq ∧ wq.heap[w.heap.size]? = some (.cells #[.int .i64 cl, .int .i64 sz, .string ⟨#[]⟩, tv, sv, mv, cv] 29 (0, 0)))
              (fun i _ => cs.length - (intOf i).toNat)
            case atStart => exact ⟨0, by omega, rfl, hbel, HX.out⟩
            case round =>
              clear hbel HX c0 c1 c2 c3 c4 c5 c6 hz hzb hlt hk
              obtain ⟨k, hk, rfl, hbel, hX⟩ := hrel
              have hz := hbel.size
              have hzb : w.heap.size < wr.heap.size := (Array.getElem?_eq_some_iff.1 hX).1
              have c6 : wr.cell? ⟨w.heap.size, 6, none⟩ = some cv := by simp [World.cell?, hX]
              have HX := hid hX
              clear hX
              by_cases hlt : k < cs.length
              · have hcr : SlI wr w.heap.size cv cs := HM.out.2.2.2.below hbel (Nat.le_refl _)
                obtain ⟨b, o, hbb, hia, d0⟩ := hcr.addr (P := Try.prog) Try.underlying27 sizeI k hlt
                obtain ⟨x, hx⟩ : ∃ x, x = cs.getD k 0 := ⟨_, rfl⟩
                rw [← hx] at d0
                clear hx hcr
                by_cases hx0 : x < 0
                · go_wp2
                  go_ret
                  exact RB.mk (fun h => by cases h) hbel
                by_cases hx1 : 65535 < x
                · go_wp2
                  go_ret
                  exact RB.mk (fun h => by cases h) hbel
                go_wp2
                go_roundw
                case rel => exact ⟨k + 1, by omega, by go_num, hbel, HX.out⟩
                case measure => simp [intOf]; omega
              · obtain rfl : k = cs.length := by omega
                go_wp2
                go_ret
                exact RB.mk (fun _ => ⟨HTP.out, fun i hi => HSP.out i hi⟩) hbel
  · have he : bk.isEmpty = false := by cases bk with | nil => exact absurd rfl hbe | cons _ _ => rfl
    have hbe2 : ((⟨bk.toArray⟩ : ByteArray) != ⟨#[]⟩) = true := by
      rw [bne, Bool.not_eq_true']
      cases bk with
      | nil => exact absurd rfl hbe
      | cons a b => rfl
    clear hbe
    go_wp2_with fail
    refine (name_any bk _ hbk).mono ?_
    rintro e w1' ⟨b1, rfl, _, hb1⟩
    have hX1 : w1'.heap[w.heap.size]? = some (.cells #[.int .i64 cl, .int .i64 sz, .string ⟨bk.toArray⟩, tv, sv, mv, cv] 29 (0, 0)) := (hb1.block w.heap.size hzw1).trans HX1.out
    have hBel1 : Below w.heap.size w w1' := hBel1.trans (hb1.mono (Nat.le_of_lt hzw1))
    clear hb1 c0 c1 c2 c3 c4 c5 c6 HX1 hzw1
    have hzw1 : w.heap.size < w1'.heap.size := (Array.getElem?_eq_some_iff.1 hX1).1
    have c0 : w1'.cell? ⟨w.heap.size, 0, none⟩ = some (.int .i64 cl) := by simp [World.cell?, hX1]
    have c1 : w1'.cell? ⟨w.heap.size, 1, none⟩ = some (.int .i64 sz) := by simp [World.cell?, hX1]
    have c2 : w1'.cell? ⟨w.heap.size, 2, none⟩ = some (.string ⟨bk.toArray⟩) := by simp [World.cell?, hX1]
    have c3 : w1'.cell? ⟨w.heap.size, 3, none⟩ = some tv := by simp [World.cell?, hX1]
    have c4 : w1'.cell? ⟨w.heap.size, 4, none⟩ = some sv := by simp [World.cell?, hX1]
    have c5 : w1'.cell? ⟨w.heap.size, 5, none⟩ = some mv := by simp [World.cell?, hX1]
    have c6 : w1'.cell? ⟨w.heap.size, 6, none⟩ = some cv := by simp [World.cell?, hX1]
    have HX1 := hid hX1
    clear hX1
    cases b1
    · go_wp2
      go_ret
      exact RB.mk (fun h => by cases h) hBel1
    by_cases hl1 : 8 < ss.length
    · go_wp2
      go_ret
      exact RB.mk (fun h => by cases h) hBel1
    by_cases hl2 : 8 < ms.length
    · go_wp2
      go_ret
      exact RB.mk (fun h => by cases h) hBel1
    by_cases hl3 : 65536 < cs.length
    · go_wp2
      go_ret
      exact RB.mk (fun h => by cases h) hBel1
    go_wp2_with fail
    refine (tableRight_any t tv _ _ _ ((HM.out.1.below hBel1 (Nat.le_refl _)).mono (Nat.le_of_lt hzw1)) HTW.out (shr_ok sz cl sz1 sz2) ⟨cl1, cl2⟩).mono ?_
    rintro e w2 ⟨b2, rfl, hPT, hb2⟩
    have hX2 : w2.heap[w.heap.size]? = some (.cells #[.int .i64 cl, .int .i64 sz, .string ⟨bk.toArray⟩, tv, sv, mv, cv] 29 (0, 0)) := (hb2.block w.heap.size hzw1).trans HX1.out
    have hBel2 : Below w.heap.size w w2 := hBel1.trans (hb2.mono (Nat.le_of_lt hzw1))
    clear c0 c1 c2 c3 c4 c5 c6 HX1 hb2 hBel1 hl1 hl2 hl3
    have HPT := hid hPT
    have HX2 := hid hX2
    clear hPT hX2
    cases b2
    · go_wp2
      go_ret
      exact RB.mk (fun h => by cases h) hBel2
    have HTP := hid (HPT.out rfl)
    clear HPT
    go_wp2_with fail
    clear hzw1
    go_loopw [3] (fun i wr => ∃ k : Nat, k ≤ ss.length ∧ i = .int .i64 k ∧ Below w.heap.size w wr ∧ wr.heap[w.heap.size]? = some (.cells #[.int .i64 cl, .int .i64 sz, .string ⟨bk.toArray⟩, tv, sv, mv, cv] 29 (0, 0)) ∧ Hid (∀ j, j < k → TabP (ss.getD j default).t))
      (fun i _ => ss.length - (intOf i).toNat)
    case atStart => exact ⟨0, by omega, rfl, hBel2, HX2.out, fun j hj => absurd hj (by omega)⟩
    case round =>
      obtain ⟨k, hk, rfl, hbel, hX, HP⟩ := hrel
      have hz := hbel.size
      have hzb : w.heap.size < wr.heap.size := (Array.getElem?_eq_some_iff.1 hX).1
      have c0 : wr.cell? ⟨w.heap.size, 0, none⟩ = some (.int .i64 cl) := by simp [World.cell?, hX]
      have c1 : wr.cell? ⟨w.heap.size, 1, none⟩ = some (.int .i64 sz) := by simp [World.cell?, hX]
      have c2 : wr.cell? ⟨w.heap.size, 2, none⟩ = some (.string ⟨bk.toArray⟩) := by simp [World.cell?, hX]
      have c3 : wr.cell? ⟨w.heap.size, 3, none⟩ = some tv := by simp [World.cell?, hX]
      have c4 : wr.cell? ⟨w.heap.size, 4, none⟩ = some sv := by simp [World.cell?, hX]
      have c5 : wr.cell? ⟨w.heap.size, 5, none⟩ = some mv := by simp [World.cell?, hX]
      have c6 : wr.cell? ⟨w.heap.size, 6, none⟩ = some cv := by simp [World.cell?, hX]
      have HX := hid hX
      clear hX HX2 hBel2
      by_cases hlt : k < ss.length
      · have hsr : IsShots wr w.heap.size sv ss := HM.out.2.1.below hbel (Nat.le_refl _)
        obtain ⟨b, o, lv, hbb, hia, d0, d1, d2, htk⟩ := hsr.at k hlt
        obtain ⟨htwk, ⟨hk1, hk2⟩, hnl⟩ := HSW.out k hlt
        have HMM := hid (fun (h : TabP (ss.getD k default).t) (q : Nat) (hq : q < k + 1) => (show TabP (ss.getD q default).t from if e : q = k then e ▸ h else HP.out q (by omega)))
        obtain ⟨S, hS⟩ : ∃ S, S = ss.getD k default := ⟨_, rfl⟩
        rw [← hS] at d0 d1 htk htwk hk1 hk2 hnl HMM
        clear hS hsr
        obtain ⟨nm, size, tt⟩ := S
        simp only at d0 d1 d2 htk htwk hk1 hk2 hnl HMM
        obtain ⟨oa, nn, cap, hlv⟩ : ∃ oa nn cap, lv = Value.slice oa nn cap := by
          obtain ⟨_, _, ⟨oa, cap, h, _⟩, _⟩ := htk
          exact ⟨oa, _, cap, h⟩
        rw [hlv] at d2
        have HNA := hid (fun w' => name_any nm w' hnl)
        have HTA := hid (And.intro htk htwk)
        have hbA : Below wr.heap.size wr (wr.alloc (.cells #[.string ⟨nm.toArray⟩, .int .i64 size, (.slice oa nn cap)] 53)) := (Below.refl _ _).alloc (Nat.le_refl _) _
        have hzA := hbA.size
        have hkA := World.alloc_heap_new wr (.cells #[.string ⟨nm.toArray⟩, .int .i64 size, (.slice oa nn cap)] 53)
        have HBA := hid (And.intro hbA hkA)
        have hms : (wr.alloc (.cells #[.string ⟨nm.toArray⟩, .int .i64 size, (.slice oa nn cap)] 53)).heap.size = wr.heap.size + 1 := World.size_alloc _ _
        have HMS := hid hms
        clear hbA hkA hms htk htwk hnl
        go_wp2_with fail
        refine (HNA.out _).mono ?_
        rintro e w3 ⟨b3, rfl, _, hb3⟩
        have hbE3 : Below wr.heap.size wr w3 := HBA.out.1.trans (hb3.mono hzA)
        have hk3 : w3.heap[wr.heap.size]? = some (.cells #[.string ⟨nm.toArray⟩, .int .i64 size, (.slice oa nn cap)] 53 (0, 0)) := (hb3.block wr.heap.size (by rw [HMS.out]; omega)).trans HBA.out.2
        rw [← hlv] at hk3
        clear hlv
        have hX3 : w3.heap[w.heap.size]? = some (.cells #[.int .i64 cl, .int .i64 sz, .string ⟨bk.toArray⟩, tv, sv, mv, cv] 29 (0, 0)) := (hbE3.block w.heap.size hzb).trans HX.out
        have hz3 : wr.heap.size < w3.heap.size := (Array.getElem?_eq_some_iff.1 hk3).1
        clear c0 c1 c2 c3 c4 c5 c6 d0 d1 d2 hia HNA HBA hb3 HMS hzA
        have c0 : w3.cell? ⟨w.heap.size, 0, none⟩ = some (.int .i64 cl) := by simp [World.cell?, hX3]
        have c1 : w3.cell? ⟨w.heap.size, 1, none⟩ = some (.int .i64 sz) := by simp [World.cell?, hX3]
        have c2 : w3.cell? ⟨w.heap.size, 2, none⟩ = some (.string ⟨bk.toArray⟩) := by simp [World.cell?, hX3]
        have c3 : w3.cell? ⟨w.heap.size, 3, none⟩ = some tv := by simp [World.cell?, hX3]
        have c4 : w3.cell? ⟨w.heap.size, 4, none⟩ = some sv := by simp [World.cell?, hX3]
        have c5 : w3.cell? ⟨w.heap.size, 5, none⟩ = some mv := by simp [World.cell?, hX3]
        have c6 : w3.cell? ⟨w.heap.size, 6, none⟩ = some cv := by simp [World.cell?, hX3]
        have q0 : w3.cell? ⟨wr.heap.size, 0, none⟩ = some (.string ⟨nm.toArray⟩) := by simp [World.cell?, hk3]
        have q1 : w3.cell? ⟨wr.heap.size, 1, none⟩ = some (.int .i64 size) := by simp [World.cell?, hk3]
        have q2 : w3.cell? ⟨wr.heap.size, 2, none⟩ = some lv := by simp [World.cell?, hk3]
        have HX3 := hid hX3
        have HK3 := hid hk3
        have hBel3 : Below w.heap.size w w3 := hbel.trans (hbE3.mono hz)
        clear hX3 hk3
        cases b3
        · go_wp2
          go_ret
          exact RB.mk (fun h => by cases h) hBel3
        go_wp2_with fail
        refine (shot_any _ _ _ _ _ _ _ ss _ _ ((HM.out.2.1.below hBel3 (Nat.le_refl _)).mono (by omega))).mono ?_
        rintro e w4 ⟨n4, rfl, hb4⟩
        have hk4 : w4.heap[wr.heap.size]? = some (.cells #[.string ⟨nm.toArray⟩, .int .i64 size, lv] 53 (0, 0)) := (hb4.block wr.heap.size hz3).trans HK3.out
        have hX4 : w4.heap[w.heap.size]? = some (.cells #[.int .i64 cl, .int .i64 sz, .string ⟨bk.toArray⟩, tv, sv, mv, cv] 29 (0, 0)) := (hb4.block w.heap.size (by omega)).trans HX3.out
        have hBel4 : Below w.heap.size w w4 := hBel3.trans (hb4.mono (by omega))
        have hbE4 : Below wr.heap.size wr w4 := hbE3.trans (hb4.mono (by omega))
        have hz4 : wr.heap.size < w4.heap.size := (Array.getElem?_eq_some_iff.1 hk4).1
        clear c0 c1 c2 c3 c4 c5 c6 q0 q1 q2 HX3 HK3 hBel3 hbE3 hb4 hz3
        have c0 : w4.cell? ⟨w.heap.size, 0, none⟩ = some (.int .i64 cl) := by simp [World.cell?, hX4]
        have c1 : w4.cell? ⟨w.heap.size, 1, none⟩ = some (.int .i64 sz) := by simp [World.cell?, hX4]
        have c2 : w4.cell? ⟨w.heap.size, 2, none⟩ = some (.string ⟨bk.toArray⟩) := by simp [World.cell?, hX4]
        have c3 : w4.cell? ⟨w.heap.size, 3, none⟩ = some tv := by simp [World.cell?, hX4]
        have c4 : w4.cell? ⟨w.heap.size, 4, none⟩ = some sv := by simp [World.cell?, hX4]
        have c5 : w4.cell? ⟨w.heap.size, 5, none⟩ = some mv := by simp [World.cell?, hX4]
        have c6 : w4.cell? ⟨w.heap.size, 6, none⟩ = some cv := by simp [World.cell?, hX4]
        have q1 : w4.cell? ⟨wr.heap.size, 1, none⟩ = some (.int .i64 size) := by simp [World.cell?, hk4]
        have q2 : w4.cell? ⟨wr.heap.size, 2, none⟩ = some lv := by simp [World.cell?, hk4]
        have HX4 := hid hX4
        have HK4 := hid hk4
        clear hX4 hk4
        cases hne : (n4 != (k : Int))
        rotate_left
        · go_wp2
          go_ret
          exact RB.mk (fun h => by cases h) hBel4
        go_wp2_with fail
        refine (sized_any size cl _ ⟨by omega, by omega⟩ ⟨hk1, hk2⟩).mono ?_
        rintro e w5 ⟨b5, rfl, _, hb5⟩
        have hk5 : w5.heap[wr.heap.size]? = some (.cells #[.string ⟨nm.toArray⟩, .int .i64 size, lv] 53 (0, 0)) := (hb5.block wr.heap.size hz4).trans HK4.out
        have hX5 : w5.heap[w.heap.size]? = some (.cells #[.int .i64 cl, .int .i64 sz, .string ⟨bk.toArray⟩, tv, sv, mv, cv] 29 (0, 0)) := (hb5.block w.heap.size (by omega)).trans HX4.out
        have hBel5 : Below w.heap.size w w5 := hBel4.trans (hb5.mono (by omega))
        have hbE5 : Below wr.heap.size wr w5 := hbE4.trans (hb5.mono (by omega))
        have hz5 : wr.heap.size < w5.heap.size := (Array.getElem?_eq_some_iff.1 hk5).1
        clear c0 c1 c2 c3 c4 c5 c6 q1 q2 HX4 HK4 hBel4 hbE4 hb5 hz4 hne
        have c0 : w5.cell? ⟨w.heap.size, 0, none⟩ = some (.int .i64 cl) := by simp [World.cell?, hX5]
        have c1 : w5.cell? ⟨w.heap.size, 1, none⟩ = some (.int .i64 sz) := by simp [World.cell?, hX5]
        have c2 : w5.cell? ⟨w.heap.size, 2, none⟩ = some (.string ⟨bk.toArray⟩) := by simp [World.cell?, hX5]
        have c3 : w5.cell? ⟨w.heap.size, 3, none⟩ = some tv := by simp [World.cell?, hX5]
        have c4 : w5.cell? ⟨w.heap.size, 4, none⟩ = some sv := by simp [World.cell?, hX5]
        have c5 : w5.cell? ⟨w.heap.size, 5, none⟩ = some mv := by simp [World.cell?, hX5]
        have c6 : w5.cell? ⟨w.heap.size, 6, none⟩ = some cv := by simp [World.cell?, hX5]
        have q1 : w5.cell? ⟨wr.heap.size, 1, none⟩ = some (.int .i64 size) := by simp [World.cell?, hk5]
        have q2 : w5.cell? ⟨wr.heap.size, 2, none⟩ = some lv := by simp [World.cell?, hk5]
        have HX5 := hid hX5
        clear hX5 hk5
        cases b5
        · go_wp2
          go_ret
          exact RB.mk (fun h => by cases h) hBel5
        go_wp2_with fail
        refine (tableRight_any tt lv _ _ _ ((HTA.out.1.below hbE5 (by omega)).mono (by omega)) HTA.out.2 (shr_ok size cl hk1 hk2) ⟨cl1, cl2⟩).mono ?_
        rintro e w6 ⟨b6, rfl, hP6, hb6⟩
        have hX6 : w6.heap[w.heap.size]? = some (.cells #[.int .i64 cl, .int .i64 sz, .string ⟨bk.toArray⟩, tv, sv, mv, cv] 29 (0, 0)) := (hb6.block w.heap.size (by omega)).trans HX5.out
        have hBel6 : Below w.heap.size w w6 := hBel5.trans (hb6.mono (by omega))
        have HX6 := hid hX6
        have HP6 := hid hP6
        clear c0 c1 c2 c3 c4 c5 c6 q1 q2 HX5 hBel5 hbE5 hb6 hz5 hX6 hP6
        cases b6
        · go_wp2
          go_ret
          exact RB.mk (fun h => by cases h) hBel6
        have HQ := hid (HMM.out (HP6.out rfl))
        go_wp2
        go_roundw
        case rel => exact ⟨k + 1, by omega, by go_num, hBel6, HX6.out, HQ⟩
        case measure => simp [intOf]; omega
      · obtain rfl : k = ss.length := by omega
        have HSP := hid (fun j hj => HP.out j hj)
        have hzz := hz
        clear hlt HP
        obtain ⟨wB, rfl⟩ : ∃ wB : World, wB = wr := ⟨_, rfl⟩
        go_wp2_with fail
        go_loopw [5] (fun i wq => ∃ k : Nat, k ≤ ms.length ∧ i = .int .i64 k ∧ Below w.heap.size w wq ∧ wq.heap[w.heap.size]? = some (.cells #[.int .i64 cl, .int .i64 sz, .string ⟨bk.toArray⟩, tv, sv, mv, cv] 29 (0, 0)))
          (fun i _ => ms.length - (intOf i).toNat)
        case atStart => exact ⟨0, by omega, rfl, hbel, HX.out⟩
        case round =>
          clear hbel HX c0 c1 c2 c3 c4 c5 c6 hz hzb hzz
          obtain ⟨k, hk, rfl, hbel, hX⟩ := hrel
          have hz := hbel.size
          have hzb : w.heap.size < wr.heap.size := (Array.getElem?_eq_some_iff.1 hX).1
          have c0 : wr.cell? ⟨w.heap.size, 0, none⟩ = some (.int .i64 cl) := by simp [World.cell?, hX]
          have c1 : wr.cell? ⟨w.heap.size, 1, none⟩ = some (.int .i64 sz) := by simp [World.cell?, hX]
          have c2 : wr.cell? ⟨w.heap.size, 2, none⟩ = some (.string ⟨bk.toArray⟩) := by simp [World.cell?, hX]
          have c3 : wr.cell? ⟨w.heap.size, 3, none⟩ = some tv := by simp [World.cell?, hX]
          have c4 : wr.cell? ⟨w.heap.size, 4, none⟩ = some sv := by simp [World.cell?, hX]
          have c5 : wr.cell? ⟨w.heap.size, 5, none⟩ = some mv := by simp [World.cell?, hX]
          have c6 : wr.cell? ⟨w.heap.size, 6, none⟩ = some cv := by simp [World.cell?, hX]
          have HX := hid hX
          clear hX
          by_cases hlt : k < ms.length
          · have hmr : IsMaps wr w.heap.size mv ms := HM.out.2.2.1.below hbel (Nat.le_refl _)
            obtain ⟨b, o, lv, hbb, hia, d0, d1, d2, htk⟩ := hmr.at k hlt
            have hnl := HMW.out k hlt
            obtain ⟨S, hS⟩ : ∃ S, S = ms.getD k default := ⟨_, rfl⟩
            rw [← hS] at d0 d1 htk hnl
            clear hS hmr
            obtain ⟨nm, on, l⟩ := S
            simp only at d0 d1 d2 htk hnl
            obtain ⟨oa, nn, cap, hlv⟩ : ∃ oa nn cap, lv = Value.slice oa nn cap := by
              obtain ⟨oa, cap, h, _⟩ := htk
              exact ⟨oa, _, cap, h⟩
            rw [hlv] at d2
            have HNA := hid (fun w' => name_any nm w' hnl)
            have HTA := hid htk
            have hbA : Below wr.heap.size wr (wr.alloc (.cells #[.string ⟨nm.toArray⟩, .bool on, (.slice oa nn cap)] 56)) := (Below.refl _ _).alloc (Nat.le_refl _) _
            have hzA := hbA.size
            have hkA := World.alloc_heap_new wr (.cells #[.string ⟨nm.toArray⟩, .bool on, (.slice oa nn cap)] 56)
            have HBA := hid (And.intro hbA hkA)
            have hms : (wr.alloc (.cells #[.string ⟨nm.toArray⟩, .bool on, (.slice oa nn cap)] 56)).heap.size = wr.heap.size + 1 := World.size_alloc _ _
            have HMS := hid hms
            clear hbA hkA hms htk hnl
            go_wp2_with fail
            refine (HNA.out _).mono ?_
            rintro e w3 ⟨b3, rfl, _, hb3⟩
            have hbE3 : Below wr.heap.size wr w3 := HBA.out.1.trans (hb3.mono hzA)
            have hk3 : w3.heap[wr.heap.size]? = some (.cells #[.string ⟨nm.toArray⟩, .bool on, (.slice oa nn cap)] 56 (0, 0)) := (hb3.block wr.heap.size (by rw [HMS.out]; omega)).trans HBA.out.2
            rw [← hlv] at hk3
            clear hlv
            have hX3 : w3.heap[w.heap.size]? = some (.cells #[.int .i64 cl, .int .i64 sz, .string ⟨bk.toArray⟩, tv, sv, mv, cv] 29 (0, 0)) := (hbE3.block w.heap.size hzb).trans HX.out
            have hz3 : wr.heap.size < w3.heap.size := (Array.getElem?_eq_some_iff.1 hk3).1
            clear c0 c1 c2 c3 c4 c5 c6 d0 d1 d2 hia HNA HBA hb3 HMS hzA
            have c5 : w3.cell? ⟨w.heap.size, 5, none⟩ = some mv := by simp [World.cell?, hX3]
            have q0 : w3.cell? ⟨wr.heap.size, 0, none⟩ = some (.string ⟨nm.toArray⟩) := by simp [World.cell?, hk3]
            have HX3 := hid hX3
            have HK3 := hid hk3
            have hBel3 : Below w.heap.size w w3 := hbel.trans (hbE3.mono hz)
            clear hX3 hk3
            cases b3
            · go_wp2
              go_ret
              exact RB.mk (fun h => by cases h) hBel3
            go_wp2_with fail
            refine (bitmap_any _ ms _ _ ((HM.out.2.2.1.below hBel3 (Nat.le_refl _)).mono (by omega))).mono ?_
            rintro e w4 ⟨n4, rfl, hb4⟩
            have hk4 : w4.heap[wr.heap.size]? = some (.cells #[.string ⟨nm.toArray⟩, .bool on, lv] 56 (0, 0)) := (hb4.block wr.heap.size hz3).trans HK3.out
            have hX4 : w4.heap[w.heap.size]? = some (.cells #[.int .i64 cl, .int .i64 sz, .string ⟨bk.toArray⟩, tv, sv, mv, cv] 29 (0, 0)) := (hb4.block w.heap.size (by omega)).trans HX3.out
            have hBel4 : Below w.heap.size w w4 := hBel3.trans (hb4.mono (by omega))
            have hbE4 : Below wr.heap.size wr w4 := hbE3.trans (hb4.mono (by omega))
            have hz4 : wr.heap.size < w4.heap.size := (Array.getElem?_eq_some_iff.1 hk4).1
            clear c5 q0 HX3 HK3 hBel3 hbE3 hb4 hz3
            have q2 : w4.cell? ⟨wr.heap.size, 2, none⟩ = some lv := by simp [World.cell?, hk4]
            have HX4 := hid hX4
            have HK4 := hid hk4
            clear hX4 hk4
            cases hne : (n4 != (k : Int))
            rotate_left
            · go_wp2
              go_ret
              exact RB.mk (fun h => by cases h) hBel4
            go_wp2_with fail
            refine (sright_any l lv _ ((SlG.below HTA.out hbE4 (by omega)).mono (by omega))).mono ?_
            rintro e w5 ⟨b5, rfl, _, hb5⟩
            have hk5 : w5.heap[wr.heap.size]? = some (.cells #[.string ⟨nm.toArray⟩, .bool on, lv] 56 (0, 0)) := (hb5.block wr.heap.size hz4).trans HK4.out
            have hX5 : w5.heap[w.heap.size]? = some (.cells #[.int .i64 cl, .int .i64 sz, .string ⟨bk.toArray⟩, tv, sv, mv, cv] 29 (0, 0)) := (hb5.block w.heap.size (by omega)).trans HX4.out
            have hBel5 : Below w.heap.size w w5 := hBel4.trans (hb5.mono (by omega))
            have hbE5 : Below wr.heap.size wr w5 := hbE4.trans (hb5.mono (by omega))
            have hz5 : wr.heap.size < w5.heap.size := (Array.getElem?_eq_some_iff.1 hk5).1
            have q2 : w5.cell? ⟨wr.heap.size, 2, none⟩ = some lv := by simp [World.cell?, hk5]
            clear HX4 HK4 hBel4 hbE4 hb5 hz4 hne
            have HX5 := hid hX5
            clear hX5 hk5
            have hls5 : SlP w5 w.heap.size lv l := SlG.below HTA.out hbE5 (by omega)
            have hll := fun w' => hls5.len w' (ty := 3)
            have hle := hls5.le
            cases b5
            · go_wp2
              go_ret
              exact RB.mk (fun h => by cases h) hBel5
            by_cases hl0 : l.length = 0
            · have hll' : ∀ (w' : World), (Builtin.len_ #[54] 3 #[lv]).run Try.prog w' = .ok (.int .i64 0) w' := by rw [hl0] at hll; exact hll
              clear hll hls5
              go_wp2
              go_roundw
              case rel => exact ⟨k + 1, by omega, by go_num, hBel5, HX5.out⟩
              case measure => simp [intOf]; omega
            · obtain ⟨b6, o6, hb6, hia6, e0, e1⟩ := hls5.at (l.length - 1) (by omega)
              rw [show ((l.length - 1 : Nat) : Int) = (l.length : Int) - 1 by omega] at hia6
              obtain ⟨z, hz1⟩ : ∃ z, z = (l.getD (l.length - 1) default).2 := ⟨_, rfl⟩
              rw [← hz1] at e1
              clear hz1 e0 hls5
              by_cases hzz : 4096 < z
              · go_wp2
                go_ret
                exact RB.mk (fun h => by cases h) hBel5
              · go_wp2
                go_roundw
                case rel => exact ⟨k + 1, by omega, by go_num, hBel5, HX5.out⟩
                case measure => simp [intOf]; omega
          · obtain rfl : k = ms.length := by omega
            obtain ⟨wC, rfl⟩ : ∃ wC : World, wC = wr := ⟨_, rfl⟩
            go_wp2_with fail
            go_loopw [7] (fun i wq => ∃ k : Nat, k ≤ cs.length ∧ i = .int .i64 k ∧ Below w.heap.size w wq ∧ wq.heap[w.heap.size]? = some (.cells #[.int .i64 cl, .int .i64 sz, .string ⟨bk.toArray⟩, tv, sv, mv, cv] 29 (0, 0)))
              (fun i _ => cs.length - (intOf i).toNat)
            case atStart => exact ⟨0, by omega, rfl, hbel, HX.out⟩
            case round =>
              clear hbel HX c0 c1 c2 c3 c4 c5 c6 hz hzb hlt hk
              obtain ⟨k, hk, rfl, hbel, hX⟩ := hrel
              have hz := hbel.size
              have hzb : w.heap.size < wr.heap.size := (Array.getElem?_eq_some_iff.1 hX).1
              have c6 : wr.cell? ⟨w.heap.size, 6, none⟩ = some cv := by simp [World.cell?, hX]
              have HX := hid hX
              clear hX
              by_cases hlt : k < cs.length
              · have hcr : SlI wr w.heap.size cv cs := HM.out.2.2.2.below hbel (Nat.le_refl _)
                obtain ⟨b, o, hbb, hia, d0⟩ := hcr.addr (P := Try.prog) Try.underlying27 sizeI k hlt
                obtain ⟨x, hx⟩ : ∃ x, x = cs.getD k 0 := ⟨_, rfl⟩
                rw [← hx] at d0
                clear hx hcr
                by_cases hx0 : x < 0
                · go_wp2
                  go_ret
                  exact RB.mk (fun h => by cases h) hbel
                by_cases hx1 : 65535 < x
                · go_wp2
                  go_ret
                  exact RB.mk (fun h => by cases h) hbel
                go_wp2
                go_roundw
                case rel => exact ⟨k + 1, by omega, by go_num, hbel, HX.out⟩
                case measure => simp [intOf]; omega
              · obtain rfl : k = cs.length := by omega
                go_wp2
                go_ret
                exact RB.mk (fun _ => ⟨HTP.out, fun i hi => HSP.out i hi⟩) hbel
end Go.Proofs.Ytpgdncpomacghaa
