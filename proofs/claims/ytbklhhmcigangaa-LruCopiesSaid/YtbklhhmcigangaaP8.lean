import Derived.Test.YtbklhhmcigangaaRU
namespace Go.Proofs.Ytbklhhmcigangaa
open Go.RowKit Go.Mx Go.Lr Go.Maps
set_option linter.unusedVariables false
set_option linter.unusedSimpArgs false
theorem SlA.mono {w : World} {B B' : Nat} {v : Value} {fs : List AI} (h : SlA w B v fs) (hB : B ≤ B') : SlA w B' v fs := ⟨h.1.mono hB, fun f hf => ⟨(h.2 f hf).1.mono hB, (h.2 f hf).2⟩⟩
theorem szB5 : ∀ w, (sizeOf 5).run Try.prog w = .ok 1 w := fun w => by kernel_rfl
/-- what Get tells, alike for a key that is there and one that is not -/
def GetZ (base p : Nat) (c : CM) (k : Int) (w : World) (e : Ending) (w' : World) : Prop :=
  ∃ v ok bs w1 c2, e = .returned (.tuple #[v, .bool ok]) ∧ HC w1 base p c2 ∧ Below base w w1 ∧ KT w w1 ∧ Below w1.heap.size w1 w' ∧ OwnB w' w1.heap.size 5 v bs ∧ bs.length ≤ 1000000 ∧ ((Lr.find c.all k = none ∧ c2 = c) ∨ (Lr.find c.all k ≠ none ∧ c2 = getM c k))
theorem get_Z {w : World} {base p : Nat} {c : CM} (h : HC w base p c) (k : Int) (hk : isI k) (hu : c.uses ≤ 1000000000) (hbl : ∀ e ∈ c.all, e.pg.b.length ≤ 1000000) (hbl2 : ∀ g, Lr.find c.all k = some g → g.b.length ≤ 1000000) : Calls Try.prog 20 #[cp p, .int .i64 k] w (GetZ base p c k w) := by
  obtain ⟨m, fs, h⟩ := h
  refine (get_any h k hk hu hbl).mono fun e w' hg => ?_
  rcases hg with ⟨hf, he, hb⟩ | ⟨g, v, fs', w1, hf, he, hc1, hs1, hb1, ho1⟩
  · exact ⟨_, _, [], w, c, he, ⟨m, fs, h⟩, Below.refl _ _, KT.refl _, hb, OwnB.nil _ _ _, by simp, .inl ⟨hf, rfl⟩⟩
  · exact ⟨v, _, g.b, w1, _, he, ⟨m, fs', hc1⟩, hs1.bel, KT.of_stp h hs1, hb1, ho1, hbl2 g hf, .inr ⟨by rw [hf]; simp, rfl⟩⟩
theorem rget_Z {w : World} {base q : Nat} {r : RC} (h : RX w base q r) (k : Int) (hbl : ∀ it ∈ r.l, it.b.length ≤ 1000000) : Calls Try.prog 25 #[cp q, .int .i64 k] w (RGetP base q r k w) := by
  obtain ⟨ls, lv, rv, h⟩ := h
  exact rget_any h k hbl
/-- both Gets leave both caches alike -/
theorem AS.got {w w1 w2 w3 : World} {base p q t : Nat} {c c2 : CM} {r : RC} {k : Int} {e : Ending} (h : AS w base p q t c r) (hc : HC w1 base p c2) (hb2 : Below w1.heap.size w1 w2) (h2 : (Lr.find c.all k = none ∧ c2 = c) ∨ (Lr.find c.all k ≠ none ∧ c2 = getM c k)) (hr : RGetP base q r k w2 e w3) : ∃ c' r', AS w3 base p q (t + 1) c' r' := by
  obtain ⟨hs, hr⟩ := hr
  have hc3 : HC w3 base p c2 := (hc.below hb2).kr hs.kr
  rcases h2 with ⟨hf, rfl⟩ | ⟨hf, rfl⟩
  · rcases hr with ⟨ha, _, hx⟩ | ⟨i, it, v, ha, hi, _, hx, _⟩
    · exact ⟨_, _, { hc := hc3, hx := hx, sim := h.sim.mono (Nat.le_succ _), len := h.len, room := h.room }⟩
    · have := h.sim.at_none.2 hf
      rw [this] at ha; cases ha
  · rcases hr with ⟨ha, _, hx⟩ | ⟨i, it, v, ha, hi, _, hx, _⟩
    · exact absurd (h.sim.at_none.1 ha) hf
    · have hkl : (getM c k).all.length = c.all.length := by have := congrArg List.length (get_keys c k); simpa using this
      exact ⟨_, _, { hc := hc3, hx := hx, sim := h.sim.get ha, len := by rw [hkl, get_room]; exact h.len, room := by rw [get_room]; exact h.room }⟩
theorem copy_H {w : World} {base p : Nat} {c : CM} (h : HC w base p c) (hu : c.uses ≤ 1000000000) (hbl : ∀ e ∈ c.all, e.pg.b.length ≤ 1000000) (hs : ∀ m fs, CK w base p m c fs All → Sm c.all) (hl : c.all.length ≤ 1000000) :
    Calls Try.prog 23 #[cp p] w fun e w' => e = .returned (cp (w.heap.size + 1)) ∧ Below w.heap.size w w' ∧ HC w' w.heap.size (w.heap.size + 1) c := by
  obtain ⟨m, fs, h⟩ := h
  exact (copy_any h hu hbl (hs m fs h) hl).mono fun e w' ⟨he, hb, fs', hc⟩ => ⟨he, hb, ⟨_, fs', hc⟩⟩
theorem rcopy_X {w : World} {base q : Nat} {r : RC} (h : RX w base q r) (hbl : ∀ it ∈ r.l, it.b.length ≤ 1000000) : Calls Try.prog 24 #[cp q] w fun e w' => ∃ q', e = .returned (cp q') ∧ RX w' w.heap.size q' r ∧ Below w.heap.size w w' := by
  obtain ⟨ls, lv, rv, h⟩ := h
  exact rcopy_any h hbl
set_option maxRecDepth 100000 in
set_option maxHeartbeats 2000000 in
theorem copies_any (fs1 : List AI) (v1 : Value) (fs2 : List AI) (v2 : Value) (w : World) (h1 : SlA w w.heap.size v1 fs1) (h2 : SlA w w.heap.size v2 fs2) : Calls Try.prog 8 #[v1, v2] w fun e w' => e = .returned (.bool true) ∧ Below w.heap.size w w' := by
  have HV := hid (heavy_any fs1 v1 w h1)
  have hlen1 := h1.len
  have hlen2 := h2.len
  obtain ⟨oa, nn, cc, rfl⟩ : ∃ oa n c, v1 = .slice oa n c := by obtain ⟨oa, c, e, _⟩ := h1.1; exact ⟨_, _, _, e⟩
  obtain ⟨ob, mm, dd, rfl⟩ : ∃ oa n c, v2 = .slice oa n c := by obtain ⟨oa, c, e, _⟩ := h2.1; exact ⟨_, _, _, e⟩
  have HS := hid h1
  have HT := hid h2
  clear h1 h2
  go_enter Try.func8, Try.ntmps8
  go_wp2_with fail
  refine HV.out.mono ?_
  rintro e w0 ⟨bb, rfl, hbb, hb0⟩
  have H0 := hid (And.intro hbb hb0)
  have HV2 := hid (heavy_any fs2 (.slice ob mm dd) w0 ((HT.out.below hb0).mono hb0.size))
  clear hbb hb0 HV
  cases bb
  · obtain ⟨h80, h200⟩ := H0.out.1 rfl
    have H8 := hid h200
    clear h200
    go_wp2_with fail
    refine HV2.out.mono ?_
    rintro e w00 ⟨b2, rfl, hbb2, hb00⟩
    have H00 := hid (And.intro hbb2 (H0.out.2.trans (hb00.mono H0.out.2.size)))
    clear hbb2 hb00 HV2
    cases b2
    · obtain ⟨h80b, h200b⟩ := H00.out.1 rfl
      have H8b := hid h200b
      clear h200b
      have HN := hid (new_H 6 w00 (by decide) (by decide))
      go_wp2_with fail
      refine HN.out.mono ?_
      rintro e w1 ⟨rfl, hc1, hb1⟩
      have H1 := hid (And.intro hc1 hb1)
      have HRN := hid (rnew_any 6 w1 (by decide) (by decide))
      clear hc1 hb1 HN
      go_wp2_with fail
      refine HRN.out.mono ?_
      rintro e w2 ⟨rfl, hx2, hb2⟩
      have H2 := hid (And.intro (AS.start H1.out.1 H1.out.2 hx2 hb2 (by decide)) (H1.out.2.trans (hb2.mono H1.out.2.size)))
      clear hx2 hb2 HRN
      go_wp2_with fail
      refine (num_any 0 _).mono ?_
      rintro e w' ⟨rfl, rfl⟩
      go_wp2_with fail
      go_loopw [9] (fun s9 wr => ∃ (i : Nat) (c : CM) (r : RC), s9 = .int .i64 i ∧ i ≤ fs1.length ∧ AS wr w00.heap.size (w00.heap.size + 1) w1.heap.size i c r ∧ Below w00.heap.size w00 wr) (fun s9 _ => 200 - (intOf s9).toNat)
      case atStart => exact ⟨0, _, _, rfl, by omega, H2.out.1, H2.out.2⟩
      case round =>
        obtain ⟨i, c, r, rfl, hi, hA, hbl⟩ := hrel
        by_cases hlt : i < fs1.length
        · obtain ⟨f, hf⟩ : ∃ f, fs1[i]? = some f := ⟨_, List.getElem?_eq_getElem hlt⟩
          have hfm := List.mem_of_getElem? hf
          have hSr := (HS.out.below H00.out.2).below (hbl.mono H00.out.2.size)
          obtain ⟨b, o, hb, hia, g0, g1, g2, g3, g4⟩ := hSr.item hf
          obtain ⟨hsb, _, hik, hif⟩ := hSr.2 f hfm
          have HC := hid (act_any hA (by omega) f w.heap.size H00.out.2.size hsb (Nat.le_trans (H8.out f hfm) (by omega)) hik hif)
          obtain ⟨xa, xn, xc, hbv⟩ := slB_shape hsb
          rw [hbv] at g3 HC
          have HX := hid (And.intro hA.base_le hbl)
          clear hA hbl hf hfm hSr hb hsb hik hif hbv
          go_wp2_with fail
          refine HC.out.mono ?_
          rintro e w5 ⟨rfl, ⟨c5, r5, hA5⟩, hb5⟩
          have H5 := hid (And.intro hA5 (HX.out.2.trans hb5))
          clear hA5 hb5 HC
          go_wp2_with fail
          exact ⟨⟨i + 1, c5, r5, by go_num, by omega, H5.out.1, H5.out.2⟩, by simp [intOf]; omega⟩
        · obtain rfl : i = fs1.length := by omega
          obtain ⟨t, ht⟩ : ∃ t, t = fs1.length := ⟨_, rfl⟩
          rw [← ht] at hA
          have ht80 : t ≤ 80 := by omega
          have hln := hA.len
          have hrm := hA.room
          have HCP := hid (copy_H hA.hc (by have := hA.sim.ut; omega) (Sim.bs hA.sim) (fun m fs hk => (ok_of hA.hc hA.sim (by omega) (by omega)).sm) (by omega))
          have HX := hid (And.intro hA hbl)
          obtain ⟨wO, hwO⟩ : ∃ x, x = wr := ⟨_, rfl⟩
          subst hwO
          clear hA hbl hln hrm
          go_wp2_with fail
          refine HCP.out.mono ?_
          rintro e w5 ⟨rfl, hb5, hc5⟩
          have HRC := hid (rcopy_X ((HX.out.1.below hb5).hx) HX.out.1.sim.bl)
          have H5 := hid (And.intro hb5 hc5)
          clear hb5 hc5 HCP
          go_wp2_with fail
          refine HRC.out.mono ?_
          rintro e w6 ⟨q6, rfl, hx6, hb6⟩
          have H6 := hid (show AS w6 wO.heap.size (wO.heap.size + 1) q6 t c r ∧ Below wO.heap.size wO w6 from ⟨{ hc := H5.out.2.below hb6, hx := hx6.any_base H5.out.1.size, sim := HX.out.1.sim, len := HX.out.1.len, room := HX.out.1.room }, H5.out.1.trans (hb6.mono H5.out.1.size)⟩)
          clear hx6 hb6 HRC
          go_wp2_with fail
          go_loopw [12] (fun s9 wr => ∃ (i : Nat) (c' : CM) (r' : RC), s9 = .int .i64 i ∧ i ≤ fs2.length ∧ AS wr wO.heap.size (wO.heap.size + 1) q6 (t + i) c' r' ∧ Below wO.heap.size wO wr) (fun s9 _ => 200 - (intOf s9).toNat)
          case atStart => exact ⟨0, _, _, rfl, by omega, H6.out.1, H6.out.2⟩
          case round =>
            obtain ⟨i, c', r', rfl, hi, hA, hbl⟩ := hrel
            by_cases hlt : i < fs2.length
            · obtain ⟨f, hf⟩ : ∃ f, fs2[i]? = some f := ⟨_, List.getElem?_eq_getElem hlt⟩
              have hfm := List.mem_of_getElem? hf
              have hle := HX.out.1.base_le
              have hSr := ((HT.out.below H00.out.2).below (HX.out.2.mono H00.out.2.size)).below (hbl.mono (Nat.le_trans H00.out.2.size hle))
              obtain ⟨b, o, hb, hia, g0, g1, g2, g3, g4⟩ := hSr.item hf
              obtain ⟨hsb, _, hik, hif⟩ := hSr.2 f hfm
              have HC := hid (act_any hA (by omega) f w.heap.size (Nat.le_trans H00.out.2.size hle) hsb (Nat.le_trans (H8b.out f hfm) (by omega)) hik hif)
              obtain ⟨xa, xn, xc, hbv⟩ := slB_shape hsb
              rw [hbv] at g3 HC
              have HY := hid hbl
              clear hA hbl hf hfm hSr hb hsb hik hif hbv hle
              go_wp2_with fail
              refine HC.out.mono ?_
              rintro e w5 ⟨rfl, ⟨c5, r5, hA5⟩, hb5⟩
              have H7 := hid (And.intro hA5 (HY.out.trans hb5))
              clear hA5 hb5 HC
              go_wp2_with fail
              exact ⟨⟨i + 1, c5, r5, by go_num, by omega, H7.out.1, H7.out.2⟩, by simp [intOf]; omega⟩
            · obtain rfl : i = fs2.length := by omega
              have hle := HX.out.1.base_le
              have HM := hid (And.intro (HX.out.1.below hbl) (HX.out.2.trans (hbl.mono hle)))
              clear hA hbl hle
              obtain ⟨wM, hwM⟩ : ∃ x, x = wr := ⟨_, rfl⟩
              subst hwM
              go_wp2_with fail
              go_loopw [13] (fun s9 wr => ∃ (i : Nat) (c' : CM) (r' : RC), s9 = .int .i64 i ∧ i ≤ 8 ∧ AS wr w00.heap.size (w00.heap.size + 1) w1.heap.size (t + i) c' r' ∧ Below w00.heap.size w00 wr) (fun s9 _ => 200 - (intOf s9).toNat)
              case atStart => exact ⟨0, _, _, rfl, by omega, HM.out.1, HM.out.2⟩
              case round =>
                obtain ⟨i, c', r', rfl, hi, hA, hbl⟩ := hrel
                by_cases hlt : i < 8
                · have hki : isI (i : Int) := by unfold isI; omega
                  have HG := hid (get_Z hA.hc (i : Int) hki (by have := hA.sim.ut; omega) (Sim.bs hA.sim) (fun g hg => by obtain ⟨e, he, h1, h2⟩ := find_mem hg; have := Sim.bs hA.sim e he; rw [← h2]; exact this))
                  have HY := hid (And.intro hA hbl)
                  obtain ⟨wR, hwR⟩ : ∃ x, x = wr := ⟨_, rfl⟩
                  subst hwR
                  clear hA hbl hki
                  go_wp2_with fail
                  refine HG.out.mono ?_
                  rintro e w7 ⟨v7, ok7, bs7, w8, c7, rfl, hc7, hb8, hk8, hb7, ho7, hl7, hor⟩
                  have H7 := hid (And.intro hc7 (And.intro hb8 (And.intro hk8 hor)))
                  have H7b := hid (And.intro ho7 hb7)
                  obtain ⟨ya, yn, yc, rfl⟩ := slB_shape ho7.slB
                  have hlen7 := ho7.slB.len (P := Try.prog) (t := 22) (e := 5) (ty := 3) Try.underlying22
                  clear hc7 hb8 hk8 hor ho7 hb7 HG
                  go_wp2_with fail
                  go_loopw [16] (fun s9 wr => ∃ (j : Nat) (bs : List UInt8), s9 = .int .i64 j ∧ j ≤ bs7.length ∧ bs.length = bs7.length ∧ OwnB wr w8.heap.size 5 (.slice ya yn yc) bs ∧ Below w8.heap.size w8 wr) (fun s9 _ => 1000001 - (intOf s9).toNat)
                  case atStart => exact ⟨0, _, rfl, by omega, rfl, H7b.out.1, H7b.out.2⟩
                  case round =>
                    obtain ⟨j, bs, rfl, hj, hbs, ho, hbl⟩ := hrel
                    by_cases hjl : j < bs7.length
                    · rcases ho.shape with ⟨_, h0⟩ | ⟨g, cap, hv, hg1, hg2, hg3, hg4, hg5⟩
                      · exfalso; subst h0; simp at hbs; omega
                      · cases hv
                        have hst := (ho.store j 255).resolve_right (by omega)
                        have hbl' : Below w8.heap.size w8 (wr.setCell ⟨g, j, none⟩ (u8 255)) := hbl.setCell hg1 _
                        have hfz := ho.fz j
                        have hca := ho.cellAt j (by omega)
                        have hia := ho.slB.addr (P := Try.prog) (t := 22) (e := 5) Try.underlying22 szB5 j (by omega)
                        have HZ := hid (And.intro hst hbl')
                        clear hst hbl' ho hbl hg5
                        go_wp2_with fail
                        exact ⟨⟨j + 1, _, by go_num, by omega, by rw [List.length_set]; exact hbs, HZ.out.1, HZ.out.2⟩, by simp [intOf]; omega⟩
                    · obtain rfl : j = bs7.length := by omega
                      have hx := (HY.out.1.hx.kt H7.out.2.2.1).below hbl
                      have HRG := hid (rget_Z hx (i : Int) HY.out.1.sim.bl)
                      have HZ := hid hbl
                      clear ho hbl hx
                      go_wp2_with fail
                      refine HRG.out.mono ?_
                      rintro e w9 hr9
                      have hb9 := hr9.1.bel
                      have HA9 := hid (And.intro (HY.out.1.got H7.out.1 HZ.out H7.out.2.2.2 hr9) (HY.out.2.trans ((H7.out.2.1.trans (HZ.out.mono H7.out.1.base_le)).trans hb9)))
                      have hret : ∃ v, e = .returned v := by
                        rcases hr9.2 with ⟨_, h, _⟩ | ⟨_, _, _, _, _, h, _⟩
                        · exact ⟨_, h⟩
                        · exact ⟨_, h⟩
                      obtain ⟨v9, rfl⟩ := hret
                      clear hr9 hb9 HRG
                      obtain ⟨c9, r9, hA9⟩ := HA9.out.1
                      have HB9 := hid (And.intro hA9 HA9.out.2)
                      clear hA9
                      go_wp2_with fail
                      exact ⟨⟨i + 1, c9, r9, by go_num, by omega, HB9.out.1, HB9.out.2⟩, by simp [intOf]; omega⟩
                · have hi8 : i = 8 := by omega
                  have hic : (i : Int) = 8 := by omega
                  rw [hi8] at hA
                  rw [hic]
                  clear hic hlt hi hi8
                  have HY := hid (And.intro hA hbl)
                  clear hA hbl
                  obtain ⟨wN, hwN⟩ : ∃ x, x = wr := ⟨_, rfl⟩
                  subst hwN
                  go_wp2_with fail
                  go_loopw [17] (fun s9 wr => ∃ (i : Nat) (c' : CM) (r' : RC), s9 = .int .i64 i ∧ i ≤ fs2.length ∧ AS wr w00.heap.size (w00.heap.size + 1) w1.heap.size (t + 8 + i) c' r' ∧ Below w00.heap.size w00 wr) (fun s9 _ => 200 - (intOf s9).toNat)
                  case atStart => exact ⟨0, _, _, rfl, by omega, HY.out.1, HY.out.2⟩
                  case round =>
                    obtain ⟨i, c', r', rfl, hi, hA, hbl⟩ := hrel
                    by_cases hlt : i < fs2.length
                    · obtain ⟨f, hf⟩ : ∃ f, fs2[i]? = some f := ⟨_, List.getElem?_eq_getElem hlt⟩
                      have hfm := List.mem_of_getElem? hf
                      have hSr := (HT.out.below H00.out.2).below (hbl.mono H00.out.2.size)
                      obtain ⟨b, o, hb, hia, g0, g1, g2, g3, g4⟩ := hSr.item hf
                      obtain ⟨hsb, _, hik, hif⟩ := hSr.2 f hfm
                      have HC := hid (act_any hA (by omega) f w.heap.size H00.out.2.size hsb (Nat.le_trans (H8b.out f hfm) (by omega)) hik hif)
                      obtain ⟨xa, xn, xc, hbv⟩ := slB_shape hsb
                      rw [hbv] at g3 HC
                      have HU := hid hbl
                      clear hA hbl hf hfm hSr hb hsb hik hif hbv
                      go_wp2_with fail
                      refine HC.out.mono ?_
                      rintro e w5 ⟨rfl, ⟨c5, r5, hA5⟩, hb5⟩
                      have H7 := hid (And.intro hA5 (HU.out.trans hb5))
                      clear hA5 hb5 HC
                      go_wp2_with fail
                      exact ⟨⟨i + 1, c5, r5, by go_num, by omega, H7.out.1, H7.out.2⟩, by simp [intOf]; omega⟩
                    · obtain rfl : i = fs2.length := by omega
                      have HU := hid hbl
                      clear hA hbl
                      go_wp2_with fail
                      refine (awake_any _).mono ?_
                      rintro e w9 ⟨rfl, hb9⟩
                      have HB9 := hid hb9
                      clear hb9
                      go_wp2_with fail
                      go_ret
                      have h1 := H00.out.2
                      have h2 := HU.out
                      have h3 := HB9.out
                      exact ⟨rfl, (h1.trans (h2.mono h1.size)).trans (h3.mono (Nat.le_trans h1.size h2.size))⟩
    · skip
      go_wp2_with fail
      refine (awake_any _).mono ?_
      rintro e w9 ⟨rfl, hb9⟩
      have HB9 := hid hb9
      clear hb9
      go_wp2_with fail
      go_ret
      exact ⟨rfl, H00.out.2.trans (HB9.out.mono H00.out.2.size)⟩
  · clear HV2
    go_wp2_with fail
    refine (awake_any _).mono ?_
    rintro e w9 ⟨rfl, hb9⟩
    have HB9 := hid hb9
    clear hb9
    go_wp2_with fail
    go_ret
    exact ⟨rfl, H0.out.2.trans (HB9.out.mono H0.out.2.size)⟩
end Go.Proofs.Ytbklhhmcigangaa
