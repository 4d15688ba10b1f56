import Derived.Test.YtbklhhmcigangaaRJ
namespace Go.Proofs.Ytbklhhmcigangaa
open Go.RowKit Go.Mx Go.Lr Go.Maps
set_option linter.unusedVariables false
set_option linter.unusedSimpArgs false
theorem sim_start (n : Nat) : Sim 0 ⟨n, [], 0⟩ ⟨n, [], []⟩ where
  room := rfl
  ul := ⟨by simp, by simp⟩
  val := by simp
  aft := fun a => rfl
  drt := by simp
  rank := ⟨fun _ => 0, by simp⟩
  kn := by simp
  us := by simp
  ut := Nat.le_refl _
  rt := Nat.le_refl _
  bl := by simp
theorem RX.any_base {w : World} {base b' q : Nat} {r : RC} (h : RX w base q r) (hb : b' ≤ base) : RX w b' q r := by
  obtain ⟨ls, lv, rv, h⟩ := h
  exact ⟨ls, lv, rv, { h with hq := Nat.le_trans hb h.hq, ol := h.ol.any_base hb, orr := h.orr.any_base hb, ob := fun f hf => (h.ob f hf).any_base hb }⟩
theorem new_bad (n : Int) (w : World) (h1 : n < 1 ∨ 1024 < n) : Calls Try.prog 10 #[.int .i64 n] w fun e w' => e = .returned (.tuple #[.pointer none, .int .i64 1]) ∧ Below w.heap.size w w' := by
  by_cases t1 : n < 1
  · go_enter Try.func10, Try.ntmps10
    go_wp2_with fail
    go_ret2
    exact ⟨rfl, Below.refl _ _⟩
  · have t2 : 1024 < n := by omega
    go_enter Try.func10, Try.ntmps10
    go_wp2_with fail
    go_ret2
    exact ⟨rfl, Below.refl _ _⟩
/-- two new caches -/
theorem AS.start {w w1 w2 : World} {p q n : Nat} (h1 : HC w1 w.heap.size p ⟨n, [], 0⟩) (hb1 : Below w.heap.size w w1) (h2 : RX w2 w1.heap.size q ⟨n, [], []⟩) (hb2 : Below w1.heap.size w1 w2) (hn : n ≤ 1024) : AS w2 w.heap.size p q 0 ⟨n, [], 0⟩ ⟨n, [], []⟩ where
  hc := h1.below hb2
  hx := h2.any_base hb1.size
  sim := sim_start n
  len := Nat.zero_le _
  room := hn
set_option maxRecDepth 100000 in
set_option maxHeartbeats 1000000 in
theorem runs_any (n : Int) (fs : List AI) (v : Value) (w : World) (hn : isI n) (hb : SlA w w.heap.size v fs) : Calls Try.prog 6 #[.int .i64 n, v] w fun e w' => e = .returned (.bool true) ∧ Below w.heap.size w w' := by
  have HV := hid (heavy_any fs v w hb)
  have hlen := hb.len
  obtain ⟨oa, nn, cc, rfl⟩ : ∃ oa n c, v = .slice oa n c := by obtain ⟨oa, c, e, _⟩ := hb.1; exact ⟨_, _, _, e⟩
  have HS := hid hb
  clear hb
  go_enter Try.func6, Try.ntmps6
  go_wp2_with fail
  refine HV.out.mono ?_
  rintro e w0 ⟨bb, rfl, hbb, hb0⟩
  have H0 := hid (And.intro hbb hb0)
  clear hbb hb0 HV
  cases bb
  · obtain ⟨h80, h200⟩ := H0.out.1 rfl
    have H8 := hid h200
    clear h200
    by_cases hin : 1 ≤ n ∧ n ≤ 1024
    · obtain ⟨R, rfl⟩ := Int.eq_ofNat_of_zero_le (show 0 ≤ n by omega)
      have hR : 1 ≤ R ∧ R ≤ 1024 := by omega
      clear hin hn
      go_wp2_with fail
      refine (new_H R w0 hR.1 hR.2).mono ?_
      rintro e w1 ⟨rfl, hc1, hb1⟩
      have H1 := hid (And.intro hc1 hb1)
      clear hc1 hb1
      go_wp2_with fail
      refine (rnew_any R w1 hR.1 hR.2).mono ?_
      rintro e w2 ⟨rfl, hx2, hb2⟩
      have H2 := hid (And.intro (AS.start H1.out.1 H1.out.2 hx2 hb2 hR.2) (H1.out.2.trans (hb2.mono H1.out.2.size)))
      clear hx2 hb2
      go_wp2_with fail
      refine (num_any 0 _).mono ?_
      rintro e w' ⟨rfl, rfl⟩
      go_wp2_with fail
      go_loopw [9] (fun s9 wr => ∃ (i : Nat) (c : CM) (r : RC), s9 = .int .i64 i ∧ i ≤ fs.length ∧ AS wr w0.heap.size (w0.heap.size + 1) w1.heap.size i c r ∧ Below w0.heap.size w0 wr) (fun s9 _ => 200 - (intOf s9).toNat)
      case atStart => exact ⟨0, _, _, rfl, by omega, H2.out.1, H2.out.2⟩
      case round =>
        obtain ⟨i, c, r, rfl, hi, hA, hbl⟩ := hrel
        by_cases hlt : i < fs.length
        · obtain ⟨f, hf⟩ : ∃ f, fs[i]? = some f := ⟨_, List.getElem?_eq_getElem hlt⟩
          have hfm := List.mem_of_getElem? hf
          have hSr := (HS.out.below H0.out.2).below (hbl.mono H0.out.2.size)
          obtain ⟨b, o, hb, hia, g0, g1, g2, g3, g4⟩ := hSr.item hf
          obtain ⟨hsb, _, hik, hif⟩ := hSr.2 f hfm
          have HC := hid (act_any hA (by omega) f w.heap.size H0.out.2.size hsb (Nat.le_trans (H8.out f hfm) (by omega)) hik hif)
          obtain ⟨xa, xn, xc, hbv⟩ := slB_shape hsb
          rw [hbv] at g3 HC
          have HX := hid (And.intro hA.base_le hbl)
          clear hA hbl hf hfm hSr hb hsb hik hif hbv
          go_wp2_with fail
          refine HC.out.mono ?_
          rintro e w5 ⟨rfl, ⟨c5, r5, hA5⟩, hb5⟩
          have H5 := hid (And.intro hA5 (HX.out.2.trans hb5))
          clear hA5 hb5 HC
          go_wp2_with fail
          exact ⟨⟨i + 1, c5, r5, by go_num, by omega, H5.out.1, H5.out.2⟩, by simp [intOf]; omega⟩
        · obtain rfl : i = fs.length := by omega
          have HX := hid hbl
          clear hA hbl
          go_wp2_with fail
          refine (awake_any _).mono ?_
          rintro e w9 ⟨rfl, hb9⟩
          have HB9 := hid hb9
          clear hb9
          go_wp2_with fail
          go_ret
          have h1 := H0.out.2
          have h2 := HX.out
          have h3 := HB9.out
          exact ⟨rfl, (h1.trans (h2.mono h1.size)).trans (h3.mono (Nat.le_trans h1.size h2.size))⟩
    · have hbad : n < 1 ∨ 1024 < n := by omega
      go_wp2_with fail
      refine (new_bad n w0 hbad).mono ?_
      rintro e w1 ⟨rfl, hb1⟩
      have H1 := hid hb1
      clear hb1
      go_wp2_with fail
      refine (rnew_bad n w1 hbad).mono ?_
      rintro e w2 ⟨rfl, hb2⟩
      have H2 := hid (H1.out.trans (hb2.mono H1.out.size))
      clear hb2
      go_wp2_with fail
      refine (num_any 1 _).mono ?_
      rintro e w' ⟨rfl, rfl⟩
      go_wp2_with fail
      refine wp_loop_once ?_
      go_wp2_with fail
      refine (awake_any _).mono ?_
      rintro e w9 ⟨rfl, hb9⟩
      have HB9 := hid hb9
      clear hb9
      go_wp2_with fail
      go_ret
      have h1 := H0.out.2
      have h2 := H2.out
      have h3 := HB9.out
      exact ⟨rfl, (h1.trans (h2.mono h1.size)).trans (h3.mono (Nat.le_trans h1.size h2.size))⟩
  · go_wp2_with fail
    refine (awake_any _).mono ?_
    rintro e w9 ⟨rfl, hb9⟩
    have HB9 := hid hb9
    clear hb9
    go_wp2_with fail
    go_ret
    exact ⟨rfl, H0.out.2.trans (HB9.out.mono H0.out.2.size)⟩
end Go.Proofs.Ytbklhhmcigangaa
