import Derived.Test.YtoccgpddmhhlgaaW
namespace Go.Proofs.Ytoccgpddmhhlgaa
open Go.RowKit Go.Mx Go.Crc Go.Str

def dataTo (l : List Rec) (k : Nat) : Nat := ((l.take k).flatMap fun r => r.data).length
theorem dataTo_succ (l : List Rec) (k : Nat) (h : k < l.length) : dataTo l (k + 1) = dataTo l k + (l.getD k default).data.length := by
  unfold dataTo; rw [takeD l k default h, List.flatMap_append, List.length_append]; simp
theorem dataTo_le (l : List Rec) (k : Nat) : dataTo l k ≤ (l.flatMap fun r => r.data).length := by
  unfold dataTo
  have : (l.flatMap fun r => r.data).length = ((l.take k).flatMap fun r => r.data).length + ((l.drop k).flatMap fun r => r.data).length := by
    rw [← List.length_append, ← List.flatMap_append, List.take_append_drop]
  omega

set_option maxRecDepth 100000 in
set_option maxHeartbeats 4000000 in
theorem long_any (s : Strm) (sv : Value) (w : World) (h : SlR w w.heap.size sv s.recs) :
    Calls Try.prog 9 #[strmV s sv] w fun e w' => e = .returned (.bool true) ∧ Below w.heap.size w w' := by
  have B0 := Bx.new h
  have hll := h.small
  have hlen := fun w' => h.len (ty := 3) w'
  have HB0 := hid B0
  have HG := hid (great_any s sv _ B0.slw)
  clear h B0
  have e0 : strmV s sv = .agg #[.bool s.full, .int .i64 s.size, sv] := rfl
  rw [e0]
  clear e0
  go_enter Try.func9, Try.ntmps9
  go_wp2_with fail
  refine HG.out.mono ?_
  rintro e w1 ⟨⟨g, rfl⟩, hb1⟩
  have B1 := HB0.out.step hb1
  obtain ⟨c0, c1, c2⟩ := B1.cells
  have HB1 := hid B1
  clear HG HB0 hb1 B1
  cases g
  rotate_left
  · go_wp2_with (go_at_call 20; refine (awake_any _).mono ?_; rintro e w2 ⟨rfl, hb2⟩)
    go_ret
    exact ⟨rfl, HB1.out.bel.trans (hb2.mono HB1.out.bel.size)⟩
  have HR := hid (rright_any s sv _ HB1.out.slw)
  go_wp2_with fail
  refine HR.out.mono ?_
  rintro e w2 ⟨rfl, hb2⟩
  have B2 := HB1.out.step hb2
  clear c0 c1 c2
  obtain ⟨c0, c1, c2⟩ := B2.cells
  have HB2 := hid B2
  clear HR HB1 hb2 B2
  cases hr : right s
  · go_wp2_with (go_at_call 20; refine (awake_any _).mono ?_; rintro e w3 ⟨rfl, hb3⟩)
    go_ret
    exact ⟨rfl, HB2.out.bel.trans (hb3.mono HB2.out.bel.size)⟩
  have HRT := hid hr
  clear hr
  have hm := right_mem HRT.out
  have hrl : s.recs.length ≤ 4096 := hm.2.2.1
  have hfl : (s.recs.flatMap fun r => r.data).length ≤ 65536 := hm.2.2.2.1
  clear hm
  go_wp2_with fail
  go_loop [3, 4] (fun n i => ∃ k : Nat, k ≤ s.recs.length ∧ i = .int .i64 k ∧ n = .int .i64 ((13 + (8 * k + dataTo s.recs k) : Nat) : Int)) (fun _ i => s.recs.length - (intOf i).toNat)
  case atStart => exact ⟨0, by omega, rfl, rfl⟩
  case round =>
    obtain ⟨k, hk, rfl, rfl⟩ := hrel
    have hdt := Nat.le_trans (dataTo_le s.recs k) hfl
    by_cases hlt : k < s.recs.length
    · obtain ⟨b, o, dv, hbb, hia, d0, d1, hs⟩ := HB2.out.sl.at k hlt
      have hld := fun w' => hs.len (P := Try.prog) (ty := 3) Try.underlying25 w'
      have HDS := hid (dataTo_succ s.recs k hlt)
      have hdt1 := Nat.le_trans (dataTo_le s.recs (k + 1)) hfl
      have hml : (s.recs.getD k default).data.length ≤ 65536 := by have := HDS.out; omega
      obtain ⟨m, hm⟩ : ∃ m, m = (s.recs.getD k default).data.length := ⟨_, rfl⟩
      rw [← hm] at hld hml HDS
      obtain ⟨D, hD⟩ : ∃ D, D = dataTo s.recs k := ⟨_, rfl⟩
      rw [← hD] at HDS hdt ⊢
      clear hm hs d0 hD hdt1
      go_wp2_with fail
      go_round
      case rel => exact ⟨k + 1, by omega, by go_num, by rw [HDS.out]; go_num⟩
      case measure => simp [intOf]; omega
    · obtain rfl : k = s.recs.length := by omega
      have HC := hid (sput_any s sv w2 HB2.out.slw)
      have hpr : putR s = (putB s, 0) := by unfold putR; rw [HRT.out]; rfl
      rw [hpr] at HC
      have HPL := hid (show (putB s).length = 13 + (8 * s.recs.length + dataTo s.recs s.recs.length) by rw [putB_length]; unfold dataTo; rw [List.take_length])
      obtain ⟨L, hL⟩ : ∃ L, L = 13 + (8 * s.recs.length + dataTo s.recs s.recs.length) := ⟨_, rfl⟩
      have hLb : L ≤ 200000 := by omega
      rw [← hL] at HPL ⊢
      clear hL hpr hdt
      go_wp2_with fail
      refine HC.out.mono ?_
      rintro e w3 ⟨v, rfl, ho, hb3⟩
      have hlb := fun w' => ho.slB.len (P := Try.prog) (ty := 3) Try.underlying25 w'
      rw [HPL.out] at hlb
      have hle : ((L : Int) == (L : Int)) = true := by simp
      have HB3 := hid (HB2.out.bel.trans (hb3.mono HB2.out.bel.size))
      clear HC ho hb3
      go_wp2_with (first | (go_at_call 25; refine (snumE_any _ _).mono ?_; rintro e w' ⟨rfl, rfl⟩) | (go_at_call 20; refine (awake_any _).mono ?_; rintro e w4 ⟨rfl, hb4⟩))
      go_ret
      exact ⟨rfl, HB3.out.trans (hb4.mono HB3.out.size)⟩
end Go.Proofs.Ytoccgpddmhhlgaa
