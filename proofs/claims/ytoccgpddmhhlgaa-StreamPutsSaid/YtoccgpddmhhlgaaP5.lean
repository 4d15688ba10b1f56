import Derived.Test.YtoccgpddmhhlgaaW
import Derived.Deep.RegionHeld
namespace Go.Proofs.Ytoccgpddmhhlgaa
open Go.RowKit Go.Mx Go.Crc Go.Str

theorem putR_len (s : Strm) : (putR s).1.length ≤ 98317 := by
  unfold putR
  cases hr : right s
  · simp
  · simpa using putB_short hr

set_option maxRecDepth 100000 in
set_option maxHeartbeats 4000000 in
theorem puts_any (s : Strm) (sv : Value) (w : World) (h : SlR w w.heap.size sv s.recs) :
    Calls Try.prog 5 #[strmV s sv] w fun e w' => e = .returned (.bool true) ∧ Below w.heap.size w w' := by
  have B0 := Bx.new h
  have HB0 := hid B0
  have HG := hid (great_any s sv _ B0.slw)
  clear h B0
  have e0 : strmV s sv = .agg #[.bool s.full, .int .i64 s.size, sv] := rfl
  rw [e0]
  clear e0
  go_enter Try.func5, Try.ntmps5
  go_wp2_with fail
  refine HG.out.mono ?_
  rintro e w1 ⟨⟨g, rfl⟩, hb1⟩
  have B1 := HB0.out.step hb1
  obtain ⟨c0, c1, c2⟩ := B1.cells
  have HB1 := hid B1
  clear HG HB0 hb1 B1
  cases g
  rotate_left
  · go_wp2_with (go_at_call 20; refine (awake_any _).mono ?_; rintro e w2 ⟨rfl, hb2⟩)
    go_ret
    exact ⟨rfl, HB1.out.bel.trans (hb2.mono HB1.out.bel.size)⟩
  have HC := hid (sput_any s sv _ HB1.out.slw)
  go_wp2_with fail
  refine HC.out.mono ?_
  rintro e w2 ⟨v1, rfl, ho1, hb2⟩
  have B2 := HB1.out.step hb2
  clear c0 c1 c2 HC
  obtain ⟨c0, c1, c2⟩ := B2.cells
  have HB2 := hid (And.intro B2 ho1)
  have HC := hid (rsput_any s sv _ B2.slw)
  clear HB1 hb2 B2 ho1
  go_wp2_with fail
  refine HC.out.mono ?_
  rintro e w3 ⟨v2, rfl, ho2, hb3⟩
  have B3 := HB2.out.1.step hb3
  clear c0 c1 c2 HC
  have C0 : ∀ w', Below w3.heap.size w3 w' → w'.cell? ⟨w.heap.size, 0, none⟩ = some (.bool s.full) := fun w' h => (B3.step h).cells.1
  have C1 : ∀ w', Below w3.heap.size w3 w' → w'.cell? ⟨w.heap.size, 1, none⟩ = some (.int .i64 s.size) := fun w' h => (B3.step h).cells.2.1
  have C2 : ∀ w', Below w3.heap.size w3 w' → w'.cell? ⟨w.heap.size, 2, none⟩ = some sv := fun w' h => (B3.step h).cells.2.2
  have hs1 : SlB w3 w3.heap.size v1 (putR s).1 := (HB2.out.2.slB.below hb3 (Nat.le_refl _)).mono hb3.size
  have K1 : ∀ w', Below w3.heap.size w3 w' → (convert 25 9 v1).run Try.prog w' = .ok (.string ⟨(putR s).1.toArray⟩) w' := fun w' h => conv_sl Try.underlying25 Try.underlying5 Try.underlying9 (hs1.below h (Nat.le_refl _))
  have K2 : ∀ w', Below w3.heap.size w3 w' → (convert 25 9 v2).run Try.prog w' = .ok (.string ⟨(putR s).1.toArray⟩) w' := fun w' h => conv_sl Try.underlying25 Try.underlying5 Try.underlying9 (ho2.slB.below h (Nat.le_refl _))
  obtain ⟨pl, hpl⟩ : ∃ pl, pl = (putR s).1 := ⟨_, rfl⟩
  rw [← hpl] at K1 K2
  obtain ⟨c, hc⟩ : ∃ c, c = (putR s).2 := ⟨_, rfl⟩
  rw [← hc]
  have HR1 := hid (fun w' (h : Below w3.heap.size w3 w') => right_any s sv w' (B3.step h).slw)
  have HR2 := hid (fun w' (h : Below w3.heap.size w3 w') => rright_any s sv w' (B3.step h).slw)
  obtain ⟨r, hr⟩ : ∃ r, r = right s := ⟨_, rfl⟩
  rw [← hr] at HR1 HR2
  have eq1 : (pl == pl) = true := by simp
  have eq2 : (c == c) = true := by simp
  have HB3 := hid B3
  clear HB2 hb3 ho2 hs1 B3 hr hpl hc
  cases r
  all_goals (
    go_wp2_with fail
    go_region_held (fun w' => Below w3.heap.size w3 w') (first | exact (Below.refl _ _).drew | assumption | exact Below.drew (by assumption))
      (first
        | (go_at_call 23; refine (HR1.out _ (by assumption)).mono ?_; rintro e w4 ⟨rfl, hb4⟩; have hb4' : Below w3.heap.size w3 w4 := Below.trans (by assumption) (hb4.mono (Below.size (by assumption))))
        | (go_at_call 24; refine (HR2.out _ (by assumption)).mono ?_; rintro e w5 ⟨rfl, hb5⟩; have hb5' : Below w3.heap.size w3 w5 := Below.trans (by assumption) (hb5.mono (Below.size (by assumption))))
        | (go_at_call 25; refine (snumE_any _ _).mono ?_; rintro e w' ⟨rfl, rfl⟩)
        | (go_at_call 20; refine (awake_any _).mono ?_; rintro e w6 ⟨rfl, hb6⟩; have hb6' : Below w3.heap.size w3 w6 := Below.trans (by assumption) (hb6.mono (Below.size (by assumption)))))
    go_wp2_with fail
    go_ret
    exact ⟨rfl, HB3.out.bel.trans (Below.mono (by assumption) HB3.out.bel.size)⟩)
end Go.Proofs.Ytoccgpddmhhlgaa
