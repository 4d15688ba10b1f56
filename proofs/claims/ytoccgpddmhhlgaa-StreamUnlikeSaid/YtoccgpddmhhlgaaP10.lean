import Derived.Test.YtoccgpddmhhlgaaW
import Derived.Deep.RegionHeld
namespace Go.Proofs.Ytoccgpddmhhlgaa
open Go.RowKit Go.Mx Go.Crc Go.Str

/-- two boxed streams -/
structure Bx2 (w0 w : World) (s : Strm) (sv : Value) (t : Strm) (tv : Value) : Prop where
  box : w.heap[w0.heap.size]? = some (.cells #[.bool s.full, .int .i64 s.size, sv] 39 (0, 0))
  box2 : w.heap[w0.heap.size + 1]? = some (.cells #[.bool t.full, .int .i64 t.size, tv] 39 (0, 0))
  sl : SlR w w0.heap.size sv s.recs
  sl2 : SlR w w0.heap.size tv t.recs
  bel : Below w0.heap.size w0 w
theorem Bx2.new {w : World} {s t : Strm} {sv tv : Value} (h : SlR w w.heap.size sv s.recs) (h2 : SlR w w.heap.size tv t.recs) :
    Bx2 w ((w.alloc (.cells #[.bool s.full, .int .i64 s.size, sv] 39)).alloc (.cells #[.bool t.full, .int .i64 t.size, tv] 39)) s sv t tv := by
  have hb1 : Below w.heap.size w (w.alloc (.cells #[.bool s.full, .int .i64 s.size, sv] 39)) := (Below.refl _ _).alloc (Nat.le_refl _) _
  have hb2 : Below (w.alloc (.cells #[.bool s.full, .int .i64 s.size, sv] 39)).heap.size (w.alloc (.cells #[.bool s.full, .int .i64 s.size, sv] 39)) ((w.alloc (.cells #[.bool s.full, .int .i64 s.size, sv] 39)).alloc (.cells #[.bool t.full, .int .i64 t.size, tv] 39)) := (Below.refl _ _).alloc (Nat.le_refl _) _
  have hb := hb1.trans (hb2.mono hb1.size)
  refine ⟨(hb2.block _ (by simp)).trans (alloc_new w _), ?_, h.below hb (Nat.le_refl _), h2.below hb (Nat.le_refl _), hb⟩
  have := alloc_new (w.alloc (.cells #[.bool s.full, .int .i64 s.size, sv] 39)) (.cells #[.bool t.full, .int .i64 t.size, tv] 39)
  rwa [show (w.alloc (.cells #[.bool s.full, .int .i64 s.size, sv] 39)).heap.size = w.heap.size + 1 by simp] at this
theorem Bx2.step {w0 w w' : World} {s t : Strm} {sv tv : Value} (h : Bx2 w0 w s sv t tv) (hb : Below w.heap.size w w') : Bx2 w0 w' s sv t tv :=
  ⟨(hb.block _ (blk_lt h.box)).trans h.box, (hb.block _ (blk_lt h.box2)).trans h.box2, h.sl.below hb h.bel.size, h.sl2.below hb h.bel.size, h.bel.trans (hb.mono h.bel.size)⟩
theorem Bx2.cells {w0 w : World} {s t : Strm} {sv tv : Value} (h : Bx2 w0 w s sv t tv) : w.cell? ⟨w0.heap.size, 0, none⟩ = some (.bool s.full) ∧ w.cell? ⟨w0.heap.size, 1, none⟩ = some (.int .i64 s.size) ∧ w.cell? ⟨w0.heap.size, 2, none⟩ = some sv := by
  have h := h.box
  refine ⟨?_, ?_, ?_⟩ <;> simp [World.cell?, h]
theorem Bx2.cells2 {w0 w : World} {s t : Strm} {sv tv : Value} (h : Bx2 w0 w s sv t tv) : w.cell? ⟨w0.heap.size + 1, 0, none⟩ = some (.bool t.full) ∧ w.cell? ⟨w0.heap.size + 1, 1, none⟩ = some (.int .i64 t.size) ∧ w.cell? ⟨w0.heap.size + 1, 2, none⟩ = some tv := by
  have h := h.box2
  refine ⟨?_, ?_, ?_⟩ <;> simp [World.cell?, h]
theorem Bx2.slw {w0 w : World} {s t : Strm} {sv tv : Value} (h : Bx2 w0 w s sv t tv) : SlR w w.heap.size sv s.recs := h.sl.mono h.bel.size
theorem Bx2.slw2 {w0 w : World} {s t : Strm} {sv tv : Value} (h : Bx2 w0 w s sv t tv) : SlR w w.heap.size tv t.recs := h.sl2.mono h.bel.size

set_option maxRecDepth 100000 in
set_option maxHeartbeats 4000000 in
theorem unlike_any (s : Strm) (sv : Value) (t : Strm) (tv : Value) (w : World) (h : SlR w w.heap.size sv s.recs) (h2 : SlR w w.heap.size tv t.recs) :
    Calls Try.prog 10 #[strmV s sv, strmV t tv] w fun e w' => e = .returned (.bool true) ∧ Below w.heap.size w w' := by
  have B0 := Bx2.new h h2
  have HB0 := hid B0
  have HG := hid (great_any s sv _ B0.slw)
  clear h h2 B0
  have e0 : strmV s sv = .agg #[.bool s.full, .int .i64 s.size, sv] := rfl
  have e1 : strmV t tv = .agg #[.bool t.full, .int .i64 t.size, tv] := rfl
  rw [e0, e1]
  clear e0 e1
  go_enter Try.func10, Try.ntmps10
  go_wp2_with fail
  refine HG.out.mono ?_
  rintro e w1 ⟨⟨g, rfl⟩, hb1⟩
  have B1 := HB0.out.step hb1
  obtain ⟨c0, c1, c2⟩ := B1.cells
  obtain ⟨d0, d1, d2⟩ := B1.cells2
  have HB1 := hid B1
  clear HG HB0 hb1 B1
  cases g
  rotate_left
  · go_wp2_with (go_at_call 20; refine (awake_any _).mono ?_; rintro e w2 ⟨rfl, hb2⟩)
    go_ret
    exact ⟨rfl, HB1.out.bel.trans (hb2.mono HB1.out.bel.size)⟩
  have HG := hid (great_any t tv _ HB1.out.slw2)
  go_wp2_with fail
  refine HG.out.mono ?_
  rintro e w2 ⟨⟨g, rfl⟩, hb2⟩
  have B2 := HB1.out.step hb2
  clear c0 c1 c2 d0 d1 d2
  obtain ⟨c0, c1, c2⟩ := B2.cells
  obtain ⟨d0, d1, d2⟩ := B2.cells2
  have HB2 := hid B2
  clear HG HB1 hb2 B2
  cases g
  rotate_left
  · go_wp2_with (go_at_call 20; refine (awake_any _).mono ?_; rintro e w2 ⟨rfl, hb2⟩)
    go_ret
    exact ⟨rfl, HB2.out.bel.trans (hb2.mono HB2.out.bel.size)⟩
  have HR := hid (rright_any s sv _ HB2.out.slw)
  go_wp2_with fail
  refine HR.out.mono ?_
  rintro e w3 ⟨rfl, hb3⟩
  have B3 := HB2.out.step hb3
  clear c0 c1 c2 d0 d1 d2
  obtain ⟨c0, c1, c2⟩ := B3.cells
  obtain ⟨d0, d1, d2⟩ := B3.cells2
  have HB3 := hid B3
  clear HR HB2 hb3 B3
  cases hr : right s
  · go_wp2_with (go_at_call 20; refine (awake_any _).mono ?_; rintro e w4 ⟨rfl, hb4⟩)
    go_ret
    exact ⟨rfl, HB3.out.bel.trans (hb4.mono HB3.out.bel.size)⟩
  have HRS := hid hr
  clear hr
  have HR := hid (rright_any t tv _ HB3.out.slw2)
  go_wp2_with fail
  refine HR.out.mono ?_
  rintro e w4 ⟨rfl, hb4⟩
  have B4 := HB3.out.step hb4
  clear c0 c1 c2 d0 d1 d2
  obtain ⟨c0, c1, c2⟩ := B4.cells
  obtain ⟨d0, d1, d2⟩ := B4.cells2
  have HB4 := hid B4
  clear HR HB3 hb4 B4
  cases hr : right t
  · go_wp2_with (go_at_call 20; refine (awake_any _).mono ?_; rintro e w5 ⟨rfl, hb5⟩)
    go_ret
    exact ⟨rfl, HB4.out.bel.trans (hb5.mono HB4.out.bel.size)⟩
  have HRT := hid hr
  clear hr
  have HC := hid (sput_any s sv _ HB4.out.slw)
  rw [show putR s = (putB s, 0) by unfold putR; rw [HRS.out]; rfl] at HC
  go_wp2_with fail
  refine HC.out.mono ?_
  rintro e w5 ⟨v1, rfl, ho1, hb5⟩
  have B5 := HB4.out.step hb5
  clear c0 c1 c2 d0 d1 d2 HC
  obtain ⟨c0, c1, c2⟩ := B5.cells
  obtain ⟨d0, d1, d2⟩ := B5.cells2
  have HB5 := hid (And.intro B5 ho1)
  have HC := hid (sput_any t tv _ B5.slw2)
  rw [show putR t = (putB t, 0) by unfold putR; rw [HRT.out]; rfl] at HC
  clear HB4 hb5 B5 ho1
  go_wp2_with fail
  refine HC.out.mono ?_
  rintro e w6 ⟨v2, rfl, ho2, hb6⟩
  have B6 := HB5.out.1.step hb6
  clear c0 c1 c2 d0 d1 d2 HC
  have C0 : ∀ w', Below w6.heap.size w6 w' → w'.cell? ⟨w.heap.size, 0, none⟩ = some (.bool s.full) := fun w' h => (B6.step h).cells.1
  have C1 : ∀ w', Below w6.heap.size w6 w' → w'.cell? ⟨w.heap.size, 1, none⟩ = some (.int .i64 s.size) := fun w' h => (B6.step h).cells.2.1
  have C2 : ∀ w', Below w6.heap.size w6 w' → w'.cell? ⟨w.heap.size, 2, none⟩ = some sv := fun w' h => (B6.step h).cells.2.2
  have D0 : ∀ w', Below w6.heap.size w6 w' → w'.cell? ⟨w.heap.size + 1, 0, none⟩ = some (.bool t.full) := fun w' h => (B6.step h).cells2.1
  have D1 : ∀ w', Below w6.heap.size w6 w' → w'.cell? ⟨w.heap.size + 1, 1, none⟩ = some (.int .i64 t.size) := fun w' h => (B6.step h).cells2.2.1
  have D2 : ∀ w', Below w6.heap.size w6 w' → w'.cell? ⟨w.heap.size + 1, 2, none⟩ = some tv := fun w' h => (B6.step h).cells2.2.2
  have hs1 : SlB w6 w6.heap.size v1 (putB s) := (HB5.out.2.slB.below hb6 (Nat.le_refl _)).mono hb6.size
  have K1 : ∀ w', Below w6.heap.size w6 w' → (convert 25 9 v1).run Try.prog w' = .ok (.string ⟨(putB s).toArray⟩) w' := fun w' h => conv_sl Try.underlying25 Try.underlying5 Try.underlying9 (hs1.below h (Nat.le_refl _))
  have K2 : ∀ w', Below w6.heap.size w6 w' → (convert 25 9 v2).run Try.prog w' = .ok (.string ⟨(putB t).toArray⟩) w' := fun w' h => conv_sl Try.underlying25 Try.underlying5 Try.underlying9 (ho2.slB.below h (Nat.le_refl _))
  have HSM := hid (fun w' (h : Below w6.heap.size w6 w') => same_any s t sv tv w' (B6.step h).slw (B6.step h).slw2)
  have HIJ := hid (putB_inj s t HRS.out HRT.out)
  have HEQ := hid (show s = t → putB s = putB t from fun h => by rw [h])
  obtain ⟨ps, hps⟩ : ∃ ps, ps = putB s := ⟨_, rfl⟩
  obtain ⟨pt, hpt⟩ : ∃ pt, pt = putB t := ⟨_, rfl⟩
  rw [← hps] at K1 HIJ HEQ
  rw [← hpt] at K2 HIJ HEQ
  obtain ⟨r, hr⟩ : ∃ r, (ps == pt) = r := ⟨_, rfl⟩
  have HRR := hid hr
  have HB6 := hid B6
  clear HB5 hb6 ho2 hs1 B6 hps hpt
  have fin : ∀ q : Bool, Hid (q = true ↔ s = t) → q = r := by
    intro q hq
    rw [Bool.eq_iff_iff, hq.out, ← HRR.out, beq_iff_eq]
    exact ⟨HEQ.out, HIJ.out⟩
  have FIN := hid fin
  clear fin HIJ HEQ
  cases r
  all_goals (
    go_wp2_with fail
    go_region_held (fun w' => Below w6.heap.size w6 w') (first | exact (Below.refl _ _).drew | assumption | exact Below.drew (by assumption))
      (first
        | (go_at_call 27; refine (HSM.out _ (by assumption)).mono ?_; rintro e w7 ⟨q, rfl, hq, hb7⟩; have hb7' : Below w6.heap.size w6 w7 := Below.trans (by assumption) (hb7.mono (Below.size (by assumption))); obtain rfl := FIN.out q hq)
        | (go_at_call 25; refine (snumE_any _ _).mono ?_; rintro e w' ⟨rfl, rfl⟩)
        | (go_at_call 20; refine (awake_any _).mono ?_; rintro e w8 ⟨rfl, hb8⟩; have hb8' : Below w6.heap.size w6 w8 := Below.trans (by assumption) (hb8.mono (Below.size (by assumption)))))
    go_wp2_with fail
    go_ret
    exact ⟨rfl, HB6.out.bel.trans (Below.mono (by assumption) HB6.out.bel.size)⟩)
end Go.Proofs.Ytoccgpddmhhlgaa
