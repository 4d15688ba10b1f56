import Derived.Test.YtmcllcepoiakeaaGreatDO3
import Derived.Test.YtmcllcepoiakeaaGreatTR
import Derived.Lib.SlBytesConst
set_option linter.unusedSimpArgs false
set_option linter.unusedVariables false
namespace Go.Proofs.YtmcllcepoiakeaaGreat
open Go.RowKit Go.Mx Go.Proofs.YtmcllcepoiakeaaGreat.Dx Go.Dk Go.Cnt Go.Proofs.YtmcllcepoiakeaaGreat.Cx
set_option maxRecDepth 100000 in
set_option maxHeartbeats 2000000 in
theorem awake_any (w : World) : Calls Tryz.prog 9 #[] w fun e w' => e = .returned (.bool true) ∧ Below w.heap.size w w' := by
  go_enter Tryz.func9, Tryz.ntmps9
  go_wp2_with fail
  refine (empty_any 1000 w (by decide) (by decide)).mono ?_
  rintro e w1 ⟨p, m, aa, am, rfl, ha, hb⟩
  have H1 := hid ha
  have B1 := hid hb
  clear ha hb
  go_wp2_with fail
  refine (do_stepR H1.out (by decide) (by decide) (k := 0) (by decide) rfl).mono ?_
  rintro e w2 ⟨rfl, gs, ha, hka, hch⟩
  have B2 := hid (B1.out.trans hka.bel)
  clear hka
  obtain ⟨g, rfl, hnm, hbk⟩ : ∃ g, gs = [g] ∧ g.nm = [97] ∧ g.bk = [] := by
    have h1 : gs.map (fun g => (g.nm, g.bk)) = [([97], [])] := hch
    clear ha hch
    cases gs with
    | nil => simp at h1
    | cons g r =>
      cases r with
      | nil => simp at h1; exact ⟨g, rfl, h1.1, h1.2⟩
      | cons g2 r => simp at h1
  have H2 := hid (And.intro ha (And.intro hnm hbk))
  clear ha hnm hbk hch
  have kc := Lib.run_convert_bytes_const (P := Tryz.prog) w2 26 5 #[.int .u8 102, .int .u8 101, .int .u8 100, .int .u8 99, .int .u8 98, .int .u8 97, .int .u8 57, .int .u8 56, .int .u8 55, .int .u8 54, .int .u8 53, .int .u8 52, .int .u8 51, .int .u8 50, .int .u8 49, .int .u8 48] 16 16 Tryz.underlying26 Tryz.underlying5
  go_wp2_with fail
  have hB3 : Below w2.heap.size w2 (w2.alloc (.cells #[.int .u8 102, .int .u8 101, .int .u8 100, .int .u8 99, .int .u8 98, .int .u8 97, .int .u8 57, .int .u8 56, .int .u8 55, .int .u8 54, .int .u8 53, .int .u8 52, .int .u8 51, .int .u8 50, .int .u8 49, .int .u8 48] 5 (16, 17))) := (Below.refl _ _).alloc (Nat.le_refl _) _
  have hdv : DV (w2.alloc (.cells #[.int .u8 102, .int .u8 101, .int .u8 100, .int .u8 99, .int .u8 98, .int .u8 97, .int .u8 57, .int .u8 56, .int .u8 55, .int .u8 54, .int .u8 53, .int .u8 52, .int .u8 51, .int .u8 50, .int .u8 49, .int .u8 48] 5 (16, 17))) (.slice (some ⟨w2.heap.size, 0, none⟩) 16 16) := ⟨_, _, rfl, alloc_new w2 _⟩
  have B3 := hid (B2.out.trans (hB3.mono B2.out.size))
  have HW := hid (do_wr (H2.out.1.below hB3) H2.out.2.1 H2.out.2.2 (by decide) (by decide) hdv)
  generalize (w2.alloc (.cells #[.int .u8 102, .int .u8 101, .int .u8 100, .int .u8 99, .int .u8 98, .int .u8 97, .int .u8 57, .int .u8 56, .int .u8 55, .int .u8 54, .int .u8 53, .int .u8 52, .int .u8 51, .int .u8 50, .int .u8 49, .int .u8 48] 5 (16, 17))) = w3 at *
  clear kc hB3 hdv
  refine HW.out.mono ?_
  rintro e w4 ⟨rfl, hb4, B, tv, hv, hAW⟩
  have B4 := hid (B3.out.trans hb4)
  clear hb4
  have HR := hid (do_rd hAW H2.out.2.1 (by decide))
  clear hAW HW
  go_wp2_with fail
  refine HR.out.mono ?_
  rintro e w5 ⟨v, b0, rfl, ho, hb5⟩
  have B5 := hid (B4.out.trans hb5)
  clear hb5
  obtain ⟨va, vn, vc, rfl⟩ := slB_shape ho.slB
  have hb6 := bel1 w5 (.cells #[.int .i64 0, .slice va vn vc, nilS, nilS, .int .i64 0, .int .i64 0] 33)
  have B6 := hid (B5.out.trans (hb6.mono B5.out.size))
  have e6 := alloc_new w5 (.cells #[.int .i64 0, .slice va vn vc, nilS, nilS, .int .i64 0, .int .i64 0] 33)
  have o6 := conv_sl (P := Tryz.prog) (src := 26) (dst := 9) (e := 5) Tryz.underlying26 Tryz.underlying5 Tryz.underlying9 (ho.below hb6 fun k hk => (World.ownsRow.lt ho k hk).2).slB
  have k6 := fun j => cell_of e6 j
  clear ho e6
  go_wp2_with fail
  generalize w5.alloc _ = w6 at *
  go_wp2_with fail
  go_ret
  exact ⟨rfl, B6.out⟩
end Go.Proofs.YtmcllcepoiakeaaGreat
