import Derived.Test.YtoccgpddmhhlgaaBG
namespace Go.Bun
set_option linter.unusedSimpArgs false
set_option linter.unusedVariables false
theorem put_nil : putR [] = (bunB [], 0) := rfl
theorem bun_nil : (bunB []).length = 14 := by rw [bun_len]; rfl
end Go.Bun
namespace Go.Proofs.Ytoccgpddmhhlgaa
open Go.RowKit Go.Mx Go.Crc Go.Str Go.Bun
set_option linter.unusedSimpArgs false
set_option linter.unusedVariables false

theorem bnumE_any (n : Int) (w : World) : Calls Try.prog 18 #[.int .i64 n] w fun e w' => e = .returned (.int .i64 n) ∧ w = w' := by
  go_enter Try.func18, Try.ntmps18
  go_wp2
  go_ret
  exact ⟨rfl, rfl⟩

set_option maxRecDepth 100000 in
set_option maxHeartbeats 2000000 in
theorem bawake_any (w : World) : Calls Try.prog 14 #[] w fun e w' => e = .returned (.bool true) ∧ Below w.heap.size w w' := by
  have HC := hid (bput_any [] (.slice none 0 0) w (SlPt.nil _ _) (by decide))
  rw [put_nil] at HC
  go_enter Try.func14, Try.ntmps14
  go_wp2_with fail
  refine HC.out.mono ?_
  rintro e w1 ⟨v, rfl, ho, hb1⟩
  have hlb := fun w' => ho.slB.len (P := Try.prog) (ty := 3) Try.underlying25 w'
  rw [bun_nil] at hlb
  have hlb' : ∀ (w' : World), (Builtin.len_ #[25] 3 #[v]).run Try.prog w' = .ok (.int .i64 14) w' := hlb
  clear HC ho hlb
  go_wp2_with (go_at_call 18; refine (bnumE_any _ _).mono ?_; rintro e w' ⟨rfl, rfl⟩)
  go_ret
  exact ⟨rfl, hb1⟩

set_option maxRecDepth 100000 in
set_option maxHeartbeats 4000000 in
theorem puts_any3 (l : List Prt) (lv : Value) (w : World) (h : SlPt w w.heap.size lv l) (hn : ∀ p ∈ l, p.name.length ≤ 9223372036854775807) :
    Calls Try.prog 3 #[lv] w fun e w' => e = .returned (.bool true) ∧ Below w.heap.size w w' := by
  have H := hid h
  have HG := hid (bgreat_any l lv w h hn)
  clear h hn
  go_enter Try.func3, Try.ntmps3
  go_wp2_with fail
  refine HG.out.mono ?_
  rintro e w1 ⟨b, rfl, hg, hb1⟩
  have HB1 := hid hb1
  cases b
  rotate_left
  · clear hg hb1
    go_wp2_with fail
    refine (bawake_any _).mono ?_
    rintro e w2 ⟨rfl, hb2⟩
    go_wp2
    go_ret
    exact ⟨rfl, HB1.out.trans (hb2.mono HB1.out.size)⟩
  have hw := hg rfl
  have H1 := hid ((H.out.below hb1 (Nat.le_refl _)).mono hb1.size)
  have HC := hid (bput_any l lv w1 H1.out hw)
  have hw9 : l.length ≤ 50000 := by unfold wt at hw; omega
  have HW := hid hw
  clear hg hb1 HG hw
  obtain ⟨bs, n, hR⟩ : ∃ bs n, Bun.putR l = (bs, n) := ⟨_, _, rfl⟩
  rw [hR] at HC
  have HR := hid hR
  clear hR
  go_wp2_with fail
  refine HC.out.mono ?_
  rintro e w2 ⟨v2, rfl, ho2, hb2⟩
  have HP := hid (parts_any l lv w2 ((H1.out.below hb2 (Nat.le_refl _)).mono hb2.size) hw9)
  have HO2 := hid (And.intro ho2 hb2)
  clear HC ho2 hb2
  go_wp2_with fail
  refine HP.out.mono ?_
  rintro e w3 ⟨v3, rfl, hs3, hb3⟩
  have HC3 := hid (rput_any' l v3 w3 hs3 HW.out)
  rw [HR.out] at HC3
  have HB3 := hid hb3
  clear HP hs3 hb3
  go_wp2_with fail
  refine HC3.out.mono ?_
  rintro e w4 ⟨v4, rfl, hs4, hb4⟩
  have hb23 := HB3.out.trans (hb4.mono HB3.out.size)
  have hs2 := (HO2.out.1.slB.below hb23 (Nat.le_refl _)).mono hb23.size
  have hl4 : bs.length ≤ maxLen := by obtain ⟨_, c, _, q1, q2, _⟩ := hs4; omega
  have hc2 := conv_sl (P := Try.prog) (src := 25) (dst := 9) (e := 5) Try.underlying25 Try.underlying5 Try.underlying9 hs2
  have hc4 := conv_sl (P := Try.prog) (src := 25) (dst := 9) (e := 5) Try.underlying25 Try.underlying5 Try.underlying9 hs4
  have HB4 := hid (HB1.out.trans ((HO2.out.2.trans (hb23.mono HO2.out.2.size)).mono HB1.out.size))
  clear HC3 hs4 hs2 hb4 hb23
  go_wp2_with (first
    | (go_at_call 14; refine (bawake_any _).mono ?_; rintro e w9 ⟨rfl, hb9⟩)
    | (go_at_call 18; refine (bnumE_any _ _).mono ?_; rintro e w' ⟨rfl, rfl⟩))
  go_ret
  exact ⟨rfl, HB4.out.trans (hb9.mono HB4.out.size)⟩
end Go.Proofs.Ytoccgpddmhhlgaa
