import Derived.Test.YtcmfmjmjamfndaaR
namespace Go.Proofs.Ytcmfmjmjamfndaa
open Go.RowKit Go.Mx Go.Dk
set_option linter.unusedSimpArgs false
set_option linter.unusedVariables false
theorem conv_own {w : World} {v : Value} {l : List UInt8} {B : Nat} (h : SlB w B v l) (hB : B ≤ w.heap.size) : ∀ w', Below w.heap.size w w' → (convert 22 9 v).run Try.prog w' = .ok (.string ⟨l.toArray⟩) w' := fun w' hb =>
  conv_sl (P := Try.prog) (src := 22) (dst := 9) (e := 5) Try.underlying22 Try.underlying5 Try.underlying9 (h.below hb hB)
def secOf (c : UInt8) : Sec := List.replicate 16 c
theorem secOf_len (c : UInt8) : (secOf c).length = 16 := by simp [secOf]
/-- a sector, in whatever world behind w0 -/
theorem sectorC (c : UInt8) (w0 w : World) (hb : Below w0.heap.size w0 w) : Calls Try.prog 15 #[.int .u8 c.toNat] w fun e w' => ∃ v, e = .returned v ∧ (convert 22 9 v).run Try.prog w' = .ok (.string ⟨(secOf c).toArray⟩) w' ∧ (∃ oa n k, v = .slice oa n k) ∧ Below w0.heap.size w0 w' :=
  (sector_any c w).mono fun e w' ⟨v, he, ho, hb2⟩ => ⟨v, he, conv_own ho.slB (Nat.le_refl _) w' (Below.refl _ _), slB_shape ho.slB, hb.trans (hb2.mono hb.size)⟩
theorem H1.fr {w w' : World} {base : Nat} (h : Below w.heap.size w w') (hb : base ≤ w.heap.size) : Fr base w w' := Fr.of_below h hb
theorem ok_nil : SecsOk [] := ⟨by simp, by simp⟩
theorem ok_one (c : UInt8) : SecsOk [secOf c] := ⟨by simp, by simp [secOf]⟩
theorem log_nil : LogOk [] := ⟨by simp, by simp⟩
theorem log_one (k : Nat) (hk : k < 65536) (c : UInt8) : LogOk [(k, secOf c)] := ⟨by simp, by simp [secOf, hk]⟩

set_option maxRecDepth 100000 in
set_option maxHeartbeats 2000000 in
theorem awake_any (w : World) : Calls Try.prog 10 #[] w fun e w' => e = .returned (.bool true) ∧ Below w.heap.size w w' := by
  go_enter Try.func10, Try.ntmps10
  go_wp2_with fail
  refine (new_any 10 w (by decide)).mono ?_
  rintro e w1 ⟨rfl, hd, hb1⟩
  have HD := hid (And.intro hd hb1)
  clear hd hb1
  go_wp2_with (go_at_call 12; refine (num_any _ _).mono ?_; rintro e w' ⟨rfl, rfl⟩)
  refine (create_S0 HD.out.1).mono ?_
  rintro e w2 ⟨rfl, hd2, hf2⟩
  have H2 := hid (And.intro hd2 (HD.out.2.trans hf2.bel))
  clear hd2 hf2
  go_wp2_with fail
  refine (sector_any 120 w2).mono ?_
  rintro e w3 ⟨v3, rfl, ho3, hb3⟩
  obtain ⟨a3, n3, c3, rfl⟩ := slB_shape ho3.slB
  have hbb : w.heap.size ≤ w2.heap.size := H2.out.2.size
  have HW3 := hid (write_S1 (H2.out.1.below hb3) ok_nil ok_nil log_nil 0 (secOf 120) (secOf_len _) _ (stab_own ho3) (by decide) (by decide) (by simp) (by decide) (by decide))
  simp only [show ¬ (0 : Nat) = 1 by decide, if_false] at HW3
  have HB3 := hid (H2.out.2.trans (hb3.mono hbb))
  clear ho3 hb3 hbb
  go_wp2_with fail
  refine HW3.out.mono ?_
  rintro e w4 ⟨hf4, rfl, hd4⟩
  have H4 := hid (And.intro hd4 (HB3.out.trans hf4.bel))
  clear hd4 hf4
  go_wp2_with fail
  have hp1 : put [] 0 (secOf 120) = [secOf 120] := rfl
  refine (flush_S1 H4.out.1 (by rw [hp1]; exact ok_one _) ok_nil (log_one 0 (by decide) _)).mono ?_
  rintro e w5 ⟨rfl, hd5, hf5⟩
  rw [hp1] at hd5
  have H5 := hid (And.intro hd5 (H4.out.2.trans hf5.bel))
  clear hd5 hf5 hp1
  go_wp2_with fail
  refine (sector_any 121 w5).mono ?_
  rintro e w6 ⟨v6, rfl, ho6, hb6⟩
  obtain ⟨a6, n6, c6, rfl⟩ := slB_shape ho6.slB
  have hbb : w.heap.size ≤ w5.heap.size := H5.out.2.size
  have HW6 := hid (write_S1 (H5.out.1.below hb6) (ok_one _) (ok_one _) log_nil 0 (secOf 121) (secOf_len _) _ (stab_own ho6) (by decide) (by decide) (by simp) (by decide) (by decide))
  simp only [show ¬ (0 : Nat) = 1 by decide, if_false] at HW6
  have HB6 := hid (H5.out.2.trans (hb6.mono hbb))
  clear ho6 hb6 hbb
  go_wp2_with fail
  refine HW6.out.mono ?_
  rintro e w7 ⟨hf7, rfl, hd7⟩
  have hp2 : put [secOf 120] 0 (secOf 121) = [secOf 121] := rfl
  rw [hp2] at hd7
  have H7 := hid (And.intro hd7 (HB6.out.trans hf7.bel))
  clear hd7 hf7 hp2
  have hal : Below w7.heap.size w7 (w7.alloc (.cells #[.bool false] 4)) := (Below.refl _ _).alloc (Nat.le_refl _) _
  have hbb : w.heap.size ≤ w7.heap.size := H7.out.2.size
  have HC := hid (crash_S1 (H7.out.1.below hal) (ok_one _) (ok_one _) (log_one 0 (by decide) _) _ [false] (picks_new w7 false w.heap.size) (by decide))
  have hlay : lay [secOf 120] (pk1 [false] ([] ++ [(0, secOf 121)])) = [secOf 120] := rfl
  rw [hlay] at HC
  have HB7 := hid (H7.out.2.trans (hal.mono hbb))
  clear hal hbb hlay
  go_wp2_with fail
  refine HC.out.mono ?_
  rintro e w8 ⟨rfl, hd8, hf8⟩
  have H8 := hid (And.intro hd8 (HB7.out.trans hf8.bel))
  clear hd8 hf8
  go_wp2_with fail
  refine (read_S1 H8.out.1 (ok_one _) (ok_one _) log_nil 0 1 (by decide)).mono ?_
  rintro e w9 ⟨v9, rfl, ho9, hb9⟩
  have hsc : secs [secOf 120] 0 1 = secOf 120 := by simp [secs]
  rw [hsc] at ho9
  have hc9 := conv_own ho9.slB (Nat.le_refl _)
  obtain ⟨a9, n9, c9, rfl⟩ := slB_shape ho9.slB
  have H9 := hid (H8.out.2.trans (hb9.mono H8.out.2.size))
  have HS := hid (fun (w' : World) (hb : Below w9.heap.size w9 w') => sectorC 120 w9 w' hb)
  clear ho9 hb9 hsc
  go_wp2_with fail
  have hdr : Below w9.heap.size w9 w9.drew := (Below.refl _ _).drew
  go_region_with (first | (go_at_call 12; refine (num_any _ _).mono ?_; rintro e w' ⟨rfl, rfl⟩) | (go_at_call 15; refine (HS.out _ hdr).mono ?_; rintro e w10 ⟨_, rfl, hcv, ⟨sa, sn, sk, rfl⟩, hb10⟩))
  all_goals
    go_wp2
    go_ret
    exact ⟨rfl, H9.out.trans (hb10.mono H9.out.size)⟩
end Go.Proofs.Ytcmfmjmjamfndaa
