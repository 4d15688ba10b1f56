import Derived.Test.YtmbfcpdflhjfnaaP4
import Derived.Deep.RegionHeld
namespace Go.Proofs.Ytmbfcpdflhjfnaa
open Go.RowKit Go.Mx Go.Lz

set_option maxRecDepth 100000 in
set_option maxHeartbeats 1000000 in
theorem lzBack_walk (bs : List UInt8) (bv : Value) (w : World) (hb : SlB w w.heap.size bv bs) :
    Calls Try.prog 7 #[bv] w fun e w' => e = .returned (.bool true) ∧ Below w.heap.size w w' := by
  have hlb := fun w => len_sl (P := Try.prog) Try.underlying22 (ty := 3) hb.choose_spec.choose_spec.1 w
  by_cases h0 : 20000 < bs.length
  · go_enter Try.func7, Try.ntmps7
    go_wp2_with (go_at_call 11; refine (awake_any _).mono ?_; rintro e w' ⟨rfl, hbel⟩)
    go_ret
    exact ⟨rfl, hbel⟩
  have hpl := pack_len bs (by omega)
  have U1 := hid (unpack_pack bs (by omega) bs.length (Nat.le_refl _) (by omega))
  obtain ⟨p, hp⟩ : ∃ p, p = pack bs := ⟨_, rfl⟩
  rw [← hp] at hpl U1
  have HP := hid hp
  clear hp
  have hc0 := conv_sl (P := Try.prog) Try.underlying22 Try.underlying5 Try.underlying9 hb
  go_enter Try.func7, Try.ntmps7
  go_wp2_with fail
  refine (pack_call bs bv w hb (by omega)).mono ?_
  rintro e w1 ⟨v1, rfl, hv1, hb1⟩
  rw [← HP.out] at hv1
  have hz1 := hb1.size
  clear hc0
  go_wp2_with fail
  refine (unpack_call p v1 _ w1 hv1 (by omega)).mono ?_
  rintro e w2 ⟨v2, rfl, hv2, hbl2⟩
  rw [U1.out] at hv2 ⊢
  simp only [resB, resE] at hv2 ⊢
  have hb2 := hb1.trans (hbl2.mono hz1)
  have hz2 := hb2.size
  have hz12 := hbl2.size
  have hv12 := (hv1.below hbl2 (Nat.le_refl _)).mono hz12
  clear hbl2 hb1 hv1
  go_wp2_with fail
  refine (runpack_call p v1 _ w2 hv12 (by omega)).mono ?_
  rintro e w3 ⟨v3, rfl, hv3, hbl3⟩
  rw [U1.out] at hv3 ⊢
  simp only [resB, resE] at hv3 ⊢
  have hb3 := hb2.trans (hbl3.mono hz2)
  have hz3 := hb3.size
  have hz23 := hbl3.size
  have hv23 := (hv2.below hbl3 (Nat.le_refl _)).mono hz23
  have hv13 := (hv12.below hbl3 (Nat.le_refl _)).mono hz23
  clear hbl3 hb2 hv2 hv12
  have hbb := (hb.below hb3 (Nat.le_refl _)).mono hz3
  have hcb : ∀ w', Below w3.heap.size w3 w' → (convert 22 9 bv).run Try.prog w' = .ok (.string ⟨bs.toArray⟩) w' := fun w' h =>
    conv_sl Try.underlying22 Try.underlying5 Try.underlying9 (hbb.below h (Nat.le_refl _))
  have hc2 : ∀ w', Below w3.heap.size w3 w' → (convert 22 9 v2).run Try.prog w' = .ok (.string ⟨bs.toArray⟩) w' := fun w' h =>
    conv_sl Try.underlying22 Try.underlying5 Try.underlying9 (hv23.below h (Nat.le_refl _))
  have hc3 : ∀ w', Below w3.heap.size w3 w' → (convert 22 9 v3).run Try.prog w' = .ok (.string ⟨bs.toArray⟩) w' := fun w' h =>
    conv_sl Try.underlying22 Try.underlying5 Try.underlying9 (hv3.below h (Nat.le_refl _))
  have hc1 : ∀ w', Below w3.heap.size w3 w' → (convert 22 9 v1).run Try.prog w' = .ok (.string ⟨p.toArray⟩) w' := fun w' h =>
    conv_sl Try.underlying22 Try.underlying5 Try.underlying9 (hv13.below h (Nat.le_refl _))
  have hl1 := fun w => len_sl (P := Try.prog) Try.underlying22 (ty := 3) hv13.choose_spec.choose_spec.1 w
  obtain ⟨m, hm⟩ : ∃ m : Int, m = (bs.length : Int) / 200 := ⟨_, rfl⟩
  have hs1 : IntKind.i64.wrap ((bs.length : Int) / 200) = m := by rw [hm]; exact IntWalk.i64_in _ (by omega)
  have hs2 : IntKind.i64.wrap ((bs.length : Int) + m) = (bs.length : Int) + m := IntWalk.i64_in _ (by omega)
  have hs3 : IntKind.i64.wrap ((bs.length : Int) + m + 16) = (bs.length : Int) + m + 16 := IntWalk.i64_in _ (by omega)
  have hle : decide ((p.length : Int) ≤ (bs.length : Int) + m + 16) = true := decide_eq_true (by omega)
  clear hm
  go_wp2_with fail

  go_region_held (fun w' => Below w3.heap.size w3 w') (first | exact (Below.refl _ _).drew | assumption | exact Below.drew (by assumption)) (first | (go_at_call 14; refine (num_any _ _).mono ?_; rintro e w' ⟨rfl, rfl⟩) | (go_at_call 17; refine (pack_call bs bv _ ((hbb.below (by assumption) (Nat.le_refl _)).mono (Below.size (by assumption))) (by omega)).mono ?_; rintro e w5 ⟨v5, rfl, hv5, hb5⟩; have hb5' : Below w3.heap.size w3 w5 := Below.trans (by assumption) (hb5.mono (Below.size (by assumption))); rw [← HP.out] at hv5; have hc5 := conv_sl (P := Try.prog) Try.underlying22 Try.underlying5 Try.underlying9 hv5) | (go_at_call 11; refine (awake_any _).mono ?_; rintro e w16 ⟨rfl, hb16⟩; have hb16' : Below w3.heap.size w3 w16 := Below.trans (by assumption) (hb16.mono (Below.size (by assumption)))))
  all_goals (go_wp2_with fail)
  all_goals go_ret
  all_goals exact ⟨rfl, hb3.trans (Below.mono (by assumption) hz3)⟩
end Go.Proofs.Ytmbfcpdflhjfnaa
