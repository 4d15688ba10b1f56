import Derived.Test.YtmbfcpdflhjfnaaP5
import Derived.Test.YtmbfcpdflhjfnaaM5
import Derived.Laws.Bits64
namespace Go.Proofs.Ytmbfcpdflhjfnaa
open Go.RowKit Go.Mx Go.Lz

theorem sizeB (w : World) : (sizeOf 5).run Try.prog w = .ok 1 w := by kernel_rfl

set_option maxRecDepth 100000 in
set_option maxHeartbeats 1000000 in
theorem lzCuts_walk (bs : List UInt8) (bv : Value) (at_ : Int) (w : World) (hb : SlB w w.heap.size bv bs) :
    Calls Try.prog 10 #[bv, .int .i64 at_] w fun e w' => e = .returned (.bool true) ∧ Below w.heap.size w w' := by
  have hlb := fun w' => hb.len (P := Try.prog) Try.underlying22 (ty := 3) w'
  by_cases h0 : 3000 < bs.length
  · go_enter Try.func10, Try.ntmps10
    go_wp2_with (go_at_call 11; refine (awake_any _).mono ?_; rintro e w' ⟨rfl, hbel⟩)
    go_ret
    exact ⟨rfl, hbel⟩
  have hpl := pack_len bs (by omega)
  have hpn := List.length_pos_iff.2 (pack_ne bs (by omega))
  have HU := fun k => hid (unpack_cut bs (by omega) k)
  obtain ⟨p, hp⟩ : ∃ p, p = pack bs := ⟨_, rfl⟩
  rw [← hp] at hpl hpn HU
  have HP := hid hp
  clear hp
  obtain ⟨k, hk, hidx⟩ := idx at_ p.length hpn
  have hc : ((p.length : Int) == 0) = false := by rw [beq_eq_false_iff_ne]; omega
  have hc2 : ((p.length : Int) == 0) = false := hc
  go_enter Try.func10, Try.ntmps10
  go_wp2_with fail
  refine (pack_call bs bv w hb (by omega)).mono ?_
  rintro e w1 ⟨v1, rfl, hv1, hb1⟩
  rw [← HP.out] at hv1
  have hz1 := hb1.size
  have hl1 := fun w' => hv1.len (P := Try.prog) Try.underlying22 (ty := 3) w'
  obtain ⟨vk, hvk, hsk⟩ := hv1.to (P := Try.prog) Try.underlying22 sizeB k (by omega)
  have hw1 : IntKind.u64.wrap (p.length : Int) = p.length := by rw [IntKind.wrap_u64]; omega
  have hw2 : IntKind.i64.wrap (k : Int) = k := IntWalk.i64_in _ (by omega)
  go_wp2_with fail
  have hcb : ∀ w', Below w1.heap.size w1 w' → (convert 22 9 bv).run Try.prog w' = .ok (.string ⟨bs.toArray⟩) w' := fun w' h =>
    conv_sl Try.underlying22 Try.underlying5 Try.underlying9 ((hb.below hb1 (Nat.le_refl _)).below h hz1)
  clear hl1 hsk hw1 hw2 hidx hc hc2
  refine (unpack_call _ _ _ w1 hvk (by simp; omega)).mono ?_
  rintro e w2 ⟨v2, rfl, hv2, hb2⟩
  have hz2 := hb2.size
  have hb3 := hb1.trans (hb2.mono hz1)
  have hz3 := hb3.size
  rcases (HU k).out with ⟨l', hl', hpre⟩ | herr
  · rw [hl'] at hv2 ⊢
    simp only [resB, resE] at hv2 ⊢
    have hll := hpre.length_le
    have htk : bs.take l'.length = l' := (List.prefix_iff_eq_take.1 hpre).symm
    have hl2 := fun w' => hv2.len (P := Try.prog) Try.underlying22 (ty := 3) w'
    have hbb := (hb.below hb3 (Nat.le_refl _)).mono hz3
    obtain ⟨vt, hvt, hst⟩ := hbb.to (P := Try.prog) Try.underlying22 sizeB l'.length hll
    rw [htk] at hvt
    have hc2 : ∀ w', Below w2.heap.size w2 w' → (convert 22 9 v2).run Try.prog w' = .ok (.string ⟨l'.toArray⟩) w' := fun w' h =>
      conv_sl Try.underlying22 Try.underlying5 Try.underlying9 (hv2.below h (Nat.le_refl _))
    have hct : ∀ w', Below w2.heap.size w2 w' → (convert 22 9 vt).run Try.prog w' = .ok (.string ⟨l'.toArray⟩) w' := fun w' h =>
      conv_sl Try.underlying22 Try.underlying5 Try.underlying9 (hvt.below h (Nat.le_refl _))
    have hle : decide ((l'.length : Int) ≤ (bs.length : Int)) = true := decide_eq_true (by omega)
    have hle2 : decide (l'.length ≤ bs.length) = true := decide_eq_true (by omega)
    clear hl' htk hcb HU hvk hv1 hpre
    go_wp2_with (go_at_call 14; refine (num_any _ _).mono ?_; rintro e w' ⟨rfl, rfl⟩)
    go_region_held (fun w' => Below w2.heap.size w2 w') (first | exact (Below.refl _ _).drew | assumption | exact Below.drew (by assumption)) (first | (go_at_call 11; refine (awake_any _).mono ?_; rintro e w16 ⟨rfl, hb16⟩; have hb16' : Below w2.heap.size w2 w16 := Below.trans (by assumption) (hb16.mono (Below.size (by assumption)))))
    all_goals (go_wp2_with fail)
    all_goals go_ret
    all_goals exact ⟨rfl, hb3.trans (Below.mono (by assumption) hz3)⟩
  · rw [herr] at hv2 ⊢
    simp only [resB, resE] at hv2 ⊢
    have hl2 := fun w' => hv2.len (P := Try.prog) Try.underlying22 (ty := 3) w'
    clear herr hcb HU hvk hv1
    go_wp2_with (first | (go_at_call 14; refine (num_any _ _).mono ?_; rintro e w' ⟨rfl, rfl⟩) | (go_at_call 11; refine (awake_any _).mono ?_; rintro e w16 ⟨rfl, hb16⟩))
    go_ret
    exact ⟨rfl, hb3.trans (hb16.mono hz3)⟩
end Go.Proofs.Ytmbfcpdflhjfnaa
