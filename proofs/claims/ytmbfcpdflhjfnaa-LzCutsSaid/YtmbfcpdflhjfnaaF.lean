import Derived.Test.YtmbfcpdflhjfnaaE
import Derived.Test.YtmbfcpdflhjfnaaM2
namespace Go.Proofs.Ytmbfcpdflhjfnaa
open Go.RowKit Go.Mx Go.Lz

def resB : Res → List UInt8
  | .error _ => []
  | .ok l => l
def resE : Res → Nat
  | .error n => n
  | .ok _ => 0

def UP (w : World) (R : Res) (e : Ending) (w' : World) : Prop :=
  ∃ v, e = .returned (.tuple #[v, .int .i64 (resE R)]) ∧ SlB w' w'.heap.size v (resB R) ∧ Below w.heap.size w w'

theorem UPost.up {w w' : World} {R : Res} {e : Ending} (h : UPost w R e w') : UP w R e w' := by
  obtain ⟨hb, h⟩ := h
  cases R with
  | error n => exact ⟨_, h, SlB.nil _ _, hb⟩
  | ok l => obtain ⟨v, he, ho⟩ := h; exact ⟨v, he, ho.slB, hb⟩

theorem UP.err1 {w w' : World} {R : Res} {m : Int} (n : Nat) (h : R = .error n) (hm : m = (n : Int)) (hb : Below w.heap.size w w') : UP w R (.returned (.tuple #[.slice none 0 0, .int .i64 m])) w' := by
  subst h; subst hm; exact ⟨_, rfl, SlB.nil _ _, hb⟩

theorem unpack_call (bs : List UInt8) (bv : Value) (room : Int) (w : World) (hb : SlB w w.heap.size bv bs) (hlen : bs.length ≤ 1000000000000) :
    Calls Try.prog 12 #[bv, .int .i64 room] w (UP w (unpack bs room)) := by
  by_cases h : room < 0 ∨ 1048576 < room
  · have HR : Hid (unpack bs room = .error 1) := by unfold Hid unpack; rw [if_pos h]
    obtain ⟨oa, cap, rfl, hb1, hb2, hb3⟩ := hb
    clear hb1 hb2 hb3
    by_cases h0 : room < 0
    · clear h
      go_enter Try.func12, Try.ntmps12
      go_wp2
      go_ret2
      exact UP.err1 1 HR.out rfl ((Below.refl _ _).alloc (Nat.le_refl _) _)
    · have h1 : 1048576 < room := by omega
      clear h
      go_enter Try.func12, Try.ntmps12
      go_wp2
      go_ret2
      exact UP.err1 1 HR.out rfl ((Below.refl _ _).alloc (Nat.le_refl _) _)
  · obtain ⟨r, rfl⟩ := Int.eq_ofNat_of_zero_le (show 0 ≤ room by omega)
    have e : unpack bs r = unp r (bs.length + 1) bs [] := by unfold unpack; rw [if_neg h]; simp
    rw [e]
    exact (unpack_any bs bv r w hb hlen (by omega)).mono fun _ _ h => h.up

theorem runpack_call (bs : List UInt8) (bv : Value) (room : Int) (w : World) (hb : SlB w w.heap.size bv bs) (hlen : bs.length ≤ 1000000000000) :
    Calls Try.prog 13 #[bv, .int .i64 room] w (UP w (unpack bs room)) := by
  obtain ⟨oa, cap, rfl, hb1, hb2, hb3⟩ := hb
  by_cases h : room < 0 ∨ 1048576 < room
  · have HR : Hid (unpack bs room = .error 1) := by unfold Hid unpack; rw [if_pos h]
    clear hb1 hb2 hb3
    by_cases h0 : room < 0
    · clear h
      go_enter Try.func13, Try.ntmps13
      go_wp2
      go_ret2
      exact UP.err1 1 HR.out rfl (Below.refl _ _)
    · have h1 : 1048576 < room := by omega
      clear h
      go_enter Try.func13, Try.ntmps13
      go_wp2
      go_ret2
      exact UP.err1 1 HR.out rfl (Below.refl _ _)
  · obtain ⟨r, rfl⟩ := Int.eq_ofNat_of_zero_le (show 0 ≤ room by omega)
    have e : unpack bs r = unp r (bs.length + 1) bs [] := by unfold unpack; rw [if_neg h]; simp
    rw [e]
    by_cases hne : bs = []
    · subst hne
      have HR : Hid (unp r 1 [] [] = .error 3) := rfl
      clear hb1 hb2 hb3 hlen e
      simp only [List.length_nil]
      go_enter Try.func13, Try.ntmps13
      go_wp2
      go_ret2
      exact UP.err1 3 HR.out rfl (Below.refl _ _)
    · obtain ⟨bb, bo, rfl, hl, hr⟩ := hb3 hne
      exact (runpack_some bs bb bo cap r w hr hl hb1 hb2 (List.length_pos_iff.2 hne) hlen (by omega)).mono fun _ _ h => h.up

theorem awake_any (w : World) : Calls Try.prog 11 #[] w fun e w' => e = .returned (.bool true) ∧ Below w.heap.size w w' := by
  go_enter Try.func11, Try.ntmps11
  go_wp2_with fail
  refine (unpack_call [16, 97] _ 10 _ ((sl_lit w [16, 97] 5 (by decide)).mono (by simp)) (by decide)).mono ?_
  rintro e w1 ⟨v1, rfl, hv1, hb1⟩
  have e1 : unpack [16, 97] 10 = .ok [97] := by rfl
  rw [e1] at hv1 ⊢
  simp only [resB, resE] at hv1 ⊢
  go_wp2_with fail
  have hz1 := hb1.size
  simp only [World.size_alloc] at hz1
  refine (unpack_call [20, 97, 1, 0, 16, 97] _ 10 _ ((sl_lit w1 [20, 97, 1, 0, 16, 97] 5 (by decide)).mono (by simp)) (by decide)).mono ?_
  rintro e w2 ⟨v2, rfl, hv2, hb2⟩
  have e2 : unpack [20, 97, 1, 0, 16, 97] 10 = .ok [97, 97, 97, 97, 97, 97, 97, 97, 97, 97] := by rfl
  rw [e2] at hv2 ⊢
  simp only [resB, resE] at hv2 ⊢
  have hv1' := (hv1.below ((Below.refl _ w1).alloc (Nat.le_refl _) (.cells #[u8 20, u8 97, u8 1, u8 0, u8 16, u8 97] 5)) (Nat.le_refl _)).below hb2 (by simp)
  have hc1 := conv_sl (P := Try.prog) Try.underlying22 Try.underlying5 Try.underlying9 hv1'
  have hc2 := conv_sl (P := Try.prog) Try.underlying22 Try.underlying5 Try.underlying9 hv2
  have hbel : Below w.heap.size w w2 := by
    have h1 := ((Below.refl _ w).alloc (Nat.le_refl _) (.cells #[u8 16, u8 97] 5)).trans (hb1.mono (by simp))
    have h2 := (Below.refl w.heap.size w1).alloc (by omega) (.cells #[u8 20, u8 97, u8 1, u8 0, u8 16, u8 97] 5)
    exact (h1.trans h2).trans (hb2.mono (by simp; omega))
  clear hv1 hv2 hv1' hb1 hb2 e1 e2
  go_wp2_with (go_at_call 14; refine (num_any _ _).mono ?_; rintro e w' ⟨rfl, rfl⟩)
  go_ret
  exact ⟨rfl, hbel⟩
end Go.Proofs.Ytmbfcpdflhjfnaa
