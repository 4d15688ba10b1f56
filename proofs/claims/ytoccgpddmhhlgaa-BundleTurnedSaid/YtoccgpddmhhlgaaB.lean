import Derived.Test.YtoccgpddmhhlgaaA
namespace Go.Proofs.Ytoccgpddmhhlgaa
open Go.RowKit Go.Mx Go.Crc

theorem xor_u32 (a b : BitVec 32) : bits .xor .u32 (a.toNat : Int) (b.toNat : Int) = ((a ^^^ b).toNat : Int) := by
  rw [show (a ^^^ b).toNat = a.toNat ^^^ b.toNat from BitVec.toNat_xor a b]
  exact u32_xor_nat a.toNat b.toNat a.isLt b.isLt

theorem stp_true (c : BitVec 32) (h : c.getLsbD 0 = true) : bits .xor .u32 ((c.toNat : Int) / (2 : Int)) 2197175160 = ((stp c).toNat : Int) := by
  have e1 : (c.toNat : Int) / (2 : Int) = ((c >>> 1).toNat : Int) := by
    rw [BitVec.toNat_ushiftRight, Nat.shiftRight_eq_div_pow]; simp
  have e2 : (2197175160 : Int) = (poly.toNat : Int) := by decide
  rw [e1, e2, xor_u32]
  unfold stp
  rw [if_pos h]

theorem stp_false (c : BitVec 32) (h : c.getLsbD 0 = false) : (c.toNat : Int) / (2 : Int) = ((stp c).toNat : Int) := by
  unfold stp
  rw [h]
  simp only [Bool.false_eq_true, if_false]
  rw [BitVec.toNat_ushiftRight, Nat.shiftRight_eq_div_pow]; simp

theorem and1_u32 (c : BitVec 32) : bits .and .u32 (c.toNat : Int) 1 = ((c.toNat % 2 : Nat) : Int) := by
  have := u32_and_nat c.toNat 1 c.isLt (by omega)
  rw [Nat.and_one_is_mod] at this
  exact this
theorem lsb_true (c : BitVec 32) (h : c.getLsbD 0 = true) : bits .and .u32 (c.toNat : Int) 1 = 1 := by
  have : c.toNat.testBit 0 = true := h
  rw [Nat.testBit_zero] at this
  rw [and1_u32]
  simp at this; omega
theorem lsb_false (c : BitVec 32) (h : c.getLsbD 0 = false) : bits .and .u32 (c.toNat : Int) 1 = 0 := by
  have : c.toNat.testBit 0 = false := h
  rw [Nat.testBit_zero] at this
  rw [and1_u32]
  simp at this; omega

def tab (k : Nat) : BitVec 32 := stpN 4 (BitVec.ofNat 32 k)

/-- the table's entries below n are made -/
def Ent (w : World) (b n : Nat) : Prop := ∀ i, i < n → w.cell? ⟨b, 3 + i, none⟩ = some (.int .u32 (tab i).toNat)

theorem grown_trans {a b c : World} {r : Option Nat} (h : a.grownBy b r) (k : b.grownBy c r) : a.grownBy c r :=
  ⟨k.os.trans h.os, k.tape.trans h.tape, k.output.trans h.output, Nat.le_trans h.size k.size, fun i hi hr => (k.block i (Nat.lt_of_lt_of_le hi h.size) hr).trans (h.block i hi hr)⟩

theorem grown_set (w : World) (b o : Nat) (v : Value) : w.grownBy (w.setCell ⟨b, o, none⟩ v) (some b) :=
  ⟨rfl, rfl, rfl, by simp, fun i _ hr => Below.heap_setCell w ⟨b, o, none⟩ v i (fun e => hr (by rw [e]))⟩

structure Room (w : World) (b : Nat) : Prop where
  ent : ∀ i, i < 16 → ∃ v, w.cell? ⟨b, 3 + i, none⟩ = some v
  fz : ∀ o, w.frozen? ⟨b, o, none⟩ = false

theorem cs_off {w : World} {b o o' : Nat} {v : Value} (h : o ≠ o') : (w.setCell ⟨b, o, none⟩ v).cell? ⟨b, o', none⟩ = w.cell? ⟨b, o', none⟩ :=
  World.cell?_setCell_other w _ _ _ (by simp [h])

theorem Room.set {w : World} {b : Nat} (h : Room w b) (o : Nat) (u : Value) : Room (w.setCell ⟨b, o, none⟩ u) b := by
  refine ⟨fun i hi => ?_, fun o' => by rw [fz_set]; exact h.fz o'⟩
  obtain ⟨v, hv⟩ := h.ent i hi
  by_cases e : o = 3 + i
  · subst e; exact ⟨u, cs_same hv⟩
  · exact ⟨v, by rw [cs_off e]; exact hv⟩

theorem Room.drew {w : World} {b : Nat} (h : Room w b) : Room w.drew b := ⟨fun i hi => by rw [World.cell?_drew]; exact h.ent i hi, fun o => by have := h.fz o; simpa using this⟩

theorem Ent.next {w : World} {b n : Nat} (h : Ent w b n) (hr : Room w b) (hn : n < 16) : Ent (w.setCell ⟨b, 3 + n, none⟩ (.int .u32 (tab n).toNat)) b (n + 1) := by
  intro i hi
  rcases Nat.lt_or_ge i n with h1 | h1
  · rw [cs_off (by omega)]; exact h i h1
  · obtain rfl : i = n := by omega
    obtain ⟨v, hv⟩ := hr.ent i hn
    exact cs_same hv

structure FillPost (w w' : World) (b : Nat) : Prop where
  ent : Ent w' b 16
  room : Room w' b
  low : ∀ o, o < 3 → w'.cell? ⟨b, o, none⟩ = w.cell? ⟨b, o, none⟩
  grown : w.grownBy w' (some b)

set_option maxRecDepth 100000 in
set_option maxHeartbeats 1000000 in
theorem fill_any (b pl : Nat) (w : World) (hne : b ≠ pl) (hp : w.cell? ⟨pl, 0, none⟩ = some (.pointer (some ⟨b, 0, none⟩))) (hr : Room w b) :
    Calls Try.prog 70 #[.pointer (some ⟨pl, 0, none⟩)] w fun e w' => e = .returned (.tuple #[]) ∧ FillPost w w' b := by
  go_enter Try.func70, Try.ntmps70
  go_wp2
  go_loopw [4] (fun i wr => ∃ k : Nat, k ≤ 16 ∧ i = .int .i64 k ∧ Ent wr b k ∧ Room wr b ∧ (∀ o, o < 3 → wr.cell? ⟨b, o, none⟩ = w.cell? ⟨b, o, none⟩) ∧ w.grownBy wr (some b))
    (fun i _ => 16 - (intOf i).toNat)
  case atStart => exact ⟨0, by omega, rfl, fun i hi => absurd hi (by omega), hr, fun _ _ => rfl, World.grownBy.refl w _⟩
  case round =>
    obtain ⟨k, hk, rfl, hent, hroom, hlow, hg⟩ := hrel
    have HLOW := hid hlow
    clear hlow
    by_cases hk16 : k < 16
    · have HT : Hid (tab k = stpN 4 (BitVec.ofNat 32 k)) := rfl
      have hkb : ((BitVec.ofNat 32 k).toNat : Int) = (k : Int) := by simp; omega
      obtain ⟨c0, hc0⟩ : ∃ c0, c0 = BitVec.ofNat 32 k := ⟨_, rfl⟩
      rw [← hc0] at HT hkb
      clear hc0
      have HK := hid hkb
      clear hkb
      obtain ⟨T, hT⟩ : ∃ T, T = tab k := ⟨_, rfl⟩
      rw [← hT] at HT
      have HTT := hid hT
      clear hT
      go_wp2
      go_loop [2, 9] (fun c i => ∃ (j : Nat) (d : BitVec 32), j ≤ 4 ∧ i = .int .i64 j ∧ c = .int .u32 d.toNat ∧ Hid (T = stpN (4 - j) d))
        (fun _ i => 4 - (intOf i).toNat)
      case atStart => exact ⟨0, c0, by omega, rfl, by rw [HK.out], HT⟩
      case round =>
        obtain ⟨j, d, hj, rfl, rfl, HT2⟩ := hrel
        clear HT HK
        by_cases hj4 : j < 4
        · have hT3 := HT2.out
          rw [show 4 - j = (4 - (j + 1)) + 1 by omega, stpN] at hT3
          have HT3 := hid hT3
          clear hT3 HT2
          have hdl := d.isLt
          cases hb : d.getLsbD 0
          · have hm := lsb_false d hb
            have HS := hid (stp_false d hb)
            clear hb
            go_wp2
            go_round
            case rel => exact ⟨j+1, stp d, by omega, by go_num, by rw [HS.out], HT3⟩
            case measure => simp [intOf]; omega
          · have hm := lsb_true d hb
            have HS := hid (stp_true d hb)
            clear hb
            go_wp2
            go_round
            case rel => exact ⟨j+1, stp d, by omega, by go_num, by rw [HS.out], HT3⟩
            case measure => simp [intOf]; omega
        · obtain rfl : j = 4 := by omega
          have hT3 := HT2.out
          simp only [Nat.sub_self, stpN] at hT3
          subst hT3
          clear HT2
          obtain ⟨v, hv⟩ := hroom.ent k hk16
          have hfz := hroom.fz (3 + k)
          have hp' : wr.cell? ⟨pl, 0, none⟩ = some (.pointer (some ⟨b, 0, none⟩)) := hg.cell hp (by simp; omega)
          go_wp2
          go_roundw
          case rel => exact ⟨k+1, by omega, by go_num, by rw [HTT.out]; exact hent.next hroom hk16, hroom.set _ _, fun o ho => by rw [cs_off (by omega)]; exact HLOW.out o ho, grown_trans hg (grown_set _ _ _ _)⟩
          case measure => simp [intOf]; omega
    · obtain rfl : k = 16 := by omega
      go_wp2
      go_end0
      exact ⟨rfl, hent, hroom, HLOW.out, hg⟩
end Go.Proofs.Ytoccgpddmhhlgaa
