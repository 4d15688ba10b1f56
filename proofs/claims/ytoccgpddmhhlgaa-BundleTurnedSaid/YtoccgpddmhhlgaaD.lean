import Derived.Test.YtoccgpddmhhlgaaC
namespace Go.Proofs.Ytoccgpddmhhlgaa
open Go.RowKit Go.Mx Go.Crc

theorem xor_u8 (c : BitVec 32) (x : UInt8) : bits .xor .u32 (c.toNat : Int) (x.toNat : Int) = ((c ^^^ z8 x).toNat : Int) := by
  have h := x.toNat_lt
  have e : (x.toNat : Int) = ((z8 x).toNat : Int) := by
    unfold z8; rw [BitVec.toNat_ofNat]; omega
  rw [e, xor_u32]

theorem word_step (c : BitVec 32) : bits .xor .u32 ((tab (c.toNat % 16)).toNat : Int) ((c.toNat : Int) / (16 : Int)) = ((stpN 4 c).toNat : Int) := by
  have e1 : (c.toNat : Int) / (16 : Int) = ((c >>> 4).toNat : Int) := by
    rw [BitVec.toNat_ushiftRight, Nat.shiftRight_eq_div_pow]; simp
  rw [e1, xor_u32]
  conv => rhs; rw [stp4]
  have e2 : tab (c.toNat % 16) = stpN 4 (c &&& 15#32) := by
    unfold tab
    congr 1
    apply BitVec.eq_of_toNat_eq
    rw [BitVec.toNat_and, BitVec.toNat_ofNat, Nat.mod_eq_of_lt (by omega)]
    exact (Nat.and_two_pow_sub_one_eq_mod c.toNat 4).symm
  rw [e2]

theorem crcB_two (c : BitVec 32) (x : UInt8) : stpN 4 (stpN 4 (c ^^^ z8 x)) = crcB c x := by
  unfold crcB; rw [← stpN_add]

theorem RdB.grown {w w' : World} {b o r : Nat} {bs : List UInt8} (h : RdB w b o bs) (hg : w.grownBy w' (some r)) (hr : b ≠ r) : RdB w' b o bs :=
  fun i hi => hg.cell (h i hi) (by simp; omega)

theorem below_grown {B b : Nat} {a w w' : World} (h : Below B a w) (hg : w.grownBy w' (some b)) (hb : B ≤ b) (hB : B ≤ w.heap.size) : Below B a w' :=
  h.grown hg hB (fun k hk => by cases hk; exact hb)

theorem cells_new (w : World) (n : Nat) (c : Array Value) (e : TypeId) (i : Nat) : (w.alloc (.cells c e)).cell? ⟨w.heap.size, i, none⟩ = c[i]? := World.cell?_alloc_at c e w.heap.size i rfl

theorem not_u32 (c : BitVec 32) : bits .xor .u32 IntKind.u32.max (c.toNat : Int) = ((~~~ c).toNat : Int) := by
  have e : IntKind.u32.max = ((4294967295#32 : BitVec 32).toNat : Int) := by decide
  rw [e, xor_u32]
  rw [show (4294967295#32 : BitVec 32) = BitVec.allOnes 32 by decide, BitVec.allOnes_xor]

def zcells : Array Value := #[.int .u32 0, .int .i32 0, .int .u32 0, .int .u32 0, .int .u32 0, .int .u32 0, .int .u32 0, .int .u32 0, .int .u32 0, .int .u32 0, .int .u32 0, .int .u32 0, .int .u32 0, .int .u32 0, .int .u32 0, .int .u32 0, .int .u32 0, .int .u32 0, .int .u32 0]

theorem tabOk_new (w : World) : TabOk (w.alloc (.cells zcells 123)) w.heap.size := by
  refine ⟨⟨fun i hi => ?_, fun o => World.frozen?_alloc_at zcells 123 w.heap.size o rfl⟩, ?_, .inl ?_⟩
  · rw [cells_new w w.heap.size]
    have : 3 + i < zcells.size := by show 3 + i < 19; omega
    exact ⟨_, Array.getElem?_eq_getElem this⟩
  · rw [cells_new w w.heap.size]; rfl
  · rw [cells_new w w.heap.size]; rfl

theorem TabOk.below {w w' : World} {b B : Nat} (h : TabOk w b) (hb : Below B w w') (hB : b < B) : TabOk w' b := by
  have hc : ∀ i, w'.cell? ⟨b, i, none⟩ = w.cell? ⟨b, i, none⟩ := fun i => hb.cell (p := ⟨b, i, none⟩) hB
  refine ⟨⟨fun i hi => by rw [hc]; exact h.room.ent i hi, fun o => by rw [hb.frozen (p := ⟨b, o, none⟩) hB]; exact h.room.fz o⟩, by rw [hc]; exact h.mu, ?_⟩
  rw [hc]
  exact h.once.imp id fun ⟨x, y⟩ => ⟨x, fun i hi => by rw [hc]; exact y i hi⟩

set_option maxRecDepth 100000 in
set_option maxHeartbeats 1000000 in
theorem more_any (s : BitVec 32) (bs : List UInt8) (bv : Value) (w : World) (hb : SlB w w.heap.size bv bs) (hlen : bs.length ≤ 1000000000) :
    Calls Try.prog 52 #[.int .u32 s.toNat, bv] w fun e w' => e = .returned (.int .u32 (more s bs).toNat) ∧ Below w.heap.size w w' := by
  obtain ⟨oa, cap, rfl, h1, h2, h3⟩ := hb
  have H3 := hid h3
  clear h3
  obtain ⟨R, hR⟩ : ∃ R, R = more s bs := ⟨_, rfl⟩
  rw [← hR]
  obtain ⟨c0, hc0⟩ : ∃ c0, c0 = ~~~ s := ⟨_, rfl⟩
  have hns := not_u32 s
  rw [← hc0] at hns
  have HR : Hid (R = ~~~ (crcL c0 bs)) := by unfold Hid; rw [hR, hc0]; rfl
  clear hR hc0
  have hsl := s.isLt
  go_enter Try.func52, Try.ntmps52
  go_wp2
  have ht0 : TabOk (w.alloc (.cells zcells 123)) w.heap.size := tabOk_new w
  have hb0 : Below w.heap.size w (w.alloc (.cells zcells 123)) := (Below.refl _ _).alloc (Nat.le_refl _) _
  have hz0 : w.heap.size < (w.alloc (.cells zcells 123)).heap.size := by simp
  unfold zcells at ht0 hb0 hz0
  obtain ⟨w1, hw1⟩ : ∃ w1, w1 = w.alloc (.cells #[.int .u32 0, .int .i32 0, .int .u32 0, .int .u32 0, .int .u32 0, .int .u32 0, .int .u32 0, .int .u32 0, .int .u32 0, .int .u32 0, .int .u32 0, .int .u32 0, .int .u32 0, .int .u32 0, .int .u32 0, .int .u32 0, .int .u32 0, .int .u32 0, .int .u32 0] 123) := ⟨_, rfl⟩
  rw [← hw1] at ht0 hb0 hz0 ⊢
  clear hw1 hns
  go_loopw [6, 13] (fun c i wr => ∃ (k : Nat) (d : BitVec 32), k ≤ bs.length ∧ i = .int .i64 k ∧ c = .int .u32 d.toNat ∧ TabOk wr w.heap.size ∧ Below w.heap.size w wr ∧ w.heap.size < wr.heap.size ∧ Hid (R = ~~~ (crcL d (bs.drop k))))
    (fun _ i _ => bs.length - (intOf i).toNat)
  case atStart => exact ⟨0, c0, by omega, rfl, rfl, ht0, hb0, hz0, by rw [List.drop_zero]; exact HR⟩
  case round =>
    obtain ⟨k, d, hk, rfl, rfl, htab, hbel, hz, HR2⟩ := hrel
    clear ht0 hb0 hz0 HR
    by_cases hlt : k < bs.length
    · obtain ⟨bb, bo, rfl, hbb, hrd⟩ := H3.out (by rintro rfl; simp at hlt)
      have hcell := (hrd.below hbel hbb).at hlt
      obtain ⟨x, hx⟩ : ∃ x, x = bs.getD k 0 := ⟨_, rfl⟩
      rw [← hx] at hcell
      have hR3 := HR2.out
      rw [drop_getD bs k hlt, ← hx] at hR3
      simp only [crcL, List.foldl_cons] at hR3
      rw [← crcB_two] at hR3
      have HR3 := hid hR3
      clear hR3 HR2 hx hrd
      have hx1 := xor_u8 d x
      have hxl := x.toNat_lt
      obtain ⟨d1, hd1⟩ : ∃ d1, d1 = d ^^^ z8 x := ⟨_, rfl⟩
      rw [← hd1] at hx1 HR3
      clear hd1
      have hd1l := d1.isLt
      go_wp2_with fail
      refine (word_any w.heap.size d1 _ hz htab).mono ?_
      rintro e w2 ⟨rfl, htab2, hg2⟩
      have hb2 := below_grown hbel hg2 (Nat.le_refl _) hbel.size
      have hz2 := hg2.size
      have hw1 := word_step d1
      obtain ⟨d2, hd2⟩ : ∃ d2, d2 = stpN 4 d1 := ⟨_, rfl⟩
      obtain ⟨t1, htt1⟩ : ∃ t1, t1 = tab (d1.toNat % 16) := ⟨_, rfl⟩
      rw [← hd2] at hw1 HR3
      rw [← htt1] at hw1 ⊢
      clear hd2 htt1 hcell hx1 hg2 htab hbel
      have hd2l := d2.isLt
      go_wp2_with fail
      refine (word_any w.heap.size d2 _ (by omega) htab2).mono ?_
      rintro e w3 ⟨rfl, htab3, hg3⟩
      have hb3 := below_grown hb2 hg3 (Nat.le_refl _) hb2.size
      have hz3 := hg3.size
      have hw2 := word_step d2
      obtain ⟨d3, hd3⟩ : ∃ d3, d3 = stpN 4 d2 := ⟨_, rfl⟩
      obtain ⟨t2, htt2⟩ : ∃ t2, t2 = tab (d2.toNat % 16) := ⟨_, rfl⟩
      rw [← hd3] at hw2 HR3
      rw [← htt2] at hw2 ⊢
      clear hd3 htt2 hw1 hg3 htab2 hb2
      go_wp2
      go_roundw
      case rel => exact ⟨k+1, d3, by omega, by go_num, rfl, htab3, hb3, by omega, HR3⟩
      case measure => simp [intOf]; omega
    · have hR3 := HR2.out
      rw [List.drop_eq_nil_of_le (by omega)] at hR3
      have hR4 : R = ~~~ d := hR3
      have hn := not_u32 d
      rw [← hR4] at hn
      clear hR3 HR2 hR4
      go_wp2
      go_ret
      exact ⟨rfl, hbel⟩
end Go.Proofs.Ytoccgpddmhhlgaa
