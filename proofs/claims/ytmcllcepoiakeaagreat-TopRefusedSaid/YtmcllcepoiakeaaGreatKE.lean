import Derived.Test.YtmcllcepoiakeaaGreatKA
set_option linter.unusedSimpArgs false
set_option linter.unusedVariables false
namespace Go.Proofs.YtmcllcepoiakeaaGreat.Kx
open Go.RowKit Go.Mx Go.Crc
theorem xor_u32 (a b : BitVec 32) : bits .xor .u32 (a.toNat : Int) (b.toNat : Int) = ((a ^^^ b).toNat : Int) := by
  rw [show (a ^^^ b).toNat = a.toNat ^^^ b.toNat from BitVec.toNat_xor a b]
  exact u32_xor_nat a.toNat b.toNat a.isLt b.isLt
theorem stp_true (c : BitVec 32) (h : c.getLsbD 0 = true) : bits .xor .u32 ((c.toNat : Int) / (2 : Int)) 2197175160 = ((stp c).toNat : Int) := by
  have e1 : (c.toNat : Int) / (2 : Int) = ((c >>> 1).toNat : Int) := by
    rw [BitVec.toNat_ushiftRight, Nat.shiftRight_eq_div_pow]; simp
  have e2 : (2197175160 : Int) = (poly.toNat : Int) := by decide
  rw [e1, e2, xor_u32]
  unfold stp
  rw [if_pos h]
theorem stp_false (c : BitVec 32) (h : c.getLsbD 0 = false) : (c.toNat : Int) / (2 : Int) = ((stp c).toNat : Int) := by
  unfold stp
  rw [h]
  simp only [Bool.false_eq_true, if_false]
  rw [BitVec.toNat_ushiftRight, Nat.shiftRight_eq_div_pow]; simp
theorem and1_u32 (c : BitVec 32) : bits .and .u32 (c.toNat : Int) 1 = ((c.toNat % 2 : Nat) : Int) := by
  have := u32_and_nat c.toNat 1 c.isLt (by omega)
  rw [Nat.and_one_is_mod] at this
  exact this
theorem lsb_true (c : BitVec 32) (h : c.getLsbD 0 = true) : bits .and .u32 (c.toNat : Int) 1 = 1 := by
  have : c.toNat.testBit 0 = true := h
  rw [Nat.testBit_zero] at this
  rw [and1_u32]
  simp at this; omega
theorem lsb_false (c : BitVec 32) (h : c.getLsbD 0 = false) : bits .and .u32 (c.toNat : Int) 1 = 0 := by
  have : c.toNat.testBit 0 = false := h
  rw [Nat.testBit_zero] at this
  rw [and1_u32]
  simp at this; omega
def tab (k : Nat) : BitVec 32 := stpN 4 (BitVec.ofNat 32 k)
/-- the table's entries below n are made -/
def Ent (w : World) (b n : Nat) : Prop := ∀ i, i < n → w.cell? ⟨b, 3 + i, none⟩ = some (.int .u32 (tab i).toNat)
theorem grown_trans {a b c : World} {r : Option Nat} (h : a.grownBy b r) (k : b.grownBy c r) : a.grownBy c r :=
  ⟨k.os.trans h.os, k.tape.trans h.tape, k.output.trans h.output, Nat.le_trans h.size k.size, fun i hi hr => (k.block i (Nat.lt_of_lt_of_le hi h.size) hr).trans (h.block i hi hr)⟩
theorem grown_set (w : World) (b o : Nat) (v : Value) : w.grownBy (w.setCell ⟨b, o, none⟩ v) (some b) :=
  ⟨rfl, rfl, rfl, by simp, fun i _ hr => Below.heap_setCell w ⟨b, o, none⟩ v i (fun e => hr (by rw [e]))⟩
structure Room (w : World) (b : Nat) : Prop where
  ent : ∀ i, i < 16 → ∃ v, w.cell? ⟨b, 3 + i, none⟩ = some v
  fz : ∀ o, w.frozen? ⟨b, o, none⟩ = false
theorem cs_off {w : World} {b o o' : Nat} {v : Value} (h : o ≠ o') : (w.setCell ⟨b, o, none⟩ v).cell? ⟨b, o', none⟩ = w.cell? ⟨b, o', none⟩ :=
  World.cell?_setCell_other w _ _ _ (by simp [h])
theorem Room.set {w : World} {b : Nat} (h : Room w b) (o : Nat) (u : Value) : Room (w.setCell ⟨b, o, none⟩ u) b := by
  refine ⟨fun i hi => ?_, fun o' => by rw [fz_set]; exact h.fz o'⟩
  obtain ⟨v, hv⟩ := h.ent i hi
  by_cases e : o = 3 + i
  · subst e; exact ⟨u, cs_same hv⟩
  · exact ⟨v, by rw [cs_off e]; exact hv⟩
theorem Room.drew {w : World} {b : Nat} (h : Room w b) : Room w.drew b := ⟨fun i hi => by rw [World.cell?_drew]; exact h.ent i hi, fun o => by have := h.fz o; simpa using this⟩
theorem Ent.next {w : World} {b n : Nat} (h : Ent w b n) (hr : Room w b) (hn : n < 16) : Ent (w.setCell ⟨b, 3 + n, none⟩ (.int .u32 (tab n).toNat)) b (n + 1) := by
  intro i hi
  rcases Nat.lt_or_ge i n with h1 | h1
  · rw [cs_off (by omega)]; exact h i h1
  · obtain rfl : i = n := by omega
    obtain ⟨v, hv⟩ := hr.ent i hn
    exact cs_same hv
structure FillPost (w w' : World) (b : Nat) : Prop where
  ent : Ent w' b 16
  room : Room w' b
  low : ∀ o, o < 3 → w'.cell? ⟨b, o, none⟩ = w.cell? ⟨b, o, none⟩
  grown : w.grownBy w' (some b)
set_option maxRecDepth 100000 in
set_option maxHeartbeats 1000000 in
theorem fill_any (b pl : Nat) (w : World) (hne : b ≠ pl) (hp : w.cell? ⟨pl, 0, none⟩ = some (.pointer (some ⟨b, 0, none⟩))) (hr : Room w b) :
    Calls Tryz.prog 274 #[.pointer (some ⟨pl, 0, none⟩)] w fun e w' => e = .returned (.tuple #[]) ∧ FillPost w w' b := by
  go_enter Tryz.func274, Tryz.ntmps274
  go_wp2
  go_loopw [4] (fun i wr => ∃ k : Nat, k ≤ 16 ∧ i = .int .i64 k ∧ Ent wr b k ∧ Room wr b ∧ (∀ o, o < 3 → wr.cell? ⟨b, o, none⟩ = w.cell? ⟨b, o, none⟩) ∧ w.grownBy wr (some b))
    (fun i _ => 16 - (intOf i).toNat)
  case atStart => exact ⟨0, by omega, rfl, fun i hi => absurd hi (by omega), hr, fun _ _ => rfl, World.grownBy.refl w _⟩
  case round =>
    obtain ⟨k, hk, rfl, hent, hroom, hlow, hg⟩ := hrel
    have HLOW := hid hlow
    clear hlow
    by_cases hk16 : k < 16
    · have HT : Hid (tab k = stpN 4 (BitVec.ofNat 32 k)) := rfl
      have hkb : ((BitVec.ofNat 32 k).toNat : Int) = (k : Int) := by simp; omega
      obtain ⟨c0, hc0⟩ : ∃ c0, c0 = BitVec.ofNat 32 k := ⟨_, rfl⟩
      rw [← hc0] at HT hkb
      clear hc0
      have HK := hid hkb
      clear hkb
      obtain ⟨T, hT⟩ : ∃ T, T = tab k := ⟨_, rfl⟩
      rw [← hT] at HT
      have HTT := hid hT
      clear hT
      go_wp2
      go_loop [2, 9] (fun c i => ∃ (j : Nat) (d : BitVec 32), j ≤ 4 ∧ i = .int .i64 j ∧ c = .int .u32 d.toNat ∧ Hid (T = stpN (4 - j) d))
        (fun _ i => 4 - (intOf i).toNat)
      case atStart => exact ⟨0, c0, by omega, rfl, by rw [HK.out], HT⟩
      case round =>
        obtain ⟨j, d, hj, rfl, rfl, HT2⟩ := hrel
        clear HT HK
        by_cases hj4 : j < 4
        · have hT3 := HT2.out
          rw [show 4 - j = (4 - (j + 1)) + 1 by omega, stpN] at hT3
          have HT3 := hid hT3
          clear hT3 HT2
          have hdl := d.isLt
          cases hb : d.getLsbD 0
          · have hm := lsb_false d hb
            have HS := hid (stp_false d hb)
            clear hb
            go_wp2
            go_round
            case rel => exact ⟨j+1, stp d, by omega, by go_num, by rw [HS.out], HT3⟩
            case measure => simp [intOf]; omega
          · have hm := lsb_true d hb
            have HS := hid (stp_true d hb)
            clear hb
            go_wp2
            go_round
            case rel => exact ⟨j+1, stp d, by omega, by go_num, by rw [HS.out], HT3⟩
            case measure => simp [intOf]; omega
        · obtain rfl : j = 4 := by omega
          have hT3 := HT2.out
          simp only [Nat.sub_self, stpN] at hT3
          subst hT3
          clear HT2
          obtain ⟨v, hv⟩ := hroom.ent k hk16
          have hfz := hroom.fz (3 + k)
          have hp' : wr.cell? ⟨pl, 0, none⟩ = some (.pointer (some ⟨b, 0, none⟩)) := hg.cell hp (by simp; omega)
          go_wp2
          go_roundw
          case rel => exact ⟨k+1, by omega, by go_num, by rw [HTT.out]; exact hent.next hroom hk16, hroom.set _ _, fun o ho => by rw [cs_off (by omega)]; exact HLOW.out o ho, grown_trans hg (grown_set _ _ _ _)⟩
          case measure => simp [intOf]; omega
    · obtain rfl : k = 16 := by omega
      go_wp2
      go_end0
      exact ⟨rfl, hent, hroom, HLOW.out, hg⟩
structure Done (w w' : World) (b : Nat) : Prop where
  done : w'.cell? ⟨b, 0, none⟩ = some (.int .u32 1)
  mu : w'.cell? ⟨b, 1, none⟩ = some (.int .i32 0)
  ent : Ent w' b 16
  room : Room w' b
  grown : w.grownBy w' (some b)
theorem grown_drew (w : World) (r : Option Nat) : w.grownBy w.drew r := ⟨rfl, rfl, rfl, Nat.le_refl _, fun _ _ _ => rfl⟩
theorem Ent.set {w : World} {b n o : Nat} {u : Value} (h : Ent w b n) (ho : o < 3) : Ent (w.setCell ⟨b, o, none⟩ u) b n := fun i hi => by
  rw [cs_off (by omega)]; exact h i hi
theorem Ent.drew {w : World} {b n : Nat} (h : Ent w b n) : Ent w.drew b n := fun i hi => by rw [World.cell?_drew]; exact h i hi
set_option maxRecDepth 100000 in
set_option maxHeartbeats 1600000 in
theorem slow_any (b pl : Nat) (hne : b ≠ pl) (w : World) (hp : w.cell? ⟨pl, 0, none⟩ = some (.pointer (some ⟨b, 0, none⟩)))
    (h0 : w.cell? ⟨b, 0, none⟩ = some (.int .u32 0)) (h1 : w.cell? ⟨b, 1, none⟩ = some (.int .i32 0)) (hr : Room w b) :
    Calls Tryz.prog 294 #[.pointer (some ⟨b, 0, none⟩), .func (.func 274) #[] #[.pointer (some ⟨pl, 0, none⟩)]] w fun e w' => e = .returned (.tuple #[]) ∧ Done w w' b := by
  have hl := run_call_load (P := Tryz.prog) Tryz.func303 (by kernel_rfl) (by kernel_rfl) (by kernel_rfl) .u32 (by kernel_rfl) (w := w.setCell ⟨b, 1, none⟩ (.int .i32 1)) (a := ⟨b, 0, none⟩) (x := 0) ((cs_off (by omega)).trans h0)
  have hp1 : (w.setCell ⟨b, 1, none⟩ (.int .i32 1)).cell? ⟨pl, 0, none⟩ = some (.pointer (some ⟨b, 0, none⟩)) := (cs_ne hne).trans hp
  have hr1 : Room (w.setCell ⟨b, 1, none⟩ (.int .i32 1)) b := hr.set _ _
  have hf0 := hr.fz 0
  have hf1 := hr.fz 1
  have hnot : ∀ (x : Bool) (w : World), (Op.unary .not (.bool x)).run Tryz.prog w = .ok (.bool (!x)) w := fun _ _ => rfl
  go_enter_defers Tryz.func294, Tryz.ntmps294
  go_wp2_with (go_at_call 304; refine (lock_free ⟨b, 1, none⟩ _ (by go_simp) (by go_simp)).mono ?_; rintro e w' ⟨rfl, rfl⟩)
  go_wp2_with (first | (go_at_call 274; refine (fill_any b pl _ hne hp1 hr1).mono ?_; rintro e w2 ⟨rfl, hfill⟩) | (go_at_call 293; go_in))
  refine leaves_cons (f := 306) (args := #[.pointer (some ⟨b, 0, none⟩), .bool true]) (by simp) (by simp [go_sem]) ?_
  refine (store_deferred ⟨b, 0, none⟩ (.int .u32 0) .returning _ ?_ (hfill.room.fz 0)).mono ?_
  · rw [hfill.low 0 (by omega), cs_off (by omega)]; exact h0
  rintro e u' w'' ⟨rfl, rfl, rfl⟩
  refine leaves_cons (f := 305) (args := #[.pointer (some ⟨b, 1, none⟩)]) (by simp [settle]) (by simp [go_sem]) ?_
  have hc1 : (w2.drew.setCell ⟨b, 0, none⟩ (.int .u32 1)).cell? ⟨b, 1, none⟩ = some (.int .i32 1) := by
    rw [cs_off (by omega), World.cell?_drew, hfill.low 1 (by omega)]; exact cs_same h1
  have hr2 : Room (w2.drew.setCell ⟨b, 0, none⟩ (.int .u32 1)) b := (hfill.room.drew).set _ _
  refine (unlock_deferred ⟨b, 1, none⟩ _ _ hc1 (hr2.fz 1)).mono ?_
  rintro e u' w'' ⟨rfl, rfl, rfl⟩
  have hd : Done w ((w2.drew.setCell ⟨b, 0, none⟩ (.int .u32 1)).setCell ⟨b, 1, none⟩ (.int .i32 0)) b :=
    { done := by
        rw [cs_off (by omega)]
        have : w2.drew.cell? ⟨b, 0, none⟩ = some (.int .u32 0) := by rw [World.cell?_drew, hfill.low 0 (by omega), cs_off (by omega)]; exact h0
        exact cs_same this
      mu := cs_same hc1
      ent := (hfill.ent.drew.set (by omega)).set (by omega)
      room := hr2.set _ _
      grown := grown_trans (grown_trans (grown_trans (grown_trans (grown_set w b 1 _) hfill.grown) (grown_drew _ _)) (grown_set _ _ _ _)) (grown_set _ _ _ _) }
  simp [Leaves, settle, results, Tryz.results294]
  exact hd
theorem do_first (b pl : Nat) (hne : b ≠ pl) (w : World) (hp : w.cell? ⟨pl, 0, none⟩ = some (.pointer (some ⟨b, 0, none⟩)))
    (h0 : w.cell? ⟨b, 0, none⟩ = some (.int .u32 0)) (h1 : w.cell? ⟨b, 1, none⟩ = some (.int .i32 0)) (hr : Room w b) :
    Calls Tryz.prog 273 #[.pointer (some ⟨b, 0, none⟩), .func (.func 274) #[] #[.pointer (some ⟨pl, 0, none⟩)]] w fun e w' => e = .returned (.tuple #[]) ∧ Done w w' b := by
  have hl := run_call_load (P := Tryz.prog) Tryz.func303 (by kernel_rfl) (by kernel_rfl) (by kernel_rfl) .u32 (by kernel_rfl) h0
  have hnot : ∀ (x : Bool) (w : World), (Op.unary .not (.bool x)).run Tryz.prog w = .ok (.bool (!x)) w := fun _ _ => rfl
  go_enter Tryz.func273, Tryz.ntmps273
  go_wp2_with (first | (go_at_call 294; refine (slow_any b pl hne _ hp h0 h1 hr).mono ?_; rintro e w' ⟨rfl, hd⟩) | (go_at_call 293; go_in))
  go_end0
  exact ⟨rfl, hd⟩
theorem do_done (a : Addr) (fv : Value) (w : World) (h0 : w.cell? a = some (.int .u32 1)) :
    Calls Tryz.prog 273 #[.pointer (some a), fv] w fun e w' => e = .returned (.tuple #[]) ∧ w = w' := by
  have hl := run_call_load (P := Tryz.prog) Tryz.func303 (by kernel_rfl) (by kernel_rfl) (by kernel_rfl) .u32 (by kernel_rfl) h0
  have hnot : ∀ (x : Bool) (w : World), (Op.unary .not (.bool x)).run Tryz.prog w = .ok (.bool (!x)) w := fun _ _ => rfl
  go_enter Tryz.func273, Tryz.ntmps273
  go_wp2
  go_end0
  exact ⟨rfl, rfl⟩
structure TabOk (w : World) (b : Nat) : Prop where
  room : Room w b
  mu : w.cell? ⟨b, 1, none⟩ = some (.int .i32 0)
  once : w.cell? ⟨b, 0, none⟩ = some (.int .u32 0) ∨ (w.cell? ⟨b, 0, none⟩ = some (.int .u32 1) ∧ Ent w b 16)
theorem keep_alloc {w : World} {b : Nat} (hb : b < w.heap.size) (o : Obj) : ∀ i, (w.alloc o).cell? ⟨b, i, none⟩ = w.cell? ⟨b, i, none⟩ := fun i => World.cell?_alloc_past o b i hb
theorem Room.alloc {w : World} {b : Nat} (h : Room w b) (hb : b < w.heap.size) (o : Obj) : Room (w.alloc o) b :=
  ⟨fun i hi => by rw [keep_alloc hb]; exact h.ent i hi, fun i => by rw [World.frozen?_alloc_past o b i hb]; exact h.fz i⟩
theorem Ent.alloc {w : World} {b n : Nat} (h : Ent w b n) (hb : b < w.heap.size) (o : Obj) : Ent (w.alloc o) b n := fun i hi => by rw [keep_alloc hb]; exact h i hi
set_option maxRecDepth 100000 in
set_option maxHeartbeats 1600000 in
theorem word_any (b : Nat) (x : BitVec 32) (w : World) (hb : b < w.heap.size) (ht : TabOk w b) :
    Calls Tryz.prog 253 #[.pointer (some ⟨b, 0, none⟩), .int .u32 x.toNat] w fun e w' => e = .returned (.int .u32 (tab (x.toNat % 16)).toNat) ∧ TabOk w' b ∧ w.grownBy w' (some b) := by
  have hmf : ∀ (fn : Fn) (first cap : Array Value) (w : World), (Instr.makeFunc fn first cap).run Tryz.prog w = .ok (.func fn first cap) w := fun _ _ _ _ => rfl
  obtain ⟨hroom, hmu, honce⟩ := ht
  have p0 : (w.alloc (.cells #[.pointer (some ⟨b, 0, none⟩)] 403)).cell? ⟨w.heap.size, 0, none⟩ = some (.pointer (some ⟨b, 0, none⟩)) := cell_alloc1 _ _ _
  have hk : ∀ i, (w.alloc (.cells #[.pointer (some ⟨b, 0, none⟩)] 403)).cell? ⟨b, i, none⟩ = w.cell? ⟨b, i, none⟩ := keep_alloc hb _
  have hr1 := hroom.alloc hb (.cells #[.pointer (some ⟨b, 0, none⟩)] 403)
  have hm1 := (hk 1).trans hmu
  have hg1 : w.grownBy (w.alloc (.cells #[.pointer (some ⟨b, 0, none⟩)] 403)) (some b) := World.grownBy_alloc w _ _
  have hxl := x.isLt
  obtain ⟨m, hm⟩ : ∃ m, m = x.toNat % 16 := ⟨_, rfl⟩
  have hmod : (x.toNat : Int) % 16 = (m : Int) := by omega
  have hm16 : m < 16 := by omega
  rw [← hm]
  clear hm
  rcases honce with h0 | ⟨h0, he⟩
  · have hd0 := (hk 0).trans h0
    go_enter Tryz.func253, Tryz.ntmps253
    go_wp2_with fail
    refine (do_first b w.heap.size (by omega) _ p0 hd0 hm1 hr1).mono ?_
    rintro e w' ⟨rfl, hd⟩
    have hc := hd.ent m hm16
    have hp2 := hd.grown.cell p0 (by simp; omega)
    clear p0 hk hr1 hm1 hd0 hmu
    go_wp2
    go_ret
    exact ⟨rfl, ⟨hd.room, hd.mu, .inr ⟨hd.done, hd.ent⟩⟩, grown_trans hg1 hd.grown⟩
  · have hd0 := (hk 0).trans h0
    have he1 := he.alloc hb (.cells #[.pointer (some ⟨b, 0, none⟩)] 403)
    have hc := he1 m hm16
    go_enter Tryz.func253, Tryz.ntmps253
    go_wp2_with fail
    refine (do_done ⟨b, 0, none⟩ _ _ hd0).mono ?_
    rintro e w' ⟨rfl, rfl⟩
    clear hk hmu
    go_wp2
    go_ret
    exact ⟨rfl, ⟨hr1, hm1, .inr ⟨hd0, he1⟩⟩, hg1⟩
theorem xor_u8 (c : BitVec 32) (x : UInt8) : bits .xor .u32 (c.toNat : Int) (x.toNat : Int) = ((c ^^^ z8 x).toNat : Int) := by
  have h := x.toNat_lt
  have e : (x.toNat : Int) = ((z8 x).toNat : Int) := by
    unfold z8; rw [BitVec.toNat_ofNat]; omega
  rw [e, xor_u32]
theorem word_step (c : BitVec 32) : bits .xor .u32 ((tab (c.toNat % 16)).toNat : Int) ((c.toNat : Int) / (16 : Int)) = ((stpN 4 c).toNat : Int) := by
  have e1 : (c.toNat : Int) / (16 : Int) = ((c >>> 4).toNat : Int) := by
    rw [BitVec.toNat_ushiftRight, Nat.shiftRight_eq_div_pow]; simp
  rw [e1, xor_u32]
  conv => rhs; rw [stp4]
  have e2 : tab (c.toNat % 16) = stpN 4 (c &&& 15#32) := by
    unfold tab
    congr 1
    apply BitVec.eq_of_toNat_eq
    rw [BitVec.toNat_and, BitVec.toNat_ofNat, Nat.mod_eq_of_lt (by omega)]
    exact (Nat.and_two_pow_sub_one_eq_mod c.toNat 4).symm
  rw [e2]
theorem crcB_two (c : BitVec 32) (x : UInt8) : stpN 4 (stpN 4 (c ^^^ z8 x)) = crcB c x := by
  unfold crcB; rw [← stpN_add]
theorem RdB.grown {w w' : World} {b o r : Nat} {bs : List UInt8} (h : RdB w b o bs) (hg : w.grownBy w' (some r)) (hr : b ≠ r) : RdB w' b o bs :=
  fun i hi => hg.cell (h i hi) (by simp; omega)
theorem below_grown {B b : Nat} {a w w' : World} (h : Below B a w) (hg : w.grownBy w' (some b)) (hb : B ≤ b) (hB : B ≤ w.heap.size) : Below B a w' :=
  h.grown hg hB (fun k hk => by cases hk; exact hb)
theorem cells_new (w : World) (n : Nat) (c : Array Value) (e : TypeId) (i : Nat) : (w.alloc (.cells c e)).cell? ⟨w.heap.size, i, none⟩ = c[i]? := World.cell?_alloc_at c e w.heap.size i rfl
theorem not_u32 (c : BitVec 32) : bits .xor .u32 IntKind.u32.max (c.toNat : Int) = ((~~~ c).toNat : Int) := by
  have e : IntKind.u32.max = ((4294967295#32 : BitVec 32).toNat : Int) := by decide
  rw [e, xor_u32]
  rw [show (4294967295#32 : BitVec 32) = BitVec.allOnes 32 by decide, BitVec.allOnes_xor]
def zcells : Array Value := #[.int .u32 0, .int .i32 0, .int .u32 0, .int .u32 0, .int .u32 0, .int .u32 0, .int .u32 0, .int .u32 0, .int .u32 0, .int .u32 0, .int .u32 0, .int .u32 0, .int .u32 0, .int .u32 0, .int .u32 0, .int .u32 0, .int .u32 0, .int .u32 0, .int .u32 0]
theorem tabOk_new (w : World) : TabOk (w.alloc (.cells zcells 380)) w.heap.size := by
  refine ⟨⟨fun i hi => ?_, fun o => World.frozen?_alloc_at zcells 380 w.heap.size o rfl⟩, ?_, .inl ?_⟩
  · rw [cells_new w w.heap.size]
    have : 3 + i < zcells.size := by show 3 + i < 19; omega
    exact ⟨_, Array.getElem?_eq_getElem this⟩
  · rw [cells_new w w.heap.size]; rfl
  · rw [cells_new w w.heap.size]; rfl
theorem TabOk.below {w w' : World} {b B : Nat} (h : TabOk w b) (hb : Below B w w') (hB : b < B) : TabOk w' b := by
  have hc : ∀ i, w'.cell? ⟨b, i, none⟩ = w.cell? ⟨b, i, none⟩ := fun i => hb.cell (p := ⟨b, i, none⟩) hB
  refine ⟨⟨fun i hi => by rw [hc]; exact h.room.ent i hi, fun o => by rw [hb.frozen (p := ⟨b, o, none⟩) hB]; exact h.room.fz o⟩, by rw [hc]; exact h.mu, ?_⟩
  rw [hc]
  exact h.once.imp id fun ⟨x, y⟩ => ⟨x, fun i hi => by rw [hc]; exact y i hi⟩
set_option maxRecDepth 100000 in
set_option maxHeartbeats 1000000 in
theorem more_any (s : BitVec 32) (bs : List UInt8) (bv : Value) (w : World) (hb : SlB w w.heap.size bv bs) (hlen : bs.length ≤ 1000000000) :
    Calls Tryz.prog 208 #[.int .u32 s.toNat, bv] w fun e w' => e = .returned (.int .u32 (more s bs).toNat) ∧ Below w.heap.size w w' := by
  obtain ⟨oa, cap, rfl, h1, h2, h3⟩ := hb
  have H3 := hid h3
  clear h3
  obtain ⟨R, hR⟩ : ∃ R, R = more s bs := ⟨_, rfl⟩
  rw [← hR]
  obtain ⟨c0, hc0⟩ : ∃ c0, c0 = ~~~ s := ⟨_, rfl⟩
  have hns := not_u32 s
  rw [← hc0] at hns
  have HR : Hid (R = ~~~ (crcL c0 bs)) := by unfold Hid; rw [hR, hc0]; rfl
  clear hR hc0
  have hsl := s.isLt
  go_enter Tryz.func208, Tryz.ntmps208
  go_wp2
  have ht0 : TabOk (w.alloc (.cells zcells 380)) w.heap.size := tabOk_new w
  have hb0 : Below w.heap.size w (w.alloc (.cells zcells 380)) := (Below.refl _ _).alloc (Nat.le_refl _) _
  have hz0 : w.heap.size < (w.alloc (.cells zcells 380)).heap.size := by simp
  unfold zcells at ht0 hb0 hz0
  obtain ⟨w1, hw1⟩ : ∃ w1, w1 = w.alloc (.cells #[.int .u32 0, .int .i32 0, .int .u32 0, .int .u32 0, .int .u32 0, .int .u32 0, .int .u32 0, .int .u32 0, .int .u32 0, .int .u32 0, .int .u32 0, .int .u32 0, .int .u32 0, .int .u32 0, .int .u32 0, .int .u32 0, .int .u32 0, .int .u32 0, .int .u32 0] 380) := ⟨_, rfl⟩
  rw [← hw1] at ht0 hb0 hz0 ⊢
  clear hw1 hns
  go_loopw [6, 13] (fun c i wr => ∃ (k : Nat) (d : BitVec 32), k ≤ bs.length ∧ i = .int .i64 k ∧ c = .int .u32 d.toNat ∧ TabOk wr w.heap.size ∧ Below w.heap.size w wr ∧ w.heap.size < wr.heap.size ∧ Hid (R = ~~~ (crcL d (bs.drop k))))
    (fun _ i _ => bs.length - (intOf i).toNat)
  case atStart => exact ⟨0, c0, by omega, rfl, rfl, ht0, hb0, hz0, by rw [List.drop_zero]; exact HR⟩
  case round =>
    obtain ⟨k, d, hk, rfl, rfl, htab, hbel, hz, HR2⟩ := hrel
    clear ht0 hb0 hz0 HR
    by_cases hlt : k < bs.length
    · obtain ⟨bb, bo, rfl, hbb, hrd⟩ := H3.out (by rintro rfl; simp at hlt)
      have hcell := (hrd.below hbel hbb).at hlt
      obtain ⟨x, hx⟩ : ∃ x, x = bs.getD k 0 := ⟨_, rfl⟩
      rw [← hx] at hcell
      have hR3 := HR2.out
      rw [drop_getD bs k hlt, ← hx] at hR3
      simp only [crcL, List.foldl_cons] at hR3
      rw [← crcB_two] at hR3
      have HR3 := hid hR3
      clear hR3 HR2 hx hrd
      have hx1 := xor_u8 d x
      have hxl := x.toNat_lt
      obtain ⟨d1, hd1⟩ : ∃ d1, d1 = d ^^^ z8 x := ⟨_, rfl⟩
      rw [← hd1] at hx1 HR3
      clear hd1
      have hd1l := d1.isLt
      go_wp2_with fail
      refine (word_any w.heap.size d1 _ hz htab).mono ?_
      rintro e w2 ⟨rfl, htab2, hg2⟩
      have hb2 := below_grown hbel hg2 (Nat.le_refl _) hbel.size
      have hz2 := hg2.size
      have hw1 := word_step d1
      obtain ⟨d2, hd2⟩ : ∃ d2, d2 = stpN 4 d1 := ⟨_, rfl⟩
      obtain ⟨t1, htt1⟩ : ∃ t1, t1 = tab (d1.toNat % 16) := ⟨_, rfl⟩
      rw [← hd2] at hw1 HR3
      rw [← htt1] at hw1 ⊢
      clear hd2 htt1 hcell hx1 hg2 htab hbel
      have hd2l := d2.isLt
      go_wp2_with fail
      refine (word_any w.heap.size d2 _ (by omega) htab2).mono ?_
      rintro e w3 ⟨rfl, htab3, hg3⟩
      have hb3 := below_grown hb2 hg3 (Nat.le_refl _) hb2.size
      have hz3 := hg3.size
      have hw2 := word_step d2
      obtain ⟨d3, hd3⟩ : ∃ d3, d3 = stpN 4 d2 := ⟨_, rfl⟩
      obtain ⟨t2, htt2⟩ : ∃ t2, t2 = tab (d2.toNat % 16) := ⟨_, rfl⟩
      rw [← hd3] at hw2 HR3
      rw [← htt2] at hw2 ⊢
      clear hd3 htt2 hw1 hg3 htab2 hb2
      go_wp2
      go_roundw
      case rel => exact ⟨k+1, d3, by omega, by go_num, rfl, htab3, hb3, by omega, HR3⟩
      case measure => simp [intOf]; omega
    · have hR3 := HR2.out
      rw [List.drop_eq_nil_of_le (by omega)] at hR3
      have hR4 : R = ~~~ d := hR3
      have hn := not_u32 d
      rw [← hR4] at hn
      clear hR3 HR2 hR4
      go_wp2
      go_ret
      exact ⟨rfl, hbel⟩
theorem sum_any (bs : List UInt8) (bv : Value) (w : World) (hb : SlB w w.heap.size bv bs) (hlen : bs.length ≤ 1000000000) :
    Calls Tryz.prog 124 #[bv] w fun e w' => e = .returned (.int .u32 (sum bs).toNat) ∧ Below w.heap.size w w' := by
  have hc : Calls Tryz.prog 208 #[.int .u32 0, bv] w _ := more_any 0 bs bv w hb hlen
  have HC := hid hc
  clear hc
  go_enter Tryz.func124, Tryz.ntmps124
  go_wp2_with fail
  refine HC.out.mono ?_
  rintro e w' ⟨rfl, hbel⟩
  go_wp2
  go_ret
  exact ⟨rfl, hbel⟩
theorem xor_u64 (a b : BitVec 64) : bits .xor .u64 (a.toNat : Int) (b.toNat : Int) = ((a ^^^ b).toNat : Int) := by
  rw [show (a ^^^ b).toNat = a.toNat ^^^ b.toNat from BitVec.toNat_xor a b]
  exact bits_xor_u64_nat a.toNat b.toNat a.isLt b.isLt
theorem xor_u8' (c : BitVec 64) (x : UInt8) : bits .xor .u64 (c.toNat : Int) (x.toNat : Int) = ((c ^^^ zz x).toNat : Int) := by
  have h := x.toNat_lt
  have e : (x.toNat : Int) = ((zz x).toNat : Int) := by
    unfold zz; rw [BitVec.toNat_ofNat]; omega
  rw [e, xor_u64]
theorem mul_p (c : BitVec 64) : IntKind.u64.wrap ((c.toNat : Int) * 1099511628211) = ((c * prime).toNat : Int) := by
  rw [IntKind.wrap_u64, BitVec.toNat_mul, show prime.toNat = 1099511628211 by decide]
  omega
theorem mix_u64 (d : BitVec 64) : bits .xor .u64 (d.toNat : Int) ((d.toNat : Int) / (4294967296 : Int)) = ((mix d).toNat : Int) := by
  have e1 : (d.toNat : Int) / (4294967296 : Int) = ((d >>> 32).toNat : Int) := by
    rw [BitVec.toNat_ushiftRight, Nat.shiftRight_eq_div_pow]; simp
  rw [e1, xor_u64]; rfl
set_option maxRecDepth 100000 in
set_option maxHeartbeats 1000000 in
theorem finger_any (bs : List UInt8) (bv : Value) (w : World) (hb : SlB w w.heap.size bv bs) (hlen : bs.length ≤ 1000000000) :
    Calls Tryz.prog 282 #[bv] w fun e w' => e = .returned (.int .u64 (finger bs).toNat) ∧ w = w' := by
  obtain ⟨oa, cap, rfl, h1, h2, h3⟩ := hb
  have H3 := hid h3
  clear h3
  obtain ⟨R, hR⟩ : ∃ R, R = finger bs := ⟨_, rfl⟩
  rw [← hR]
  have HR : Hid (R = mix (finL off bs)) := hR
  clear hR
  go_enter Tryz.func282, Tryz.ntmps282
  go_wp2
  go_loop [3, 8] (fun c i => ∃ (k : Nat) (d : BitVec 64), k ≤ bs.length ∧ i = .int .i64 k ∧ c = .int .u64 d.toNat ∧ Hid (R = mix (finL d (bs.drop k))))
    (fun _ i => bs.length - (intOf i).toNat)
  case atStart => exact ⟨0, off, by omega, rfl, rfl, by rw [List.drop_zero]; exact HR⟩
  case round =>
    obtain ⟨k, d, hk, rfl, rfl, HR2⟩ := hrel
    clear HR
    by_cases hlt : k < bs.length
    · obtain ⟨bb, bo, rfl, hbb, hrd⟩ := H3.out (by rintro rfl; simp at hlt)
      have hcell := hrd.at hlt
      obtain ⟨x, hx⟩ : ∃ x, x = bs.getD k 0 := ⟨_, rfl⟩
      rw [← hx] at hcell
      have hR3 := HR2.out
      rw [drop_getD bs k hlt, ← hx] at hR3
      simp only [finL, List.foldl_cons] at hR3
      clear HR2 hx hrd
      have hx1 := xor_u8' d x
      have hxl := x.toNat_lt
      rw [finB] at hR3
      obtain ⟨d1, hd1⟩ : ∃ d1, d1 = d ^^^ zz x := ⟨_, rfl⟩
      rw [← hd1] at hx1 hR3
      have HR3 := hid hR3
      clear hd1 hR3
      have hd1l := d1.isLt
      have HM := hid (mul_p d1)
      go_wp2
      go_round
      case rel => exact ⟨k+1, d1 * prime, by omega, by go_num, by rw [HM.out], HR3⟩
      case measure => simp [intOf]; omega
    · have hR3 := HR2.out
      rw [List.drop_eq_nil_of_le (by omega)] at hR3
      have hR4 : R = mix d := hR3
      have hm := mix_u64 d
      rw [← hR4] at hm
      clear hR3 hR4 HR2
      go_wp2
      go_ret
      exact ⟨rfl, rfl⟩
end Go.Proofs.YtmcllcepoiakeaaGreat.Kx
