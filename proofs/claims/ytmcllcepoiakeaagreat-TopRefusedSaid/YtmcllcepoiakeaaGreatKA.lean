import Derived.Test.YtmcllcepoiakeaaGreatTC
import Derived.Test.YtmcllcepoiakeaaGreatRows
import Derived.Test.YtmcllcepoiakeaaGreatMM
import Derived.Defers
import Derived.Laws.Pointers
import Derived.Laws.LoneSync
import Derived.RegionTactic
import Derived.RegionCalls
import Derived.ChangeAlike
set_option linter.unusedSimpArgs false
set_option linter.unusedVariables false
namespace Go.Proofs.YtmcllcepoiakeaaGreat
open Go.RowKit Go.Mx Go.Proofs.YtmcllcepoiakeaaGreat.Dx Go.Dk
section
variable (a5 a6 base p m room L i l : Nat) (fl : FL) (nm : List UInt8) (hnl : nm.length ≤ 16) (w : World)
theorem step2_any (h5 : w.heap[a5]? = some (.cells #[dp p] 22 (0, 0))) (h6 : w.heap[a6]? = some (.cells #[nmv nm] 9 (0, 0))) (hnl : nm.length ≤ 16) (hd : HG w base p m room fl L) (hi : fl[i]? = some (nm, l)) :
    Calls Tryz.prog 128 #[dp a5, dp a6] w fun e w' => e = .returned (.int .i64 0) ∧ HG w' base p m room fl L ∧ Fr base m w w' := by
  have c5 := cell_of h5 0
  have c6 := cell_of h6 0
  have HF := hid (flush_G hd hi (by unfold maxLen; omega))
  clear h5 h6 hd hi
  go_enter Tryz.func128, Tryz.ntmps128
  go_wp2_with fail
  refine HF.out.mono ?_
  rintro e w1 ⟨rfl, h1, h2⟩
  have HH := hid (And.intro h1 h2)
  clear h1 h2 c5 c6
  go_wp2
  go_ret
  exact ⟨rfl, HH.out.1, HH.out.2⟩
theorem step4_any (h5 : w.heap[a5]? = some (.cells #[dp p] 22 (0, 0))) (h6 : w.heap[a6]? = some (.cells #[nmv nm] 9 (0, 0))) (hnl : nm.length ≤ 16) (hd : HG w base p m room fl L) (hi : fl[i]? = some (nm, l)) :
    Calls Tryz.prog 131 #[dp a5, dp a6] w fun e w' => e = .returned (.int .i64 0) ∧ HG w' base p m room fl L ∧ Fr base m w w' := by
  have c5 := cell_of h5 0
  have c6 := cell_of h6 0
  have HF := hid (flush_G hd hi (by unfold maxLen; omega))
  clear h5 h6 hd hi
  go_enter Tryz.func131, Tryz.ntmps131
  go_wp2_with fail
  refine HF.out.mono ?_
  rintro e w1 ⟨rfl, h1, h2⟩
  have HH := hid (And.intro h1 h2)
  clear h1 h2 c5 c6
  go_wp2
  go_ret
  exact ⟨rfl, HH.out.1, HH.out.2⟩
theorem stab_row {w : World} {base m g : Nat} {s : List UInt8} (hs : s.length = 16) (hg : w.heap[g]? = some (.cells (srow s).toArray 322 (0, 0))) (hm : ∃ es cc, w.heap[m]? = some (.map es cc)) : ∀ w', Fr base m w w' → SlB w' w'.heap.size (.slice (some ⟨g, 0, none⟩) 16 16) s := fun w' hf => by
  have h2 := hf.cells hg (not_map hm hg) (by decide)
  refine ⟨_, 16, by rw [hs], by omega, by simp [maxLen], fun _ => ⟨g, 0, rfl, blk_lt h2, fun j hj => ?_⟩⟩
  rw [Nat.zero_add, cell_of h2 j]
  simp [srow, List.getElem?_map, List.getElem?_eq_getElem hj]
set_option maxRecDepth 100000 in
theorem step3_any (a31 a30 g : Nat) (s : List UInt8) (hs : s.length = 16) (h5 : w.heap[a5]? = some (.cells #[dp p] 22 (0, 0))) (h6 : w.heap[a6]? = some (.cells #[nmv nm] 9 (0, 0))) (h31 : w.heap[a31]? = some (.cells #[.int .i64 0] 3 (0, 0)))
    (h30 : w.heap[a30]? = some (.cells #[.slice (some ⟨g, 0, none⟩) 16 16] 26 (0, 0))) (hg : w.heap[g]? = some (.cells (srow s).toArray 322 (0, 0))) (hnl : nm.length ≤ 16) (hd : HG w base p m room fl L) (hi : fl[i]? = some (nm, 4))
    (hur : (fl.map (·.2)).sum ≤ room) (hroom : room ≤ 1048576) (hL : L ≤ 100000) :
    Calls Tryz.prog 130 #[dp a5, dp a6, dp a31, dp a30] w fun e w' => e = .returned (.int .i64 0) ∧ HG w' base p m room fl (L + 1) ∧ Fr base m w w' := by
  have c5 := cell_of h5 0
  have c6 := cell_of h6 0
  have c31 := cell_of h31 0
  have c30 := cell_of h30 0
  have hset : fl.set i (nm, max 4 (0 + 1)) = fl := by
    show fl.set i (nm, 4) = fl
    apply List.ext_getElem?
    intro j
    rw [List.getElem?_set]
    split
    · rename_i e; subst e; rw [if_pos (List.getElem?_eq_some_iff.1 hi).1, hi]
    · rfl
  have HF := write_L hd hi (by unfold maxLen; omega) 0 [s] (.slice (some ⟨g, 0, none⟩) 16 16) (by simpa using stab_row hs hg hd.facts.2.1) (by simpa using hs) (by simp) (by simp) hur hroom (by simp; omega) (by simp; omega)
  simp only [List.length_cons, List.length_nil] at HF
  rw [hset] at HF
  have HF := hid HF
  clear h5 h6 h31 h30 hg hd hi hset
  go_enter Tryz.func130, Tryz.ntmps130
  go_wp2_with fail
  refine HF.out.mono ?_
  rintro e w1 ⟨h1, rfl, h2⟩
  have HH := hid (And.intro h2 h1)
  clear h1 h2 c5 c6 c31 c30
  go_wp2
  go_ret
  exact ⟨rfl, HH.out.1, HH.out.2⟩
end
theorem slots_any (base p m room L i : Nat) (fl : FL) (nm : List UInt8) (hnl : nm.length ≤ 16) (w : World) (hd : HG w base p m room fl L) (hi : fl[i]? = some (nm, 0)) :
    Calls Tryz.prog 121 #[dp p, nmv nm] w fun e w' => e = .returned (.tuple #[nilS, .int .i64 3]) ∧ Below w.heap.size w w' := by
  have HS := hid (size_G hd hi (by unfold maxLen; omega))
  have HR := hid (read0_G hd hi (by unfold maxLen; omega))
  clear hd hi
  go_enter Tryz.func121, Tryz.ntmps121
  go_wp2_with fail
  refine HS.out.mono ?_
  rintro e w1 ⟨rfl, rfl⟩
  go_wp2_with fail
  refine HR.out.mono ?_
  rintro e w1 ⟨v, rfl, ho, hb⟩
  have HB := hid hb
  clear ho hb
  go_wp2
  go_ret2
  exact ⟨rfl, HB.out⟩
end Go.Proofs.YtmcllcepoiakeaaGreat
namespace Go.Crc
def poly : BitVec 32 := 0x82f63b78#32
def stp (c : BitVec 32) : BitVec 32 := if c.getLsbD 0 then (c >>> 1) ^^^ poly else c >>> 1
def stpN : Nat → BitVec 32 → BitVec 32
  | 0, c => c
  | n+1, c => stpN n (stp c)
def z8 (b : UInt8) : BitVec 32 := BitVec.ofNat 32 b.toNat
def crcB (h : BitVec 32) (b : UInt8) : BitVec 32 := stpN 8 (h ^^^ z8 b)
def crcL (h : BitVec 32) (bs : List UInt8) : BitVec 32 := bs.foldl crcB h
def more (sum : BitVec 32) (bs : List UInt8) : BitVec 32 := ~~~ (crcL (~~~ sum) bs)
def sum (bs : List UInt8) : BitVec 32 := more 0 bs
theorem stp_xor (a b : BitVec 32) : stp (a ^^^ b) = stp a ^^^ stp b := by
  unfold stp
  rw [BitVec.getLsbD_xor, BitVec.ushiftRight_xor_distrib]
  cases a.getLsbD 0 <;> cases b.getLsbD 0 <;> simp
  · rw [BitVec.xor_assoc]
  · rw [BitVec.xor_assoc, BitVec.xor_assoc]; congr 1; rw [BitVec.xor_comm]
  · have : (a >>> 1 ^^^ poly) ^^^ (b >>> 1 ^^^ poly) = (a >>> 1 ^^^ b >>> 1) ^^^ (poly ^^^ poly) := by
      simp only [BitVec.xor_assoc]; congr 1; rw [← BitVec.xor_assoc, BitVec.xor_comm poly, BitVec.xor_assoc]
    rw [this]; simp
theorem stp_zero : stp 0 = 0 := by decide
theorem stpN_xor : ∀ n (a b : BitVec 32), stpN n (a ^^^ b) = stpN n a ^^^ stpN n b
  | 0, _, _ => rfl
  | n+1, a, b => by rw [stpN, stp_xor, stpN_xor n, stpN, stpN]
theorem stpN_zero : ∀ n, stpN n 0 = 0
  | 0 => rfl
  | n+1 => by rw [stpN, stp_zero, stpN_zero n]
theorem stpN_add : ∀ m n (c : BitVec 32), stpN (m + n) c = stpN n (stpN m c)
  | 0, n, c => by rw [Nat.zero_add]; rfl
  | m+1, n, c => by rw [Nat.add_right_comm, stpN, stpN_add m n, stpN]
theorem stp_msb (c : BitVec 32) : (stp c).msb = c.getLsbD 0 := by
  unfold stp
  cases h : c.getLsbD 0
  · simp
  · simp only [if_true, BitVec.msb_xor]
    have : poly.msb = true := by decide
    rw [this]; simp
theorem xor_right_inj {w} (a b c : BitVec w) (h : a ^^^ c = b ^^^ c) : a = b := by
  have := congrArg (· ^^^ c) h
  simpa [BitVec.xor_assoc] using this
theorem stp_inj (a b : BitVec 32) (h : stp a = stp b) : a = b := by
  have h0 : a.getLsbD 0 = b.getLsbD 0 := by rw [← stp_msb, ← stp_msb, h]
  have h1 : a >>> 1 = b >>> 1 := by
    unfold stp at h
    rw [h0] at h
    split at h
    · exact xor_right_inj _ _ _ h
    · exact h
  apply BitVec.eq_of_getLsbD_eq
  intro i hi
  cases i with
  | zero => exact h0
  | succ i =>
    have := congrArg (fun x => x.getLsbD i) h1
    simpa [BitVec.getLsbD_ushiftRight, Nat.add_comm] using this
theorem stpN_inj : ∀ n (a b : BitVec 32), stpN n a = stpN n b → a = b
  | 0, _, _, h => h
  | n+1, a, b, h => stp_inj _ _ (stpN_inj n _ _ h)
/-- low bits nought: the steps only shift -/
theorem stpN_shift : ∀ n (c : BitVec 32), (∀ i, i < n → c.getLsbD i = false) → stpN n c = c >>> n
  | 0, c, _ => by simp [stpN]
  | n+1, c, h => by
    rw [stpN, show stp c = c >>> 1 by unfold stp; rw [h 0 (by omega)]; simp]
    rw [stpN_shift n (c >>> 1) (fun i hi => by rw [BitVec.getLsbD_ushiftRight]; exact h (1 + i) (by omega))]
    rw [← BitVec.shiftRight_add, Nat.add_comm]
/-- the table's way -/
theorem stp4 (c : BitVec 32) : stpN 4 c = stpN 4 (c &&& 15#32) ^^^ (c >>> 4) := by
  have e : c = (c &&& 15#32) ^^^ (c &&& ~~~ 15#32) := by
    apply BitVec.eq_of_getLsbD_eq
    intro i hi
    simp only [BitVec.getLsbD_xor, BitVec.getLsbD_and, BitVec.getLsbD_not, hi, decide_true, Bool.true_and]
    cases c.getLsbD i <;> cases (15#32).getLsbD i <;> rfl
  have e2 : (c &&& ~~~ 15#32) >>> 4 = c >>> 4 := by
    apply BitVec.eq_of_getLsbD_eq
    intro i hi
    simp only [BitVec.getLsbD_ushiftRight, BitVec.getLsbD_and, BitVec.getLsbD_not]
    by_cases h : 4 + i < 32
    · have : (15#32).getLsbD (4 + i) = false := by
        rw [show (15#32).getLsbD (4+i) = (15#32).getLsbD (4+i) from rfl]
        have : ∀ j : Fin 28, (15#32).getLsbD (4 + j.val) = false := by decide
        exact this ⟨i, by omega⟩
      rw [this]; simp [h]
    · rw [BitVec.getLsbD_of_ge c _ (by omega)]; simp
  have e1 : stpN 4 (c &&& ~~~ 15#32) = c >>> 4 := by
    rw [← e2]
    refine stpN_shift 4 _ fun i hi => ?_
    rw [BitVec.getLsbD_and, BitVec.getLsbD_not]
    have : ∀ j : Fin 4, (15#32).getLsbD j.val = true := by decide
    rw [this ⟨i, hi⟩]; simp
  rw [← e1, ← stpN_xor, ← e]
theorem crcL_append (h : BitVec 32) (a b : List UInt8) : crcL h (a ++ b) = crcL (crcL h a) b := by simp [crcL]
/-- CrcParts -/
theorem more_parts (s : BitVec 32) (a b : List UInt8) : more (more s a) b = more s (a ++ b) := by
  unfold more; rw [BitVec.not_not, crcL_append]
theorem more_nil (s : BitVec 32) : more s [] = s := by simp [more, crcL]
theorem z8_xor (a b : UInt8) : z8 (a ^^^ b) = z8 a ^^^ z8 b := by
  unfold z8
  apply BitVec.eq_of_toNat_eq
  have h1 := a.toNat_lt
  have h2 := b.toNat_lt
  have h3 : a.toNat ^^^ b.toNat < 2 ^ 8 := Nat.xor_lt_two_pow h1 h2
  rw [BitVec.toNat_xor, BitVec.toNat_ofNat, BitVec.toNat_ofNat, BitVec.toNat_ofNat, UInt8.toNat_xor,
    Nat.mod_eq_of_lt (by omega), Nat.mod_eq_of_lt (by omega), Nat.mod_eq_of_lt (by omega)]
theorem xor3 (a b c x y z : BitVec 32) : (a ^^^ b ^^^ c) ^^^ (x ^^^ y ^^^ z) = (a ^^^ x) ^^^ (b ^^^ y) ^^^ (c ^^^ z) := by
  apply BitVec.eq_of_getLsbD_eq
  intro i _
  simp only [BitVec.getLsbD_xor]
  cases a.getLsbD i <;> cases b.getLsbD i <;> cases c.getLsbD i <;> cases x.getLsbD i <;> cases y.getLsbD i <;> cases z.getLsbD i <;> rfl
/-- CrcLinear -/
theorem crcL_xor3 : ∀ (n : Nat) (a b c x : List UInt8) (h1 h2 h3 : BitVec 32), a.length = n → b.length = n → c.length = n → x.length = n →
    (∀ i, i < n → x.getD i 0 = a.getD i 0 ^^^ b.getD i 0 ^^^ c.getD i 0) →
    crcL (h1 ^^^ h2 ^^^ h3) x = crcL h1 a ^^^ crcL h2 b ^^^ crcL h3 c
  | 0, a, b, c, x, h1, h2, h3, ha, hb, hc, hx, _ => by
    rw [List.eq_nil_of_length_eq_zero ha, List.eq_nil_of_length_eq_zero hb, List.eq_nil_of_length_eq_zero hc, List.eq_nil_of_length_eq_zero hx]; rfl
  | n+1, p :: a, q :: b, r :: c, y :: x, h1, h2, h3, ha, hb, hc, hx, h => by
    have h0 := h 0 (by omega)
    simp at h0
    have ih := crcL_xor3 n a b c x (crcB h1 p) (crcB h2 q) (crcB h3 r) (by simpa using ha) (by simpa using hb) (by simpa using hc) (by simpa using hx) (fun i hi => by simpa using h (i+1) (by omega))
    simp only [crcL, List.foldl_cons] at ih ⊢
    rw [← ih]
    congr 1
    rw [h0]
    unfold crcB
    rw [z8_xor, z8_xor, xor3, stpN_xor, stpN_xor]
theorem not_xor3 (a b c : BitVec 32) : ~~~ (a ^^^ b ^^^ c) = ~~~ a ^^^ ~~~ b ^^^ ~~~ c := by
  apply BitVec.eq_of_getLsbD_eq
  intro i hi
  simp only [BitVec.getLsbD_xor, BitVec.getLsbD_not, hi, decide_true, Bool.true_and]
  cases a.getLsbD i <;> cases b.getLsbD i <;> cases c.getLsbD i <;> rfl
theorem sum_xor3 (n : Nat) (a b c x : List UInt8) (ha : a.length = n) (hb : b.length = n) (hc : c.length = n) (hx : x.length = n)
    (h : ∀ i, i < n → x.getD i 0 = a.getD i 0 ^^^ b.getD i 0 ^^^ c.getD i 0) : sum x = sum a ^^^ sum b ^^^ sum c := by
  unfold sum more
  rw [← not_xor3, ← crcL_xor3 n a b c x _ _ _ ha hb hc hx h]
  congr 2
/-- linear in the difference -/
theorem crcL_diff : ∀ (a d : List UInt8) (h g : BitVec 32), a.length = d.length → crcL (h ^^^ g) (List.zipWith (· ^^^ ·) a d) = crcL h a ^^^ crcL g d
  | [], [], h, g, _ => rfl
  | p :: a, q :: d, h, g, hl => by
    have ih := crcL_diff a d (crcB h p) (crcB g q) (by simpa using hl)
    simp only [crcL, List.zipWith_cons_cons, List.foldl_cons] at ih ⊢
    rw [← ih]
    congr 1
    unfold crcB
    rw [z8_xor, ← stpN_xor]
    congr 1
    apply BitVec.eq_of_getLsbD_eq
    intro i _
    simp only [BitVec.getLsbD_xor]
    cases h.getLsbD i <;> cases g.getLsbD i <;> cases (z8 p).getLsbD i <;> cases (z8 q).getLsbD i <;> rfl
theorem crcL_zeros : ∀ n (h : BitVec 32), crcL h (List.replicate n 0) = stpN (8 * n) h
  | 0, h => rfl
  | n+1, h => by
    have ih := crcL_zeros n (crcB h 0)
    simp only [crcL, List.replicate_succ, List.foldl_cons] at ih ⊢
    rw [ih]
    have : crcB h 0 = stpN 8 h := by unfold crcB z8; simp
    rw [this, ← stpN_add]
    congr 1
    omega
theorem crcL_inj (bs : List UInt8) : ∀ (g h : BitVec 32), crcL g bs = crcL h bs → g = h := by
  induction bs with
  | nil => exact fun g h e => e
  | cons b bs ih =>
    intro g h e
    have := ih _ _ e
    have := stpN_inj 8 _ _ this
    exact xor_right_inj _ _ _ this
def dB (bits : BitVec 32) (i : Nat) : UInt8 := UInt8.ofNat (bits.toNat / 2 ^ (8 * i))
theorem z8_bit (b : UInt8) (j : Nat) : (z8 b).getLsbD j = (decide (j < 8) && b.toNat.testBit j) := by
  unfold z8
  rw [BitVec.getLsbD_ofNat]
  have h1 := b.toNat_lt
  by_cases h : j < 8
  · simp [h]; omega
  · have : b.toNat.testBit j = false := Nat.testBit_lt_two_pow (Nat.lt_of_lt_of_le h1 (Nat.pow_le_pow_right (by omega) (by omega)))
    rw [this]; simp
theorem dB_bit (bits : BitVec 32) (i j : Nat) : (z8 (dB bits i)).getLsbD j = (decide (j < 8) && bits.getLsbD (8 * i + j)) := by
  rw [z8_bit]
  by_cases h : j < 8
  · simp only [h, decide_true, Bool.true_and]
    unfold dB
    rw [UInt8.toNat_ofNat', Nat.testBit_mod_two_pow, Nat.testBit_div_two_pow]
    simp only [h, decide_true, Bool.true_and]
    rw [Nat.add_comm]; rfl
  · simp [h]
theorem bits_split (bits : BitVec 32) : bits = z8 (dB bits 0) ^^^ (z8 (dB bits 1) <<< 8) ^^^ (z8 (dB bits 2) <<< 16) ^^^ (z8 (dB bits 3) <<< 24) := by
  apply BitVec.eq_of_getLsbD_eq
  intro i hi
  simp only [BitVec.getLsbD_xor, BitVec.getLsbD_shiftLeft, dB_bit]
  rcases Nat.lt_or_ge i 8 with h | h
  · simp [h, hi, show i < 16 by omega, show i < 24 by omega]
  · rcases Nat.lt_or_ge i 16 with h2 | h2
    · simp [show ¬ i < 8 by omega, hi, h2, show i < 24 by omega, show i - 8 < 8 by omega, show 8 + (i - 8) = i by omega]
    · rcases Nat.lt_or_ge i 24 with h3 | h3
      · simp [show ¬ i < 8 by omega, hi, show ¬ i < 16 by omega, h3, show ¬ i - 8 < 8 by omega, show i - 16 < 8 by omega, show 16 + (i - 16) = i by omega]
      · simp [show ¬ i < 8 by omega, hi, show ¬ i < 16 by omega, show ¬ i < 24 by omega, show ¬ i - 8 < 8 by omega, show ¬ i - 16 < 8 by omega, show i - 24 < 8 by omega, show 24 + (i - 24) = i by omega]
theorem unshift (b : UInt8) (k : Nat) (hk : k ≤ 24) : stpN k (z8 b <<< k) = z8 b := by
  rw [stpN_shift k _ (fun i hi => by rw [BitVec.getLsbD_shiftLeft]; simp [hi])]
  apply BitVec.eq_of_getLsbD_eq
  intro i hi
  rw [BitVec.getLsbD_ushiftRight, BitVec.getLsbD_shiftLeft, z8_bit, z8_bit, show k + i - k = i by omega]
  by_cases h : i < 8
  · simp [h, show k + i < 32 by omega, show ¬ k + i < k by omega]
  · simp [h]
theorem crc4 (bits : BitVec 32) : crcL 0 [dB bits 0, dB bits 1, dB bits 2, dB bits 3] = stpN 32 bits := by
  simp only [crcL, List.foldl_cons, List.foldl_nil, crcB]
  conv => rhs; rw [bits_split bits]
  simp only [stpN_xor]
  have e1 : stpN 32 (z8 (dB bits 1) <<< 8) = stpN 24 (z8 (dB bits 1)) := (stpN_add 8 24 _).trans (by rw [unshift _ 8 (by omega)])
  have e2 : stpN 32 (z8 (dB bits 2) <<< 16) = stpN 16 (z8 (dB bits 2)) := (stpN_add 16 16 _).trans (by rw [unshift _ 16 (by omega)])
  have e3 : stpN 32 (z8 (dB bits 3) <<< 24) = stpN 8 (z8 (dB bits 3)) := (stpN_add 24 8 _).trans (by rw [unshift _ 24 (by omega)])
  rw [e1, e2, e3]
  rw [stpN_zero]
  simp only [← stpN_add]
  simp
  rw [show stpN 24 0#32 = 0#32 from stpN_zero 24]
  simp
/-- CrcTurned -/
theorem turned (bits : BitVec 32) (hb : bits ≠ 0) (a c : List UInt8) (k : Nat) (hk : k + 4 ≤ a.length) (hc : c.length = a.length)
    (h : ∀ i, i < a.length → c.getD i 0 = a.getD i 0 ^^^ (if k ≤ i ∧ i < k + 4 then dB bits (i - k) else 0)) : sum c ≠ sum a := by
  let d := List.replicate k (0 : UInt8) ++ [dB bits 0, dB bits 1, dB bits 2, dB bits 3] ++ List.replicate (a.length - k - 4) 0
  have hd : a.length = d.length := by simp [d]; omega
  have hcd : c = List.zipWith (· ^^^ ·) a d := by
    apply List.ext_getElem (by simp [d]; omega)
    intro i h1 h2
    have hi : i < a.length := by omega
    have := h i hi
    rw [List.getD_eq_getElem?_getD, List.getD_eq_getElem?_getD, List.getElem?_eq_getElem h1, List.getElem?_eq_getElem hi] at this
    simp only [Option.getD_some] at this
    rw [this, List.getElem_zipWith]
    congr 1
    rcases Nat.lt_or_ge i k with hik | hik
    · rw [if_neg (by omega), List.getElem_append_left (by simp; omega), List.getElem_append_left (by simpa using hik)]; simp
    · rcases Nat.lt_or_ge i (k + 4) with hi4 | hi4
      · rw [if_pos ⟨hik, hi4⟩, List.getElem_append_left (by simp; omega), List.getElem_append_right (by simpa using hik)]
        simp only [List.length_replicate]
        have : i - k = 0 ∨ i - k = 1 ∨ i - k = 2 ∨ i - k = 3 := by omega
        rcases this with e | e | e | e <;> simp [e]
      · rw [if_neg (by omega), List.getElem_append_right (by simp; omega)]; simp
  intro he
  unfold sum more at he
  have he2 : crcL (~~~ 0) c = crcL (~~~ 0) a := by
    have := congrArg (~~~ ·) he
    simpa using this
  have h0 := crcL_diff a d (~~~ 0) 0 hd
  rw [← hcd] at h0
  have e0 : (~~~ (0 : BitVec 32)) ^^^ 0 = ~~~ 0 := by simp
  rw [e0, he2] at h0
  have hz : crcL 0 d = 0 := by
    have h1 : crcL (~~~ 0) a ^^^ 0 = crcL (~~~ 0) a ^^^ crcL 0 d := by rw [← h0]; simp
    have := xor_right_inj 0 (crcL 0 d) (crcL (~~~ 0) a) (by rw [BitVec.xor_comm 0, BitVec.xor_comm (crcL 0 d)]; exact h1)
    exact this.symm
  simp only [d, crcL_append, crcL_zeros, stpN_zero] at hz
  have hz2 : stpN (8 * (a.length - k - 4)) (crcL 0 [dB bits 0, dB bits 1, dB bits 2, dB bits 3]) = stpN (8 * (a.length - k - 4)) 0 := by rw [stpN_zero]; exact hz
  have hz3 := stpN_inj _ _ _ hz2
  rw [crc4] at hz3
  exact hb (stpN_inj 32 bits 0 (by rw [hz3, stpN_zero]))
theorem z8_inj (a b : UInt8) (h : z8 a = z8 b) : a = b := by
  have h1 := a.toNat_lt
  have h2 := b.toNat_lt
  have := congrArg BitVec.toNat h
  simp only [z8, BitVec.toNat_ofNat] at this
  apply UInt8.toNat_inj.1
  omega
/-- CrcNoughts -/
theorem sum_more (bs : List UInt8) (c d : UInt8) : (sum (bs ++ [c]) = sum (bs ++ [d])) ↔ c = d := by
  constructor
  · intro h
    unfold sum more at h
    have h := congrArg (~~~ ·) h
    simp only [BitVec.not_not, crcL_append] at h
    have h := stpN_inj 8 _ _ h
    rw [BitVec.xor_comm, BitVec.xor_comm (crcL _ bs)] at h
    exact z8_inj _ _ (xor_right_inj _ _ _ h)
  · rintro rfl; rfl
theorem sum_nought (n : Nat) : sum (List.replicate n 0) ≠ sum (List.replicate n 0 ++ [0]) := by
  intro h
  unfold sum more at h
  have h := congrArg (~~~ ·) h
  simp only [BitVec.not_not] at h
  rw [show List.replicate n (0 : UInt8) ++ [0] = List.replicate (n + 1) 0 by rw [List.replicate_succ'], crcL_zeros, crcL_zeros] at h
  rw [show 8 * (n + 1) = 8 + 8 * n by omega, stpN_add] at h
  exact absurd (stpN_inj _ _ _ h) (by decide +kernel)
/-! fingers -/
def prime : BitVec 64 := 0x100000001b3#64
def zz (b : UInt8) : BitVec 64 := BitVec.ofNat 64 b.toNat
def finB (h : BitVec 64) (b : UInt8) : BitVec 64 := (h ^^^ zz b) * prime
def finL (h : BitVec 64) (bs : List UInt8) : BitVec 64 := bs.foldl finB h
def mix (h : BitVec 64) : BitVec 64 := h ^^^ (h >>> 32)
def off : BitVec 64 := 0xcbf29ce484222325#64
def finger (bs : List UInt8) : BitVec 64 := mix (finL off bs)
theorem mul_prime_inj (a b : BitVec 64) (h : a * prime = b * prime) : a = b := by
  have := congrArg (· * 0xce965057aff6957b#64) h
  simp only [BitVec.mul_assoc] at this
  rw [show prime * 0xce965057aff6957b#64 = 1#64 by decide +kernel] at this
  simpa using this
theorem mix_inj (a b : BitVec 64) (h : mix a = mix b) : a = b := by
  apply BitVec.eq_of_getLsbD_eq
  have hb : ∀ i, (a.getLsbD i ^^ a.getLsbD (32 + i)) = (b.getLsbD i ^^ b.getLsbD (32 + i)) := by
    intro i
    have := congrArg (fun x => x.getLsbD i) h
    simpa [mix, BitVec.getLsbD_xor, BitVec.getLsbD_ushiftRight] using this
  have hi : ∀ i, 32 ≤ i → a.getLsbD i = b.getLsbD i := by
    intro i h32
    have := hb i
    rw [BitVec.getLsbD_of_ge a (32 + i) (by omega), BitVec.getLsbD_of_ge b (32 + i) (by omega)] at this
    simpa using this
  intro i h64
  rcases Nat.lt_or_ge i 32 with h | h
  · have := hb i
    rw [hi (32 + i) (by omega)] at this
    revert this
    cases a.getLsbD i <;> cases b.getLsbD i <;> cases b.getLsbD (32 + i) <;> simp
  · exact hi i h
theorem finB_inj (a b : BitVec 64) (c : UInt8) (h : finB a c = finB b c) : a = b := xor_right_inj _ _ _ (mul_prime_inj _ _ h)
theorem finL_inj (bs : List UInt8) : ∀ a b, finL a bs = finL b bs → a = b := by
  induction bs with
  | nil => exact fun _ _ h => h
  | cons c bs ih => exact fun a b h => finB_inj _ _ _ (ih _ _ h)
theorem zz_inj (a b : UInt8) (h : zz a = zz b) : a = b := by
  have h1 := a.toNat_lt
  have h2 := b.toNat_lt
  have := congrArg BitVec.toNat h
  simp only [zz, BitVec.toNat_ofNat] at this
  apply UInt8.toNat_inj.1
  omega
/-- CrcOne -/
theorem finger_one (p r : List UInt8) (x y : UInt8) (h : x ≠ y) : finger (p ++ x :: r) ≠ finger (p ++ y :: r) := by
  intro e
  have e := mix_inj _ _ e
  simp only [finL, List.foldl_append, List.foldl_cons] at e
  have e := finL_inj r _ _ e
  have e := mul_prime_inj _ _ e
  rw [BitVec.xor_comm, BitVec.xor_comm (List.foldl finB off p)] at e
  exact h (zz_inj _ _ (xor_right_inj _ _ _ e))
theorem fin_odd : ∀ n (h : BitVec 64), h.toNat % 2 = 1 → (finL h (List.replicate n 0)).toNat % 2 = 1
  | 0, h, ho => ho
  | n+1, h, ho => by
    have : finB h 0 = h * prime := by unfold finB zz; simp
    simp only [finL, List.replicate_succ, List.foldl_cons]
    refine fin_odd n (finB h 0) ?_
    rw [this, BitVec.toNat_mul]
    have : prime.toNat = 1099511628211 := by decide
    rw [this]
    omega
theorem finger_nought (n : Nat) : finger (List.replicate n 0) ≠ finger (List.replicate n 0 ++ [0]) := by
  intro e
  have e := mix_inj _ _ e
  have ho := fin_odd n off (by decide)
  simp only [finL, List.foldl_append, List.foldl_cons, List.foldl_nil] at e ho
  generalize List.foldl finB off (List.replicate n 0) = h at e ho
  have : finB h 0 = h * prime := by unfold finB zz; simp
  rw [this] at e
  have e := congrArg BitVec.toNat e
  rw [BitVec.toNat_mul, show prime.toNat = 1099511628211 by decide] at e
  have hl := h.isLt
  omega
end Go.Crc
namespace Go.Proofs.YtmcllcepoiakeaaGreat.Kx
open Go.RowKit Go.Mx
set_option maxRecDepth 100000 in
theorem disable (w : World) : (callFunc 315 #[]).run Tryz.prog w = .ok (.value (.tuple #[])) w := run_call_mark0 Tryz.func315 (by kernel_rfl) (by kernel_rfl) (by kernel_rfl) .disable (by kernel_rfl) w
set_option maxRecDepth 100000 in
theorem enable (w : World) : (callFunc 317 #[]).run Tryz.prog w = .ok (.value (.tuple #[])) w := run_call_mark0 Tryz.func317 (by kernel_rfl) (by kernel_rfl) (by kernel_rfl) .enable (by kernel_rfl) w
set_option maxRecDepth 100000 in
theorem acquire (a : Addr) (w : World) : (callFunc 318 #[.pointer (some a)]).run Tryz.prog w = .ok (.value (.tuple #[])) w := run_call_marked Tryz.func318 (by kernel_rfl) (by kernel_rfl) (by kernel_rfl) .acquire (by kernel_rfl) a w
set_option maxRecDepth 100000 in
theorem releaseMerge (a : Addr) (w : World) : (callFunc 320 #[.pointer (some a)]).run Tryz.prog w = .ok (.value (.tuple #[])) w := run_call_marked Tryz.func320 (by kernel_rfl) (by kernel_rfl) (by kernel_rfl) .releaseMerge (by kernel_rfl) a w
set_option maxRecDepth 100000 in
theorem store_deferred (a : Addr) (x : Value) (u : FrameMode) (w : World) (hc : w.cell? a = some x) (hz : w.frozen? a = false) :
    CallsD Tryz.prog 306 #[.pointer (some a), .bool true] u w fun e u' w' => u' = u ∧ (e = .returned (.tuple #[]) ∧ w' = w.drew.setCell a (.int .u32 1)) := by
  have hc' : w.drew.cell? a = some x := by go_simp
  have hz' : w.drew.frozen? a = false := by go_simp
  have hst := run_call_store (P := Tryz.prog) Tryz.func312 (by kernel_rfl) (by kernel_rfl) (by kernel_rfl) (by kernel_rfl) (k := .u32) (y := 1) hc' hz'
  go_enter_d Tryz.func306, Tryz.ntmps306
  go_wp2
  go_region_calls
  all_goals (go_end0; exact ⟨rfl, rfl⟩)
set_option maxRecDepth 100000 in
theorem unlock_deferred (a : Addr) (u : FrameMode) (w : World) (hc : w.cell? a = some (.int .i32 1)) (hz : w.frozen? a = false) :
    CallsD Tryz.prog 305 #[.pointer (some a)] u w fun e u' w' => u' = u ∧ (e = .returned (.tuple #[]) ∧ w' = w.setCell a (.int .i32 0)) := by
  have hd := disable
  have he := enable
  have hr := releaseMerge
  have hadd := run_call_add (P := Tryz.prog) Tryz.func321 (by kernel_rfl) (by kernel_rfl) (by kernel_rfl) .i32 (by kernel_rfl) (y := -1) (s := 0) hc hz (by simp [go_sem]; rfl)
  have hcv := run_convert_to_unsafe (P := Tryz.prog) (src := 442) (dst := 446) Tryz.underlying442 Tryz.underlying446 (by kernel_rfl) hc
  go_enter_d Tryz.func305, Tryz.ntmps305
  go_wp2
  go_end0
  go_wp2
  go_end0
  exact ⟨rfl, rfl⟩
set_option maxRecDepth 100000 in
theorem lock_free (a : Addr) (w : World) (hc : w.cell? a = some (.int .i32 0)) (hz : w.frozen? a = false) :
    Calls Tryz.prog 304 #[.pointer (some a)] w fun e w' => e = .returned (.tuple #[]) ∧ w' = w.setCell a (.int .i32 1) := by
  have hd := disable
  have he := enable
  have ha := acquire
  have hcas := run_call_cas_hit (P := Tryz.prog) Tryz.func316 (by kernel_rfl) (by kernel_rfl) (by kernel_rfl) .i32 (by kernel_rfl) (y := 1) hc hz
  have hc' : (w.setCell a (.int .i32 1)).cell? a = some (.int .i32 1) := cs_same hc
  have hcv := run_convert_to_unsafe (P := Tryz.prog) (src := 442) (dst := 446) Tryz.underlying442 Tryz.underlying446 (by kernel_rfl) hc'
  go_enter Tryz.func304, Tryz.ntmps304
  go_wp2
  first | go_end0 | (simp only [Exit.inBlock, Exit.then]; refine bodyPost_ret (results_none rfl _ _ _) rfl ?_) | refine bodyPost_ret (results_none rfl _ _ _) rfl ?_
  go_wp2
  go_end0
  exact ⟨rfl, rfl⟩
end Go.Proofs.YtmcllcepoiakeaaGreat.Kx
