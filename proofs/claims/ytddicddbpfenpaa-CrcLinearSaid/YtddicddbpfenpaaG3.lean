import Derived.Test.YtddicddbpfenpaaG2
import Derived.Test.YtddicddbpfenpaaM6
import Derived.StillTailTactics
import Derived.Deep.RegionHeld
import Derived.WalkLawsBesides
namespace Go.Proofs.Ytddicddbpfenpaa
open Go.RowKit Go.Mx Go.Crc

theorem sizeB (w : World) : (sizeOf 5).run Try.prog w = .ok 1 w := by kernel_rfl

theorem run_min_int4 {P : Program} (w : World) (ts : Array TypeId) (t : TypeId) (x y z u m : Int) (hm : m = min (min (min x y) z) u) : (Builtin.min_ ts t #[.int .i64 x, .int .i64 y, .int .i64 z, .int .i64 u]).run P w = .ok (.int .i64 m) w := by
  subst hm
  simp [Builtin.min_, Builtin.min2]
  repeat' split
  all_goals omega

def SumOf (w : World) (v : Value) (s : BitVec 32) : Prop := ∃ bs, SlB w w.heap.size v bs ∧ bs.length ≤ 1000000000 ∧ s = sum bs

theorem sumOf_call (w w' : World) (v : Value) (s : BitVec 32) (h : SumOf w v s) (hb : Below w.heap.size w w') :
    Calls Try.prog 11 #[v] w' fun e w2 => e = .returned (.int .u32 s.toNat) ∧ Below w.heap.size w w2 := by
  obtain ⟨bs, hs, hl, rfl⟩ := h
  exact (sum_any bs v w' ((hs.below hb (Nat.le_refl _)).mono hb.size) hl).mono fun e w2 ⟨he, hb2⟩ => ⟨he, hb.trans (hb2.mono hb.size)⟩

def x3 (a b c : List UInt8) (i : Nat) : UInt8 := a.getD i 0 ^^^ b.getD i 0 ^^^ c.getD i 0

set_option maxRecDepth 100000 in
set_option maxHeartbeats 2000000 in
theorem crcLinear_walk (xs ys zs : List UInt8) (av bv cv : Value) (w : World) (ha : SlB w w.heap.size av xs) (hb : SlB w w.heap.size bv ys) (hc : SlB w w.heap.size cv zs) :
    Calls Try.prog 8 #[av, bv, cv] w fun e w' => e = .returned (.bool true) ∧ Below w.heap.size w w' := by
  have hla := fun w' => ha.len (P := Try.prog) Try.underlying22 (ty := 3) w'
  have hlb := fun w' => hb.len (P := Try.prog) Try.underlying22 (ty := 3) w'
  have hlc := fun w' => hc.len (P := Try.prog) Try.underlying22 (ty := 3) w'
  obtain ⟨n, hn⟩ : ∃ n, n = min (min (min xs.length ys.length) zs.length) 5000 := ⟨_, rfl⟩
  have hmin := fun w' => run_min_int4 (P := Try.prog) w' #[3, 3, 3, 3] 3 (xs.length : Int) (ys.length : Int) (zs.length : Int) 5000 (n : Int) (by omega)
  have hn1 : n ≤ xs.length := by omega
  have hn2 : n ≤ ys.length := by omega
  have hn3 : n ≤ zs.length := by omega
  have hn4 : n ≤ 5000 := by omega
  clear hn
  go_enter Try.func8, Try.ntmps8
  go_wp2_with (at_make; refine make_bytes _ rfl _ _ 22 5 rfl Try.underlying22 Try.info5 w.heap.size _ _ _ _ n rfl rfl ?_ ?_ ?_ ?_ ?_)
  · rfl
  · rfl
  · omega
  · omega
  intro v1 w1 ho1 hb1 hv1
  subst hv1
  clear hla hlb hlc hmin
  go_wp2_with fail
  go_loopw [9] (fun i wr => ∃ (j : Nat) (l : List UInt8), j ≤ n ∧ i = .int .i64 j ∧ l.length = n ∧ OwnB wr w.heap.size 5 (.slice (some ⟨w.heap.size, 0, none⟩) n n) l ∧ Below w.heap.size w wr ∧ Hid (∀ i, i < j → l.getD i 0 = x3 xs ys zs i))
    (fun i _ => n - (intOf i).toNat)
  case atStart => exact ⟨0, _, by omega, rfl, by simp, ho1, hb1, fun i hi => absurd hi (by omega)⟩
  case round =>
    obtain ⟨j, l, hj, rfl, hll, ho, hbel, HL⟩ := hrel
    clear ho1 hb1
    by_cases hjn : j < n
    · obtain ⟨ba, oa, hba, hia, hca⟩ := (ha.below hbel (Nat.le_refl _)).addr (P := Try.prog) Try.underlying22 sizeB j (by omega)
      obtain ⟨bb, ob, hbb, hib, hcb⟩ := (hb.below hbel (Nat.le_refl _)).addr (P := Try.prog) Try.underlying22 sizeB j (by omega)
      obtain ⟨bc, oc, hbc, hic, hcc⟩ := (hc.below hbel (Nat.le_refl _)).addr (P := Try.prog) Try.underlying22 sizeB j (by omega)
      have hcell := ho.cellAt j (by omega)
      have hfz := ho.fz j
      have HX : Hid (x3 xs ys zs j = xs.getD j 0 ^^^ ys.getD j 0 ^^^ zs.getD j 0) := rfl
      obtain ⟨a, ea⟩ : ∃ a, a = xs.getD j 0 := ⟨_, rfl⟩
      obtain ⟨b, eb⟩ : ∃ b, b = ys.getD j 0 := ⟨_, rfl⟩
      obtain ⟨c, ec⟩ : ∃ c, c = zs.getD j 0 := ⟨_, rfl⟩
      rw [← ea] at hca HX
      rw [← eb] at hcb HX
      rw [← ec] at hcc HX
      clear ea eb ec
      have hx1 := xor_u8u8 a b
      obtain ⟨d, ed⟩ : ∃ d, d = a ^^^ b := ⟨_, rfl⟩
      rw [← ed] at hx1 HX
      have hx2 := xor_u8u8 d c
      obtain ⟨f, ef⟩ : ∃ f, f = d ^^^ c := ⟨_, rfl⟩
      rw [← ef] at hx2 HX
      have ho' := (ho.store j f).resolve_right (by omega)
      have hbel' := hbel.setCell (p := ⟨w.heap.size, j, none⟩) (Nat.le_refl _) (u8 f)
      have HO := hid (And.intro ho' hbel')
      clear ed ef ho' hbel'
      go_wp2_with fail
      go_still_tail 17, (by kernel_rfl)
      change wpList _ _ _ _ _ (World.drew _)
      clear hia hib hic hca hcb hcc hx1 hx2
      go_wp2
      go_roundw
      case rel => exact ⟨j+1, l.set j f, by omega, by go_num, by simp [hll], World.ownsRow.drew HO.out.1, HO.out.2.drew, fun i hi => by
        rcases Nat.lt_or_ge i j with h | h
        · rw [← HL.out i h]; simp [List.getD_eq_getElem?_getD, List.getElem?_set_ne (show j ≠ i by omega)]
        · obtain rfl : i = j := by omega
          rw [HX.out]; simp [List.getD_eq_getElem?_getD, List.getElem?_set_self (show i < l.length by omega)]⟩
      case measure => simp [intOf]; omega
    · obtain rfl : j = n := by omega
      have hv := ho.slB
      have hz := hbel.size
      have hsum := sum_xor3 j (xs.take j) (ys.take j) (zs.take j) l (by simp; omega) (by simp; omega) (by simp; omega) hll (fun i hi => by
        rw [HL.out i hi]; unfold x3
        simp only [List.getD_eq_getElem?_getD, List.getElem?_take, hi, if_true])
      obtain ⟨ak, hak, hsa⟩ := ((ha.below hbel (Nat.le_refl _)).mono hz).to (P := Try.prog) Try.underlying22 sizeB j (by omega)
      obtain ⟨bk, hbk, hsb⟩ := ((hb.below hbel (Nat.le_refl _)).mono hz).to (P := Try.prog) Try.underlying22 sizeB j (by omega)
      obtain ⟨ck, hck, hsc⟩ := ((hc.below hbel (Nat.le_refl _)).mono hz).to (P := Try.prog) Try.underlying22 sizeB j (by omega)
      have hx1 := xor_u32 (sum (xs.take j)) (sum (ys.take j))
      have hx2 := xor_u32 (sum (xs.take j) ^^^ sum (ys.take j)) (sum (zs.take j))
      rw [← hsum] at hx2
      have ga : SumOf wr ak (sum (xs.take j)) := ⟨_, hak, by simp; omega, rfl⟩
      have gb : SumOf wr bk (sum (ys.take j)) := ⟨_, hbk, by simp; omega, rfl⟩
      have gc : SumOf wr ck (sum (zs.take j)) := ⟨_, hck, by simp; omega, rfl⟩
      have gl : SumOf wr (.slice (some ⟨w.heap.size, 0, none⟩) j j) (sum l) := ⟨_, hv, by omega, rfl⟩
      obtain ⟨Sa, ea⟩ : ∃ s, s = sum (xs.take j) := ⟨_, rfl⟩
      obtain ⟨Sb, eb⟩ : ∃ s, s = sum (ys.take j) := ⟨_, rfl⟩
      obtain ⟨Sc, ec⟩ : ∃ s, s = sum (zs.take j) := ⟨_, rfl⟩
      obtain ⟨Sl, el⟩ : ∃ s, s = sum l := ⟨_, rfl⟩
      rw [← ea] at hx1 hx2 ga
      rw [← eb] at hx1 hx2 gb
      rw [← ec] at hx2 gc
      rw [← el] at hx2 gl
      obtain ⟨Sd, ed⟩ : ∃ s, s = Sa ^^^ Sb := ⟨_, rfl⟩
      rw [← ed] at hx1 hx2
      clear ea eb ec el ed hsum ho HL hak hbk hck hv hj hjn ha hb hc
      go_wp2_with fail
      go_region_held (fun w' => Below wr.heap.size wr w') (first | exact (Below.refl _ _).drew | assumption | exact Below.drew (by assumption)) (first | (go_at_call 11; refine (sumOf_call wr _ _ _ (by assumption) (by assumption)).mono ?_; rintro e w5 ⟨rfl, hb5⟩) | (go_at_call 10; refine (awake_any _).mono ?_; rintro e w16 ⟨rfl, hb16⟩; have hb16' : Below wr.heap.size wr w16 := Below.trans (by assumption) (hb16.mono (Below.size (by assumption)))))
      all_goals (go_wp2_with fail)
      all_goals go_ret
      all_goals exact ⟨rfl, hbel.trans (Below.mono (by assumption) hz)⟩
end Go.Proofs.Ytddicddbpfenpaa
