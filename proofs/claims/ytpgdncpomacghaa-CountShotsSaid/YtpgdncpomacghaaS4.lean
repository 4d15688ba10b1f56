import Derived.Test.YtpgdncpomacghaaS3
namespace Go.Proofs.Ytpgdncpomacghaa
open Go.RowKit Go.Mx Go.Cnt Go.Shelf

theorem below_drewN {B : Nat} {a b : World} (h : Below B a b) (n : Nat) : Below B a (b.drewN n) := ⟨h.os, h.tape, h.output, h.size, h.block⟩

set_option maxRecDepth 100000 in
set_option maxHeartbeats 1000000 in
theorem rOf_any (a0 a1 a2 tv sv mv cv : Value) (t : Tab) (ss : List ShotM) (size : Int) (w : World) (ht : IsTab w w.heap.size tv t) (hs : IsShots w w.heap.size sv ss) (hl : t.length ≤ 1000000) (hls : ∀ i, i < ss.length → (ss.getD i default).t.length ≤ 1000000) (hsl : ss.length ≤ 30)
    (hg : ∀ i, i < (eachM t ss).length → GoodE ((eachM t ss).getD i default).e) :
    Calls Try.prog 16 #[.agg #[a0, a1, a2, tv, sv, mv, cv], .int .i64 size] w fun e w' => ∃ v, e = .returned v ∧ OwnI w' w.heap.size v (ofM (eachM t ss) size) ∧ Below w.heap.size w w' := by
  have hb0 : Below w.heap.size w (w.alloc (.cells #[a0, a1, a2, tv, sv, mv, cv] 29)) := (Below.refl _ _).alloc (Nat.le_refl _) _
  have HE := hid (rEach_any a0 a1 a2 tv sv mv cv t ss (w.alloc (.cells #[a0, a1, a2, tv, sv, mv, cv] 29)) ((ht.below hb0 (Nat.le_refl _)).mono hb0.size) ((hs.below hb0 (Nat.le_refl _)).mono hb0.size) hl hls hsl)
  have HB := hid hb0
  have hel := eachTo_len t ss 1000000 hl hls ss.length (Nat.le_refl _)
  have hlb : (eachM t ss).length ≤ 1000000000 := by
    unfold eachM
    have : (ss.length + 1) * (1000000 * 8) ≤ 31 * (1000000 * 8) := Nat.mul_le_mul_right _ (by omega)
    omega
  have HG := hid hg
  clear hb0 hg hls hel
  go_enter Try.func16, Try.ntmps16
  go_wp2_with fail
  refine HE.out.mono ?_
  rintro e w2 ⟨v2, rfl, ho2, hb2⟩
  have hb3 := HB.out.trans (hb2.mono HB.out.size)
  have hz3 := hb3.size
  have HC := hid (counted_any (eachM t ss) v2 size w2 ho2.slL hlb HG.out)
  clear ho2 hb2 HE HB
  go_wp2_with fail
  refine HC.out.mono ?_
  rintro e w4 ⟨v4, rfl, ho4, hb4⟩
  go_wp2
  go_ret
  exact ⟨_, rfl, ho4.any_base hz3, hb3.trans (hb4.mono hz3)⟩

set_option maxRecDepth 100000 in
set_option maxHeartbeats 1000000 in
theorem ints_eq (l : List Int) (av bv : Value) (w : World) (ha : SlI w w.heap.size av l) (hb : SlI w w.heap.size bv l) (hl : l.length ≤ 1000000000) :
    Calls Try.prog 14 #[av, bv] w fun e w' => e = .returned (.bool true) ∧ Below w.heap.size w w' := by
  have hla := fun w' => ha.len (P := Try.prog) (ty := 3) Try.underlying27 w'
  have hlb := fun w' => hb.len (P := Try.prog) (ty := 3) Try.underlying27 w'
  have hbe : ((l.length : Int) != (l.length : Int)) = false := by simp
  go_enter Try.func14, Try.ntmps14
  go_wp2_with fail
  go_loopw [5] (fun i wr => ∃ k : Nat, k ≤ l.length ∧ i = .int .i64 k ∧ Below w.heap.size w wr)
    (fun i _ => l.length - (intOf i).toNat)
  case atStart => exact ⟨0, by omega, rfl, Below.refl _ _⟩
  case round =>
    obtain ⟨k, hk, rfl, hbel⟩ := hrel
    by_cases hlt : k < l.length
    · obtain ⟨b1, o1, h1, hi1, hc1⟩ := (ha.below hbel (Nat.le_refl _)).addr (P := Try.prog) Try.underlying27 sizeI k hlt
      obtain ⟨b2, o2, h2, hi2, hc2⟩ := (hb.below hbel (Nat.le_refl _)).addr (P := Try.prog) Try.underlying27 sizeI k hlt
      obtain ⟨x, hx⟩ : ∃ x, x = l.getD k 0 := ⟨_, rfl⟩
      rw [← hx] at hc1 hc2
      have hne : (x != x) = false := by simp
      clear hx
      go_wp2
      go_quiet (fail)
      have hb2' : Below w.heap.size w (wr.drewN nq) := below_drewN hbel nq
      clear hi1 hi2 hc1 hc2
      go_wp2
      go_roundw
      case rel => exact ⟨k + 1, by omega, by go_num, hb2'⟩
      case measure => simp [intOf]; omega
    · go_wp2
      go_ret
      exact ⟨rfl, hbel⟩
end Go.Proofs.Ytpgdncpomacghaa
