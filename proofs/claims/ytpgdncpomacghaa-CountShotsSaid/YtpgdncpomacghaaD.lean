import Derived.RangeFuncNested
import Derived.RangeFuncBound
import Derived.RangeFuncCalls
import Derived.RangeFuncLeaves
import Derived.Shelf.Abstract
import Derived.Shelf.RegionOpen
import Derived.WalkKit
import Derived.OwnWalkIn
import Derived.TacticsInMore
import Derived.LoopNIn
import Derived.LoopIn
import Derived.Test.YtpgdncpomacghaaC
namespace Go.Proofs.Ytpgdncpomacghaa
open Go.RowKit Go.Mx Go.Cnt Go.Shelf
attribute [local go_sem] Oper.semAt_some

def linV (x : Lin) : Value := .agg #[.int .i64 x.shot, .int .i64 x.cluster, .int .i64 x.e.kind, .int .i64 x.e.start, .int .i64 x.e.count, .int .i64 x.e.size, .int .u32 x.e.sum]

/-- what a round keeps: whatever lay below n₀, and these blocks -/
def KpA (n₀ : Nat) (bs : List Nat) (A B : World) : Prop := Below n₀ A B ∧ ∀ b ∈ bs, B.heap[b]? = A.heap[b]?

theorem KpA.refl (n₀ : Nat) (bs : List Nat) (A : World) : KpA n₀ bs A A := ⟨Below.refl _ _, fun _ _ => rfl⟩
theorem KpA.trans {n₀ : Nat} {bs : List Nat} {A B C : World} (h : KpA n₀ bs A B) (k : KpA n₀ bs B C) : KpA n₀ bs A C := ⟨h.1.trans k.1, fun b hb => (k.2 b hb).trans (h.2 b hb)⟩
theorem cell_heap {A B : World} {b o : Nat} (h : B.heap[b]? = A.heap[b]?) : B.cell? ⟨b, o, none⟩ = A.cell? ⟨b, o, none⟩ := by unfold World.cell?; simp only [h]
theorem KpA.of_below {n₀ n₁ : Nat} {bs : List Nat} {A B : World} (h : Below n₁ A B) (hn : n₀ ≤ n₁) (hb : ∀ b ∈ bs, b < n₁) : KpA n₀ bs A B := ⟨h.mono hn, fun b hm => h.block b (hb b hm)⟩

theorem grown_of_below {w w' : World} (h : Below w.heap.size w w') : w.grownBy w' none := ⟨h.os, h.tape, h.output, h.size, fun i hi _ => h.block i hi⟩

set_option maxRecDepth 100000 in
set_option maxHeartbeats 2000000 in
theorem one1_in (n : Nat) (hn : 1 ≤ n) (l Bt Bs n₀ : Nat) (sh : Int) (tv : Value) (t : Tab) (J Jx : List Lin → World → Prop) (hl : t.length ≤ 1000000)
    (hY : ∀ pre x W, J pre W → pre.length < t.length * 8 → YieldAt Fence.wide (n - 1) Try.prog l #[linV x] W fun e W' =>
      (e = .returned (.bool true) ∧ J (pre ++ [x]) W' ∧ KpA n₀ [Bt, Bs] W W') ∨ (e = .returned (.bool false) ∧ Jx (pre ++ [x]) W'))
    (W : World) (hJ : AbidesFrom W.heap.size J) (hBt : W.cell? ⟨Bt, 0, none⟩ = some tv) (hBs : W.cell? ⟨Bs, 0, none⟩ = some (.int .i64 sh)) (hbt : Bt < W.heap.size) (hbs : Bs < W.heap.size) (hn₀ : n₀ ≤ W.heap.size) (ht : IsTab W n₀ tv t) (h0 : J [] W) :
    CallsIn Fence.wide n Try.prog 39 #[.func (.yield l) #[] #[], .pointer (some ⟨Bt, 0, none⟩), .pointer (some ⟨Bs, 0, none⟩)] W fun e W' => (∃ v, e = .returned v) ∧
      ((∃ ys, ys = linesT sh t ∧ J ys W') ∨ (∃ pre, pre <+: linesT sh t ∧ Jx pre W')) := by
  have hlen := fun w' => ht.len w' (ty := 3)
  refine callsIn_of_wp Try.func39 rfl trivial ?_ rfl
  simp only [Try.ntmps39, List.size_toArray, List.length_cons, List.length_nil, Nat.reduceAdd, Nat.reduceSub, Array.replicate_succ, Array.replicate_zero, List.push_toArray, List.append_toArray, List.nil_append, List.cons_append]
  gi_wp2
  gi_loopw [10] (fun i wr => ∃ k : Nat, k ≤ t.length * 8 ∧ i = .int .i64 k ∧ J (linesTo sh t k) wr ∧ KpA n₀ [Bt, Bs] W wr ∧ W.heap.size ≤ wr.heap.size)
    (fun i _ => t.length * 8 - (intOf i).toNat)
  case atStart => exact ⟨0, Nat.zero_le _, rfl, h0, KpA.refl _ _ _, Nat.le_refl _⟩
  case round =>
    obtain ⟨k, hk, rfl, hJs, hbel, hsz⟩ := hrel
    have hBt' : wr.cell? ⟨Bt, 0, none⟩ = some tv := (cell_heap (hbel.2 Bt (by simp))).trans hBt
    have hBs' : wr.cell? ⟨Bs, 0, none⟩ = some (.int .i64 sh) := (cell_heap (hbel.2 Bs (by simp))).trans hBs
    by_cases hlt : k < t.length * 8
    · have ht' := (ht.below hbel.1 (Nat.le_refl _)).mono (show n₀ ≤ wr.heap.size by omega)
      clear hlen
      have hget := get_any t tv k wr ht' hlt hl
      have hhit' := linesTo_hit sh t k
      have hmiss' := linesTo_miss sh t k
      have hpre := hid (show linesTo sh t (k + 1) <+: linesT sh t by
        unfold linesT; have := linesTo_prefix sh t (t.length * 8 - (k + 1)) (k + 1); rwa [show k + 1 + (t.length * 8 - (k + 1)) = t.length * 8 by omega] at this)
      have hplen : (linesTo sh t k).length < t.length * 8 := by have := linesTo_len sh t k; omega
      obtain ⟨E, hE⟩ : ∃ E, E = getM t k := ⟨_, rfl⟩
      rw [← hE] at hget hhit' hmiss'
      have HG := hid hget
      have HBS := hid hBs'
      clear hE hget hBs' ht'
      have hg : ∀ w', Below wr.heap.size wr w' → J (linesTo sh t k) w' := fun w' h => hJ _ wr w' none hJs (grown_of_below h) (fun r e => by cases e)
      by_cases h2 : E.kind = 2
      · have hk2 : (E.kind == 2) = true := by simp [h2]
        have hhit := hid (hhit' (by unfold isR; rw [hk2]; rfl))
        clear h2 hhit' hmiss'
        gi_wp2_with fail
        refine ⟨trivial, ?_⟩
        gi_at_call 40
        refine (callsIn_wide.2 HG.out).mono ?_
        rintro e w40 ⟨rfl, hb40⟩
        simp only [entV]
        have hz40 := hb40.size
        have hbs2 : Bs < w40.heap.size := by omega
        have hBs40 := (hb40.cell (p := ⟨Bs, 0, none⟩) (show Bs < wr.heap.size by omega)).trans HBS.out
        have hb41 := hb40.alloc hz40 (.cells #[.int .i64 E.kind, .int .i64 E.start, .int .i64 E.count, .int .i64 E.size, .int .u32 E.sum] 39)
        obtain ⟨fn, tmps, assign, body, hy, hR2⟩ := hY _ (⟨sh, (k : Int), E⟩ : Lin) _ (hg _ hb41) hplen
        simp only [linV] at hy
        gi_wp2
        refine hR2.mono ?_
        rintro e W3 (⟨rfl, hJ3, hk3⟩ | ⟨rfl, hJx3⟩)
        · have hsz3 := hk3.1.size
          rw [World.size_alloc] at hsz3
          gi_wp2
          go_roundw
          case rel => exact ⟨k + 1, by omega, by go_num, by rw [hhit.out]; exact hJ3, (hbel.trans (KpA.of_below hb41 (by omega) (by simp; omega))).trans hk3, by omega⟩
          case measure => simp [intOf]; omega
        · gi_wp2
          refine bodyPost_ret (results_none rfl _ _ _) rfl ?_
          exact ⟨⟨_, rfl⟩, .inr ⟨_, by rw [← hhit.out]; exact hpre.out, hJx3⟩⟩
      have hk2 : (E.kind == 2) = false := by simp [h2]
      by_cases h3 : E.kind = 3
      · have hk3 : (E.kind == 3) = true := by simp [h3]
        have hhit := hid (hhit' (by unfold isR; rw [hk3]; simp))
        clear h2 h3 hhit' hmiss'
        gi_wp2_with fail
        refine ⟨trivial, ?_⟩
        gi_at_call 40
        refine (callsIn_wide.2 HG.out).mono ?_
        rintro e w40 ⟨rfl, hb40⟩
        simp only [entV]
        have hz40 := hb40.size
        have hbs2 : Bs < w40.heap.size := by omega
        have hBs40 := (hb40.cell (p := ⟨Bs, 0, none⟩) (show Bs < wr.heap.size by omega)).trans HBS.out
        have hb41 := hb40.alloc hz40 (.cells #[.int .i64 E.kind, .int .i64 E.start, .int .i64 E.count, .int .i64 E.size, .int .u32 E.sum] 39)
        obtain ⟨fn, tmps, assign, body, hy, hR2⟩ := hY _ (⟨sh, (k : Int), E⟩ : Lin) _ (hg _ hb41) hplen
        simp only [linV] at hy
        gi_wp2
        refine hR2.mono ?_
        rintro e W3 (⟨rfl, hJ3, hk3⟩ | ⟨rfl, hJx3⟩)
        · have hsz3 := hk3.1.size
          rw [World.size_alloc] at hsz3
          gi_wp2
          go_roundw
          case rel => exact ⟨k + 1, by omega, by go_num, by rw [hhit.out]; exact hJ3, (hbel.trans (KpA.of_below hb41 (by omega) (by simp; omega))).trans hk3, by omega⟩
          case measure => simp [intOf]; omega
        · gi_wp2
          refine bodyPost_ret (results_none rfl _ _ _) rfl ?_
          exact ⟨⟨_, rfl⟩, .inr ⟨_, by rw [← hhit.out]; exact hpre.out, hJx3⟩⟩
      · have hk3 : (E.kind == 3) = false := by simp [h3]
        have hmiss := hid (hmiss' (by unfold isR; rw [hk2, hk3]; rfl))
        clear h2 h3 hhit' hmiss'
        gi_wp2_with fail
        refine ⟨trivial, ?_⟩
        gi_at_call 40
        refine (callsIn_wide.2 HG.out).mono ?_
        rintro e w40 ⟨rfl, hb40⟩
        simp only [entV]
        have hz40 := hb40.size
        have hb41 := hb40.alloc hz40 (.cells #[.int .i64 E.kind, .int .i64 E.start, .int .i64 E.count, .int .i64 E.size, .int .u32 E.sum] 39)
        gi_wp2
        refine ⟨fun _ h => (by cases h), ?_⟩
        gi_wp2
        go_roundw
        case rel => exact ⟨k + 1, by omega, by go_num, by rw [hmiss.out]; exact hg _ hb41, hbel.trans (KpA.of_below hb41 (by omega) (by simp; omega)), by simp; omega⟩
        case measure => simp [intOf]; omega
    · obtain rfl : k = t.length * 8 := by omega
      gi_wp2
      go_end0
      exact ⟨⟨_, rfl⟩, .inl ⟨_, rfl, hJs⟩⟩
end Go.Proofs.Ytpgdncpomacghaa
