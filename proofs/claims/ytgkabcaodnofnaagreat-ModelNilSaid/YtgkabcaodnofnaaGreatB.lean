import Derived.Test.YtgkabcaodnofnaaGreatA
namespace Go.Proofs.YtgkabcaodnofnaaGreat
open Go.RowKit Go.Mx Go.Md Go.Shelf
set_option linter.unusedVariables false
set_option linter.unusedSimpArgs false
attribute [local go_sem] Oper.semAt_some
/-- what a round keeps: whatever lay below n₀, and these blocks -/
def KpA (n₀ : Nat) (bs : List Nat) (A B : World) : Prop := Below n₀ A B ∧ ∀ b ∈ bs, B.heap[b]? = A.heap[b]?
theorem KpA.refl (n₀ : Nat) (bs : List Nat) (A : World) : KpA n₀ bs A A := ⟨Below.refl _ _, fun _ _ => rfl⟩
theorem KpA.trans {n₀ : Nat} {bs : List Nat} {A B C : World} (h : KpA n₀ bs A B) (k : KpA n₀ bs B C) : KpA n₀ bs A C := ⟨h.1.trans k.1, fun b hb => (k.2 b hb).trans (h.2 b hb)⟩
theorem cell_heap {A B : World} {b o : Nat} (h : B.heap[b]? = A.heap[b]?) : B.cell? ⟨b, o, none⟩ = A.cell? ⟨b, o, none⟩ := by unfold World.cell?; simp only [h]
theorem KpA.of_below {n₀ n₁ : Nat} {bs : List Nat} {A B : World} (h : Below n₁ A B) (hn : n₀ ≤ n₁) (hb : ∀ b ∈ bs, b < n₁) : KpA n₀ bs A B := ⟨h.mono hn, fun b hm => h.block b (hb b hm)⟩
theorem grown_of_below {w w' : World} (h : Below w.heap.size w w') : w.grownBy w' none := ⟨h.os, h.tape, h.output, h.size, fun i hi _ => h.block i hi⟩
theorem KpA.putObj {n₀ : Nat} {bs : List Nat} {w : World} (hn : n₀ ≤ w.heap.size) (hb : ∀ b ∈ bs, b < w.heap.size) (W : World) (l : Nat) (o o' : Obj) (hl : w.heap.size ≤ l) (h : W.heap[l]? = some o) (h1 : o.isCells = false) (h2 : o.isWalk = false) : KpA n₀ bs W (W.putObj l o') :=
  ⟨belowK_b hn W l o o' hl h h1 h2, fun b hm => World.putObj_heap_other (by have := hb b hm; omega)⟩
set_option maxRecDepth 100000 in
set_option maxHeartbeats 2000000 in
theorem all_in (n : Nat) (hn : 1 ≤ n) (l Bt n₀ : Nat) (tv : Value) (t : List Sp) (J Jx : List Sp → World → Prop) (hl : t.length ≤ 10000000000)
    (hY : ∀ pre x W, J pre W → pre.length < t.length → YieldAt Fence.wide (n - 1) Tryz.prog l #[spV x] W fun e W' =>
      (e = .returned (.bool true) ∧ J (pre ++ [x]) W' ∧ KpA n₀ [Bt] W W') ∨ (e = .returned (.bool false) ∧ Jx (pre ++ [x]) W'))
    (W : World) (hJ : AbidesFrom W.heap.size J) (hBt : W.cell? ⟨Bt, 0, none⟩ = some tv) (hbt : Bt < W.heap.size) (hn₀ : n₀ ≤ W.heap.size) (ht : SpS W n₀ tv t) (h0 : J [] W) :
    CallsIn Fence.wide n Tryz.prog 158 #[.func (.yield l) #[] #[], .pointer (some ⟨Bt, 0, none⟩)] W fun e W' => (∃ v, e = .returned v) ∧
      ((∃ ys, ys = allS t ∧ J ys W') ∨ (∃ pre, pre <+: allS t ∧ Jx pre W')) := by
  have hlen := fun w' => SpS.len ht w'
  have HG := hid (right_any t tv W hl (ht.mono hn₀))
  obtain ⟨oa, tn, tc, rfl⟩ := slG_sh ht
  have HT := hid ht
  have H0 := hid h0
  clear ht h0
  refine callsIn_of_wp Tryz.func158 rfl trivial ?_ rfl
  simp only [Tryz.ntmps158, List.size_toArray, List.length_cons, List.length_nil, Nat.reduceAdd, Nat.reduceSub, Array.replicate_succ, Array.replicate_zero, List.push_toArray, List.append_toArray, List.nil_append, List.cons_append]
  gi_wp2_with fail
  refine ⟨trivial, ?_⟩
  gi_at_call 124
  refine (callsIn_wide.2 HG.out).mono ?_
  rintro e w1 ⟨rfl, hb1⟩
  have hBt1 := (hb1.cell (p := ⟨Bt, 0, none⟩) hbt).trans hBt
  have HB1 := hid hb1
  have hz1 := hb1.size
  have hJ1 : J [] w1 := hJ _ W w1 none H0.out (grown_of_below hb1) (fun r e => by cases e)
  clear hb1 HG
  cases hr : rightS (-1) t
  · have HR := hid hr
    clear hr
    gi_wp2
    refine bodyPost_ret (results_none rfl _ _ _) rfl ?_
    exact ⟨⟨_, rfl⟩, .inl ⟨_, rfl, by unfold allS; rw [HR.out]; exact hJ1⟩⟩
  · have HR : Hid (allS t = t) := hid (by unfold allS; rw [hr]; rfl)
    clear hr
    gi_wp2
    gi_loopw [10] (fun i wr => ∃ k : Nat, k ≤ t.length ∧ i = .int .i64 k ∧ J (t.take k) wr ∧ KpA n₀ [Bt] w1 wr ∧ w1.heap.size ≤ wr.heap.size)
      (fun i _ => t.length - (intOf i).toNat)
    case atStart => exact ⟨0, Nat.zero_le _, rfl, hJ1, KpA.refl _ _ _, Nat.le_refl _⟩
    case round =>
      obtain ⟨k, hk, rfl, hJs, hbel, hsz⟩ := hrel
      by_cases hlt : k < t.length
      · obtain ⟨s, hs⟩ : ∃ s, t[k]? = some s := ⟨_, List.getElem?_eq_getElem hlt⟩
        obtain ⟨b, o, hb, hia, g0, g1⟩ := SpS.at ((HT.out.below HB1.out hn₀).below hbel.1 (Nat.le_refl _)) hs
        have htk : Hid (t.take (k + 1) = t.take k ++ [s]) := hid (by rw [List.take_add_one, hs]; rfl)
        have hplen : (t.take k).length < t.length := by rw [List.length_take]; omega
        obtain ⟨x, y⟩ := s
        have hb41 : Below wr.heap.size wr (wr.alloc (.cells #[.int .i64 x, .int .i64 y] 111)) := (Below.refl _ _).alloc (Nat.le_refl _) _
        have hJ41 : J (t.take k) (wr.alloc (.cells #[.int .i64 x, .int .i64 y] 111)) := hJ _ wr _ none hJs (grown_of_below hb41) (fun r e => by cases e)
        obtain ⟨fn, tmps, assign, body, hy, hR2⟩ := hY _ (x, y) _ hJ41 hplen
        simp only [spV] at hy
        have HH := hid (And.intro hb41 hs)
        clear hb41 hs hJ41 hJs
        gi_wp2
        refine hR2.mono ?_
        rintro e W3 (⟨rfl, hJ3, hk3⟩ | ⟨rfl, hJx3⟩)
        · have hsz3 := hk3.1.size
          rw [World.size_alloc] at hsz3
          gi_wp2
          go_roundw
          case rel => exact ⟨k + 1, by omega, by go_num, by rw [htk.out]; exact hJ3, (hbel.trans (KpA.of_below HH.out.1 (by omega) (by simp; omega))).trans hk3, by omega⟩
          case measure => simp [intOf]; omega
        · gi_wp2
          refine bodyPost_ret (results_none rfl _ _ _) rfl ?_
          exact ⟨⟨_, rfl⟩, .inr ⟨_, by rw [HR.out, ← htk.out]; exact List.take_prefix _ _, hJx3⟩⟩
      · obtain rfl : k = t.length := by omega
        gi_wp2
        go_end0
        exact ⟨⟨_, rfl⟩, .inl ⟨_, rfl, by rw [HR.out]; rw [List.take_length] at hJs; exact hJs⟩⟩
theorem all_stops (n : Nat) (hn : 1 ≤ n) (Bt n₀ : Nat) (tv : Value) (t : List Sp) (hl : t.length ≤ 10000000000) (w : World) (hBt : w.cell? ⟨Bt, 0, none⟩ = some tv)
    (hbt : Bt < w.heap.size) (hn₀ : n₀ ≤ w.heap.size) (ht : SpS w n₀ tv t) :
    SeqStopsK Fence.wide n Tryz.prog 158 #[.pointer (some ⟨Bt, 0, none⟩)] (fun x : Sp => #[spV x]) (KpA n₀ [Bt]) (fun ys => ys = allS t) (fun pre => pre <+: allS t) t.length w :=
  fun l J Jx W hW hJ _ hY h0 => by
    have hz := hW.size
    exact all_in n hn l Bt n₀ tv t J Jx hl hY W hJ ((hW.cell (p := ⟨Bt, 0, none⟩) hbt).trans hBt) (by omega) (by omega) (ht.below hW hn₀) h0
end Go.Proofs.YtgkabcaodnofnaaGreat
