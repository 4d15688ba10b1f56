import Derived.Test.YtgkabcaodnofnaaGreatON
namespace Go.Proofs.YtgkabcaodnofnaaGreat
open Go.RowKit Go.Mx Go.Md
set_option linter.unusedVariables false
set_option linter.unusedSimpArgs false
theorem disable (w : World) : (callFunc 170 #[]).run Tryz.prog w = .ok (.value (.tuple #[])) w := run_call_mark0 Tryz.func170 (by kernel_rfl) (by kernel_rfl) (by kernel_rfl) .disable (by kernel_rfl) w
theorem enable (w : World) : (callFunc 172 #[]).run Tryz.prog w = .ok (.value (.tuple #[])) w := run_call_mark0 Tryz.func172 (by kernel_rfl) (by kernel_rfl) (by kernel_rfl) .enable (by kernel_rfl) w
theorem acquire (a : Addr) (w : World) : (callFunc 173 #[.pointer (some a)]).run Tryz.prog w = .ok (.value (.tuple #[])) w := run_call_marked Tryz.func173 (by kernel_rfl) (by kernel_rfl) (by kernel_rfl) .acquire (by kernel_rfl) a w
theorem releaseMerge (a : Addr) (w : World) : (callFunc 175 #[.pointer (some a)]).run Tryz.prog w = .ok (.value (.tuple #[])) w := run_call_marked Tryz.func175 (by kernel_rfl) (by kernel_rfl) (by kernel_rfl) .releaseMerge (by kernel_rfl) a w

set_option maxRecDepth 100000 in
set_option maxHeartbeats 1000000 in
theorem store_deferred (a : Addr) (x : Value) (u : FrameMode) (w : World) (hc : w.cell? a = some x) (hz : w.frozen? a = false) :
    CallsD Tryz.prog 110 #[.pointer (some a), .bool true] u w fun e u' w' => u' = u ∧ (e = .returned (.tuple #[]) ∧ w' = w.drew.setCell a (.int .u32 1)) := by
  have hc' : w.drew.cell? a = some x := by go_simp
  have hz' : w.drew.frozen? a = false := by go_simp
  have hst := run_call_store (P := Tryz.prog) Tryz.func152 (by kernel_rfl) (by kernel_rfl) (by kernel_rfl) (by kernel_rfl) (k := .u32) (y := 1) hc' hz'
  go_enter_d Tryz.func110, Tryz.ntmps110
  go_wp2
  go_region_calls
  all_goals (go_end0; exact ⟨rfl, rfl⟩)

set_option maxRecDepth 100000 in
set_option maxHeartbeats 1000000 in
theorem unlock_deferred (a : Addr) (u : FrameMode) (w : World) (hc : w.cell? a = some (.int .i32 1)) (hz : w.frozen? a = false) :
    CallsD Tryz.prog 109 #[.pointer (some a)] u w fun e u' w' => u' = u ∧ (e = .returned (.tuple #[]) ∧ w' = w.setCell a (.int .i32 0)) := by
  have hd := disable
  have he := enable
  have hr := releaseMerge
  have hadd := run_call_add (P := Tryz.prog) Tryz.func176 (by kernel_rfl) (by kernel_rfl) (by kernel_rfl) .i32 (by kernel_rfl) (y := -1) (s := 0) hc hz (by simp [go_sem]; rfl)
  have hcv := run_convert_to_unsafe (P := Tryz.prog) (src := 230) (dst := 234) Tryz.underlying230 Tryz.underlying234 (by kernel_rfl) hc
  go_enter_d Tryz.func109, Tryz.ntmps109
  go_wp2
  go_end0
  go_wp2
  go_end0
  exact ⟨rfl, rfl⟩

set_option maxRecDepth 100000 in
set_option maxHeartbeats 1000000 in
theorem lock_free (a : Addr) (w : World) (hc : w.cell? a = some (.int .i32 0)) (hz : w.frozen? a = false) :
    Calls Tryz.prog 108 #[.pointer (some a)] w fun e w' => e = .returned (.tuple #[]) ∧ w' = w.setCell a (.int .i32 1) := by
  have hd := disable
  have he := enable
  have ha := acquire
  have hcas := run_call_cas_hit (P := Tryz.prog) Tryz.func171 (by kernel_rfl) (by kernel_rfl) (by kernel_rfl) .i32 (by kernel_rfl) (y := 1) hc hz
  have hc' : (w.setCell a (.int .i32 1)).cell? a = some (.int .i32 1) := cs_same hc
  have hcv := run_convert_to_unsafe (P := Tryz.prog) (src := 230) (dst := 234) Tryz.underlying230 Tryz.underlying234 (by kernel_rfl) hc'
  go_enter Tryz.func108, Tryz.ntmps108
  go_wp2
  first | go_end0 | (simp only [Exit.inBlock, Exit.then]; refine bodyPost_ret (results_none rfl _ _ _) rfl ?_) | refine bodyPost_ret (results_none rfl _ _ _) rfl ?_
  go_wp2
  go_end0
  exact ⟨rfl, rfl⟩

theorem cellO {w : World} {b : Nat} {C : Array Value} {j : Nat} {v : Value} (h : w.heap[b]? = some (.cells C 73 (0, 0))) (hv : C[j]? = some v) : w.cell? ⟨b, j, none⟩ = some v := by simp [World.cell?, h, hv]
theorem fzO {w : World} {b : Nat} {C : Array Value} (j : Nat) (h : w.heap[b]? = some (.cells C 73 (0, 0))) : w.frozen? ⟨b, j, none⟩ = false := by simp [World.frozen?, h]
/-- a model's cells behind its table's making -/
def onceC (C : Array Value) (dm : Nat) : Array Value := (((C.setIfInBounds 4 (.int .i32 1)).setIfInBounds 6 (.map (some dm))).setIfInBounds 3 (.int .u32 1)).setIfInBounds 4 (.int .i32 0)
set_option maxRecDepth 100000 in
set_option maxHeartbeats 1600000 in
theorem slow_any (mb pl : Nat) (w : World) (C : Array Value) (p0 : w.cell? ⟨pl, 0, none⟩ = some (pt mb)) (hpl : pl < w.heap.size) (hne : mb ≠ pl) (hm : w.heap[mb]? = some (.cells C 73 (0, 0))) (h3 : C[3]? = some (.int .u32 0)) (h4 : C[4]? = some (.int .i32 0)) (h6 : ∃ v, C[6]? = some v) :
    Calls Tryz.prog 71 #[.pointer (some ⟨mb, 3, none⟩), .func (.func 35) #[] #[pt pl]] w fun e w' => e = .returned (.tuple #[]) ∧ GM EI Tryz.prog 3 w' w.heap.size (tabL mb) ∧ Kept w w' (· ≠ mb) ∧ w'.heap[mb]? = some (.cells (onceC C w.heap.size) 73 (0, 0)) := by
  obtain ⟨w1, hw1⟩ : ∃ z, z = w.setCell ⟨mb, 4, none⟩ (.int .i32 1) := ⟨_, rfl⟩
  have q1 : w1.heap[mb]? = some (.cells (C.setIfInBounds 4 (.int .i32 1)) 73 (0, 0)) := by rw [hw1, heap_setCell_at' w mb 4 _ _ 73 _ hm]
  have hl := run_call_load (P := Tryz.prog) Tryz.func107 (by kernel_rfl) (by kernel_rfl) (by kernel_rfl) .u32 (by kernel_rfl) (w := w1) (a := ⟨mb, 3, none⟩) (x := 0) (cellO q1 (by simpa using h3))
  have hp1 : w1.cell? ⟨pl, 0, none⟩ = some (pt mb) := by rw [hw1]; exact (cs_ne hne).trans p0
  have hs1 : w1.heap.size = w.heap.size := by rw [hw1]; simp
  have k1 : Kept w w1 (· ≠ mb) := by rw [hw1]; exact Kept.set _ _ _ _ (by simp)
  have c4 := cellO hm h4
  have z4 := fzO 4 hm
  have HF := hid (fill_any mb pl w1 _ hp1 (by omega) q1 (by obtain ⟨v, hv⟩ := h6; exact ⟨v, by simpa using hv⟩))
  have hnot : ∀ (x : Bool) (w : World), (Op.unary .not (.bool x)).run Tryz.prog w = .ok (.bool (!x)) w := fun _ _ => rfl
  have H := hid (And.intro h3 (And.intro h4 (And.intro k1 hs1)))
  have HW := hid hw1
  go_enter_defers Tryz.func71, Tryz.ntmps71
  go_wp2_with (go_at_call 108; refine (lock_free ⟨mb, 4, none⟩ _ c4 z4).mono ?_; rintro e w' ⟨rfl, rfl⟩)
  rw [← hw1]
  clear hw1
  go_wp2_with (first | (go_at_call 35; refine HF.out.mono ?_; rintro e w2 ⟨rfl, g2, k2, q2⟩) | (go_at_call 70; go_in))
  refine leaves_cons (f := 110) (args := #[.pointer (some ⟨mb, 3, none⟩), .bool true]) (by simp) (by simp [go_sem]) ?_
  have q2c : w2.cell? ⟨mb, 3, none⟩ = some (.int .u32 0) := cellO q2 (by simpa using H.out.1)
  refine (store_deferred ⟨mb, 3, none⟩ (.int .u32 0) .returning _ q2c (fzO 3 q2)).mono ?_
  rintro e u' w'' ⟨rfl, rfl, rfl⟩
  refine leaves_cons (f := 109) (args := #[.pointer (some ⟨mb, 4, none⟩)]) (by simp [settle]) (by simp [go_sem]) ?_
  have q3 : (w2.drew.setCell ⟨mb, 3, none⟩ (.int .u32 1)).heap[mb]? = some (.cells (((C.setIfInBounds 4 (.int .i32 1)).setIfInBounds 6 (.map (some w1.heap.size))).setIfInBounds 3 (.int .u32 1)) 73 (0, 0)) := heap_setCell_at' w2.drew mb 3 _ _ 73 _ q2
  refine (unlock_deferred ⟨mb, 4, none⟩ _ _ (cellO q3 (by
    have : 4 < C.size := by
      have := H.out.2.1
      rw [Array.getElem?_eq_some_iff] at this
      exact this.1
    simp [this])) (fzO 4 q3)).mono ?_
  rintro e u' w'' ⟨rfl, rfl, rfl⟩
  obtain ⟨h3, h4, k1, hs1⟩ := H.out
  have q4 := heap_setCell_at' (w2.drew.setCell ⟨mb, 3, none⟩ (.int .u32 1)) mb 4 (.int .i32 0) _ 73 _ q3
  have hkF : Kept w2 ((w2.drew.setCell ⟨mb, 3, none⟩ (.int .u32 1)).setCell ⟨mb, 4, none⟩ (.int .i32 0)) (· ≠ mb) := ((Kept.drew _ _).trans (Kept.set _ _ _ _ (by simp))).trans (Kept.set _ _ _ _ (by simp))
  have hgF : GM EI Tryz.prog 3 ((w2.drew.setCell ⟨mb, 3, none⟩ (.int .u32 1)).setCell ⟨mb, 4, none⟩ (.int .i32 0)) w.heap.size (tabL mb) := by
    rw [hs1] at g2
    exact g2.block (hkF.block _ g2.lt (by have := blk_lt hm; omega))
  have hend : True ∧ GM EI Tryz.prog 3 ((w2.drew.setCell ⟨mb, 3, none⟩ (.int .u32 1)).setCell ⟨mb, 4, none⟩ (.int .i32 0)) w.heap.size (tabL mb) ∧ Kept w ((w2.drew.setCell ⟨mb, 3, none⟩ (.int .u32 1)).setCell ⟨mb, 4, none⟩ (.int .i32 0)) (· ≠ mb) ∧ ((w2.drew.setCell ⟨mb, 3, none⟩ (.int .u32 1)).setCell ⟨mb, 4, none⟩ (.int .i32 0)).heap[mb]? = some (.cells (onceC C w.heap.size) 73 (0, 0)) :=
    ⟨trivial, hgF, (k1.trans k2).trans hkF, by rw [q4, hs1]; rfl⟩
  have HE := hid hend.2
  clear hend hgF hkF q4 hl g2 k2 q2 q3 q2c
  simp [Leaves, settle, results, Tryz.results71]
  exact HE.out
set_option maxRecDepth 100000 in
set_option maxHeartbeats 1600000 in
theorem do_first (mb pl : Nat) (w : World) (C : Array Value) (p0 : w.cell? ⟨pl, 0, none⟩ = some (pt mb)) (hpl : pl < w.heap.size) (hne : mb ≠ pl) (hm : w.heap[mb]? = some (.cells C 73 (0, 0))) (h3 : C[3]? = some (.int .u32 0)) (h4 : C[4]? = some (.int .i32 0)) (h6 : ∃ v, C[6]? = some v) :
    Calls Tryz.prog 34 #[.pointer (some ⟨mb, 3, none⟩), .func (.func 35) #[] #[pt pl]] w fun e w' => e = .returned (.tuple #[]) ∧ GM EI Tryz.prog 3 w' w.heap.size (tabL mb) ∧ Kept w w' (· ≠ mb) ∧ w'.heap[mb]? = some (.cells (onceC C w.heap.size) 73 (0, 0)) := by
  have hl := run_call_load (P := Tryz.prog) Tryz.func107 (by kernel_rfl) (by kernel_rfl) (by kernel_rfl) .u32 (by kernel_rfl) (w := w) (a := ⟨mb, 3, none⟩) (x := 0) (cellO hm h3)
  have hnot : ∀ (x : Bool) (w : World), (Op.unary .not (.bool x)).run Tryz.prog w = .ok (.bool (!x)) w := fun _ _ => rfl
  have HS := hid (slow_any mb pl w C p0 hpl hne hm h3 h4 h6)
  clear hm h3 h4 h6 p0
  go_enter Tryz.func34, Tryz.ntmps34
  go_wp2_with (first | (go_at_call 71; refine HS.out.mono ?_; rintro e w' ⟨rfl, hd⟩) | (go_at_call 70; go_in))
  go_end0
  exact ⟨rfl, hd⟩
theorem do_done (mb : Nat) (fv : Value) (w : World) (h0 : w.cell? ⟨mb, 3, none⟩ = some (.int .u32 1)) :
    Calls Tryz.prog 34 #[.pointer (some ⟨mb, 3, none⟩), fv] w fun e w' => e = .returned (.tuple #[]) ∧ w' = w := by
  have hl := run_call_load (P := Tryz.prog) Tryz.func107 (by kernel_rfl) (by kernel_rfl) (by kernel_rfl) .u32 (by kernel_rfl) h0
  have hnot : ∀ (x : Bool) (w : World), (Op.unary .not (.bool x)).run Tryz.prog w = .ok (.bool (!x)) w := fun _ _ => rfl
  go_enter Tryz.func34, Tryz.ntmps34
  go_wp2
  go_end0
  exact ⟨rfl, rfl⟩
end Go.Proofs.YtgkabcaodnofnaaGreat
