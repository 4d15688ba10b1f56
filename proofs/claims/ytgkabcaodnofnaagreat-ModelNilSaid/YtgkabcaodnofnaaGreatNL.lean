import Derived.Test.YtgkabcaodnofnaaGreatAW

namespace Go.Proofs.YtgkabcaodnofnaaGreat
open Go.RowKit Go.Mx Go.Md
set_option linter.unusedVariables false
set_option linter.unusedSimpArgs false
set_option maxRecDepth 100000 in
set_option maxHeartbeats 1000000 in
theorem do_nil (k a n m : Int) (s t : ByteArray) (oa : Option Addr) (len c : Nat) (w : World) : Calls Tryz.prog 14 #[.pointer none, .agg #[.int .i64 k, .string s, .string t, .int .i64 a, .int .i64 n, .int .i64 m, .slice oa len c]] w fun e w' => e = .returned (.tuple #[failV 15, nilS]) ∧ Below w.heap.size w w' := by
  obtain ⟨w1, hw1⟩ : ∃ z, z = w.alloc (.cells #[.int .i64 k, .string s, .string t, .int .i64 a, .int .i64 n, .int .i64 m, .slice oa len c] 25) := ⟨_, rfl⟩
  have hb1 : Below w.heap.size w w1 := by rw [hw1]; exact (Below.refl _ _).alloc (Nat.le_refl _) _
  have hs1 : w1.heap.size = w.heap.size + 1 := by rw [hw1]; simp
  obtain ⟨w2, hw2⟩ : ∃ z, z = w1.alloc (.cells zrep 34) := ⟨_, rfl⟩
  have hb2 : Below w.heap.size w w2 := by rw [hw2]; exact hb1.alloc (by omega) _
  have hq2 : w2.heap[w.heap.size + 1]? = some (.cells zrep 34 (0, 0)) := by rw [hw2, ← hs1]; exact alloc_new w1 _
  have HE := hid (And.intro hw1 (And.intro hw2 (And.intro hb2 hq2)))
  clear hw1 hw2 hb1 hb2 hq2 hs1
  go_enter Tryz.func14, Tryz.ntmps14
  go_upto_region 2 with (fail)
  rw [← HE.out.1, ← HE.out.2.1]
  go_wp2_with (go_at_call 21; refine (failed_any 15 _).mono ?_; rintro e w5 ⟨rfl, hb5⟩; obtain ⟨x0, x1, x2, x3, x4, x5, xz⟩ := zcells ((hb5.block (w.heap.size + 1) (blk_lt HE.out.2.2.2)).trans HE.out.2.2.2))
  have hq5 := (hb5.block (w.heap.size + 1) (blk_lt HE.out.2.2.2)).trans HE.out.2.2.2
  have hcj := st6_cell (.int .i64 15) nilS nilS nilS (.int .i64 0) (.int .i64 0) hq5 rfl
  have y0 := hcj 0 _ rfl
  have y1 := hcj 1 _ rfl
  have y2 := hcj 2 _ rfl
  have y3 := hcj 3 _ rfl
  have y4 := hcj 4 _ rfl
  have y5 := hcj 5 _ rfl
  have hfin : Below w.heap.size w (st6 w5 (w.heap.size + 1) (.int .i64 15) nilS nilS nilS (.int .i64 0) (.int .i64 0)) := by
    have h1 : Below w.heap.size w w5 := HE.out.2.2.1.trans (hb5.mono HE.out.2.2.1.size)
    exact Below.setCells (g := w.heap.size + 1) (o := 0) [.int .i64 15, nilS, nilS, nilS, .int .i64 0, .int .i64 0] h1 (by omega)
  clear x0 x1 x2 x3 x4 x5 xz hcj
  change bodyPost _ _ _ _ _ (st6 w5 (w.heap.size + 1) (.int .i64 15) nilS nilS nilS (.int .i64 0) (.int .i64 0))
  exact bodyPost_ret (v := .tuple #[failV 15, nilS]) (by simp [results, Tryz.results14, go_sem, y0, y1, y2, y3, y4, y5]) rfl ⟨rfl, hfin⟩
theorem kept_nil (w : World) : Calls Tryz.prog 16 #[.pointer none] w fun e w' => e = .returned (.pointer none) ∧ w = w' := by
  go_enter Tryz.func16, Tryz.ntmps16
  go_wp2
  go_ret
  exact ⟨rfl, rfl⟩
theorem views_nil (w : World) : Calls Tryz.prog 15 #[.pointer none] w fun e w' => e = .returned (.slice none 0 0) ∧ w = w' := by
  go_enter Tryz.func15, Tryz.ntmps15
  go_wp2
  go_ret
  exact ⟨rfl, rfl⟩
theorem copy_nil (w : World) : Calls Tryz.prog 19 #[.pointer none] w fun e w' => e = .returned (.pointer none) ∧ w = w' := by
  go_enter Tryz.func19, Tryz.ntmps19
  go_wp2
  go_ret
  exact ⟨rfl, rfl⟩
set_option maxRecDepth 100000 in
set_option maxHeartbeats 1000000 in
/-- law 10 -/
theorem nil_any (k a n m : Int) (s t : ByteArray) (oa : Option Addr) (len c : Nat) (w : World) : Calls Tryz.prog 10 #[.agg #[.int .i64 k, .string s, .string t, .int .i64 a, .int .i64 n, .int .i64 m, .slice oa len c]] w fun e w' => e = .returned (.bool true) ∧ Below w.heap.size w w' := by
  obtain ⟨w1, hw1⟩ : ∃ z, z = w.alloc (.cells #[.int .i64 k, .string s, .string t, .int .i64 a, .int .i64 n, .int .i64 m, .slice oa len c] 25) := ⟨_, rfl⟩
  have hb1 : Below w.heap.size w w1 := by rw [hw1]; exact (Below.refl _ _).alloc (Nat.le_refl _) _
  have HD := hid (do_nil k a n m s t oa len c w1)
  have HE := hid hw1
  have HB := hid hb1
  clear hw1 hb1
  go_enter Tryz.func10, Tryz.ntmps10
  go_upto_region 3 with (go_at_call 14; rw [← HE.out]; refine HD.out.mono ?_; rintro e w2 ⟨rfl, hb2⟩)
  obtain ⟨w3, hw3⟩ : ∃ z, z = w2.alloc (.cells #[.int .i64 15, .slice none 0 0, .slice none 0 0, .slice none 0 0, .int .i64 0, .int .i64 0] 34) := ⟨_, rfl⟩
  have hb3 : Below w2.heap.size w2 w3 := by rw [hw3]; exact (Below.refl _ _).alloc (Nat.le_refl _) _
  have hq3 : w3.heap[w2.heap.size]? = some (.cells #[.int .i64 15, .slice none 0 0, .slice none 0 0, .slice none 0 0, .int .i64 0, .int .i64 0] 34 (0, 0)) := by rw [hw3]; exact alloc_new w2 _
  have z0 : w3.cell? ⟨w2.heap.size, 0, none⟩ = some (.int .i64 15) := by simp [World.cell?, hq3]
  clear hq3
  rw [← hw3]
  clear hw3
  have hlen1 : ∀ w', (Builtin.len_ #[35] 3 #[.slice none 0 0]).run Tryz.prog w' = .ok (.int .i64 ((0 : Nat) : Int)) w' := fun w' => len_sl Tryz.underlying35 rfl w'
  have hlen2 : ∀ w', (Builtin.len_ #[38] 3 #[.slice none 0 0]).run Tryz.prog w' = .ok (.int .i64 ((0 : Nat) : Int)) w' := fun w' => len_sl Tryz.underlying38 rfl w'
  go_wp2_with (first
    | (go_at_call 16; refine (kept_nil _).mono ?_; rintro e w4 ⟨rfl, rfl⟩)
    | (go_at_call 15; refine (views_nil _).mono ?_; rintro e w4 ⟨rfl, rfl⟩)
    | (go_at_call 19; refine (copy_nil _).mono ?_; rintro e w4 ⟨rfl, rfl⟩)
    | (go_at_call 12; refine (awake_any _).mono ?_; rintro e w4 ⟨rfl, hb4⟩))
  go_ret
  exact ⟨by simp, ((HB.out.trans (hb2.mono HB.out.size)).trans (hb3.mono (Nat.le_trans HB.out.size hb2.size))).trans (hb4.mono (Nat.le_trans HB.out.size (Nat.le_trans hb2.size hb3.size)))⟩
end Go.Proofs.YtgkabcaodnofnaaGreat
