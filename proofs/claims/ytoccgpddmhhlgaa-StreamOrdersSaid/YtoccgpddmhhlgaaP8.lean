import Derived.Test.YtoccgpddmhhlgaaW
import Derived.Deep.CutBlock
import Derived.Deep.OwnRows
import Derived.RegionTactic
namespace Go.Str
open Go.RowKit Go.Mx
set_option linter.unusedSimpArgs false
set_option linter.unusedVariables false

def zs (n : Nat) : List UInt8 := List.replicate n 0
/-- the streams of StreamOrders: a first record of k sectors at a, a second one -/
def duo (a k : Nat) (x : Int) (n : Nat) : Strm := ⟨false, (a : Int) + k + 5, [⟨a, zs (16 * k)⟩, ⟨x, zs n⟩]⟩
theorem zs_n (n : Nat) : (zs n).length = n := by simp [zs]
theorem duo_right (a k : Nat) (ha : a ≤ 255) (hk : 1 ≤ k ∧ k ≤ 20) : right (duo a k (a + k) 16) = true := by
  have h1 : (16 * k) / 16 = k := by omega
  have e1 : (Rec.mk (a : Int) (zs (16 * k))).n = k := by unfold Rec.n; rw [zs_n]; exact h1
  have e2 : (Rec.mk ((a : Int) + k) (zs 16)).n = 1 := by unfold Rec.n; rw [zs_n]
  simp only [right, duo, rightFrom, Bool.and_eq_true, decide_eq_true_eq, okR_iff, e1, e2, zs_n]
  simp only [and_true, true_and]
  exact ⟨decide_eq_true (by omega), by omega⟩
theorem duo_wrong (a k : Nat) (x : Int) (n : Nat) (hk : 1 ≤ k ∧ k ≤ 20) (h : x < (a : Int) + k ∨ (a : Int) + k + 5 ≤ x ∨ n % 16 ≠ 0 ∨ n = 0) : right (duo a k x n) = false := by
  have h1 : (16 * k) / 16 = k := by omega
  have e1 : (Rec.mk (a : Int) (zs (16 * k))).n = k := by unfold Rec.n; rw [zs_n]; exact h1
  have e2 : (Rec.mk x (zs n)).n = n / 16 := by unfold Rec.n; rw [zs_n]
  rw [Bool.eq_false_iff]
  intro hr
  simp only [right, duo, rightFrom, Bool.and_eq_true, decide_eq_true_eq, okR_iff, e1, e2, zs_n] at hr
  omega
def duoX (a k : Nat) : Strm := ⟨false, (a : Int) + k + 5, [⟨(a : Int) + k, zs 16⟩, ⟨a, zs (16 * k)⟩]⟩
theorem duoX_wrong (a k : Nat) (hk : 1 ≤ k ∧ k ≤ 20) : right (duoX a k) = false := by
  rw [Bool.eq_false_iff]
  intro hr
  simp only [right, duoX, rightFrom, Bool.and_eq_true, decide_eq_true_eq, okR_iff, Rec.n, zs_n] at hr
  omega
end Go.Str
namespace Go.Proofs.Ytoccgpddmhhlgaa
open Go.RowKit Go.Mx Go.Crc Go.Str
set_option linter.unusedSimpArgs false
set_option linter.unusedVariables false

theorem slR_two {w : World} {B rb : Nat} {x1 x2 : Int} {d1 d2 : Value} {l1 l2 : List UInt8} {fr : Nat × Nat} (h : w.heap[rb]? = some (.cells #[.int .i64 x1, d1, .int .i64 x2, d2] 47 fr)) (hb : rb < B) (h1 : SlB w B d1 l1) (h2 : SlB w B d2 l2) :
    SlR w B (.slice (some ⟨rb, 0, none⟩) 2 2) [⟨x1, l1⟩, ⟨x2, l2⟩] := by
  refine ⟨[[.int .i64 x1, d1], [.int .i64 x2, d2]], rfl, ⟨_, 2, rfl, by simp, by simp [maxLen], fun _ => ⟨rb, 0, rfl, hb, ?_⟩⟩, ?_⟩
  · intro i hi j v hv
    match i, hi with
    | 0, _ =>
      match j with
      | 0 => simp at hv; subst hv; simp [World.cell?, h]
      | 1 => simp at hv; subst hv; simp [World.cell?, h]
      | j + 2 => simp at hv
    | 1, _ =>
      match j with
      | 0 => simp at hv; subst hv; simp [World.cell?, h]
      | 1 => simp at hv; subst hv; simp [World.cell?, h]
      | j + 2 => simp at hv
    | i + 2, hi => exact absurd hi (by simp)
  · intro i hi
    match i, hi with
    | 0, _ => exact ⟨d1, rfl, h1⟩
    | 1, _ => exact ⟨d2, rfl, h2⟩
    | i + 2, hi => exact absurd hi (by simp)
theorem zs_slB {w : World} {B d n : Nat} {fr : Nat × Nat} (h : w.heap[d]? = some (.cells (madeCells #[.int .u8 0] n) 5 fr)) (hb : d < B) (hn : n ≤ maxLen) : SlB w B (.slice (some ⟨d, 0, none⟩) n n) (zs n) := by
  refine ⟨_, n, by rw [zs_n], by rw [zs_n]; exact Nat.le_refl _, hn, fun _ => ⟨d, 0, rfl, hb, ?_⟩⟩
  intro i hi
  rw [zs_n] at hi
  have e : (madeCells #[Value.int .u8 0] n)[i]? = some (.int .u8 0) := by
    rw [← Array.getElem?_toList, toList_madeCells_one]
    simp [List.getElem?_replicate, hi]
  have e2 : (zs n).getD i 0 = 0 := by simp [zs, List.getD_eq_getElem?_getD, hi]
  rw [e2]
  simp [World.cell?, h, e, Mx.u8]

/-- the world of StreamOrders behind its building: stream block q, row block rb, first record's block p, data blocks d1, d2 -/
structure Duo (w W : World) (a k p q rb d1 d2 : Nat) : Prop where
  hp : W.heap[p]? = some (.cells #[.int .i64 a, .slice (some ⟨d1, 0, none⟩) (16 * k) (16 * k)] 47 (0, 0))
  hq : W.heap[q]? = some (.cells #[.bool false, .int .i64 ((a : Int) + k + 5), .slice (some ⟨rb, 0, none⟩) 2 2] 39 (0, 0))
  hr : W.heap[rb]? = some (.cells #[.int .i64 a, .slice (some ⟨d1, 0, none⟩) (16 * k) (16 * k), .int .i64 ((a : Int) + k), .slice (some ⟨d2, 0, none⟩) 16 16] 47 (0, 0))
  h1 : W.heap[d1]? = some (.cells (madeCells #[.int .u8 0] (16 * k)) 5 (0, 0))
  h2 : W.heap[d2]? = some (.cells (madeCells #[.int .u8 0] 16) 5 (0, 0))
  low : w.heap.size ≤ p ∧ w.heap.size ≤ q ∧ w.heap.size ≤ rb ∧ w.heap.size ≤ d1 ∧ w.heap.size ≤ d2 ∧ p ≠ rb
  bel : Below w.heap.size w W
theorem aN {w : World} {o : Obj} {i : Nat} (h : i = w.heap.size) : (w.alloc o).heap[i]? = some o := by subst h; exact alloc_new w o
theorem aO {w : World} {o x : Obj} {i : Nat} (h : i < w.heap.size) (e : w.heap[i]? = some x) : (w.alloc o).heap[i]? = some x := (Below.heap_alloc w o i h).trans e
theorem duo1 (w : World) (a k : Nat) : Duo w ((((((w.alloc (.cells (madeCells #[.int .u8 0] (16 * k)) 5)).alloc (.cells #[.int .i64 a, .slice (some ⟨w.heap.size, 0, none⟩) (16 * k) (16 * k)] 47)).alloc (.cells (madeCells #[.int .u8 0] 16) 5)).alloc
    (.cells #[.int .i64 a, .slice (some ⟨w.heap.size, 0, none⟩) (16 * k) (16 * k), .int .i64 ((a : Int) + k), .slice (some ⟨w.heap.size + 1 + 1, 0, none⟩) 16 16] 47)).alloc
    (.cells #[.bool false, .int .i64 ((a : Int) + k + 5), .slice (some ⟨w.heap.size + 1 + 1 + 1, 0, none⟩) 2 2] 39)).drew) a k (w.heap.size + 1) (w.heap.size + 1 + 1 + 1 + 1) (w.heap.size + 1 + 1 + 1) w.heap.size (w.heap.size + 1 + 1) := by
  refine ⟨?_, ?_, ?_, ?_, ?_, by omega, ?_⟩
  · exact aO (by simp only [World.alloc, Array.size_push]; omega) (aO (by simp only [World.alloc, Array.size_push]; omega) (aO (by simp only [World.alloc, Array.size_push]; omega) (aN (by simp only [World.alloc, Array.size_push]))))
  · exact aN (by simp only [World.alloc, Array.size_push])
  · exact aO (by simp only [World.alloc, Array.size_push]; omega) (aN (by simp only [World.alloc, Array.size_push]))
  · exact aO (by simp only [World.alloc, Array.size_push]; omega) (aO (by simp only [World.alloc, Array.size_push]; omega) (aO (by simp only [World.alloc, Array.size_push]; omega) (aO (by simp only [World.alloc, Array.size_push]; omega) (aN (by simp only [World.alloc, Array.size_push])))))
  · exact aO (by simp only [World.alloc, Array.size_push]; omega) (aO (by simp only [World.alloc, Array.size_push]; omega) (aN (by simp only [World.alloc, Array.size_push])))
  · refine Below.drew (Below.alloc (Below.alloc (Below.alloc (Below.alloc (Below.alloc (Below.refl _ _) (Nat.le_refl _) _) ?_ _) ?_ _) ?_ _) ?_ _)
    all_goals (simp only [World.alloc, Array.size_push]; omega)
theorem duo2 (w : World) (a k : Nat) : Duo w ((((((w.alloc (.cells (madeCells #[.int .u8 0] (16 * k)) 5)).alloc (.cells #[.int .i64 a, .slice (some ⟨w.heap.size, 0, none⟩) (16 * k) (16 * k)] 47)).alloc (.cells (madeCells #[.int .u8 0] 16) 5)).alloc
    (.cells #[.bool false, .int .i64 ((a : Int) + k + 5), .slice (some ⟨w.heap.size + 1 + 1 + 1 + 1, 0, none⟩) 2 2] 39)).alloc
    (.cells #[.int .i64 a, .slice (some ⟨w.heap.size, 0, none⟩) (16 * k) (16 * k), .int .i64 ((a : Int) + k), .slice (some ⟨w.heap.size + 1 + 1, 0, none⟩) 16 16] 47)).drew) a k (w.heap.size + 1) (w.heap.size + 1 + 1 + 1) (w.heap.size + 1 + 1 + 1 + 1) w.heap.size (w.heap.size + 1 + 1) := by
  refine ⟨?_, ?_, ?_, ?_, ?_, by omega, ?_⟩
  · exact aO (by simp only [World.alloc, Array.size_push]; omega) (aO (by simp only [World.alloc, Array.size_push]; omega) (aO (by simp only [World.alloc, Array.size_push]; omega) (aN (by simp only [World.alloc, Array.size_push]))))
  · exact aO (by simp only [World.alloc, Array.size_push]; omega) (aN (by simp only [World.alloc, Array.size_push]))
  · exact aN (by simp only [World.alloc, Array.size_push])
  · exact aO (by simp only [World.alloc, Array.size_push]; omega) (aO (by simp only [World.alloc, Array.size_push]; omega) (aO (by simp only [World.alloc, Array.size_push]; omega) (aO (by simp only [World.alloc, Array.size_push]; omega) (aN (by simp only [World.alloc, Array.size_push])))))
  · exact aO (by simp only [World.alloc, Array.size_push]; omega) (aO (by simp only [World.alloc, Array.size_push]; omega) (aN (by simp only [World.alloc, Array.size_push])))
  · refine Below.drew (Below.alloc (Below.alloc (Below.alloc (Below.alloc (Below.alloc (Below.refl _ _) (Nat.le_refl _) _) ?_ _) ?_ _) ?_ _) ?_ _)
    all_goals (simp only [World.alloc, Array.size_push]; omega)
theorem blkLt {w : World} {i : Nat} {x : Obj} (h : w.heap[i]? = some x) : i < w.heap.size := by
  rcases Nat.lt_or_ge i w.heap.size with h' | h'
  · exact h'
  · rw [Array.getElem?_eq_none h'] at h; cases h
theorem duo3 (w : World) (a k : Nat) : Duo w ((((((w.alloc (.cells (madeCells #[.int .u8 0] (16 * k)) 5)).alloc (.cells #[.int .i64 a, .slice (some ⟨w.heap.size, 0, none⟩) (16 * k) (16 * k)] 47)).alloc
    (.cells #[.bool false, .int .i64 ((a : Int) + k + 5), .slice (some ⟨w.heap.size + 1 + 1 + 1 + 1, 0, none⟩) 2 2] 39)).alloc (.cells (madeCells #[.int .u8 0] 16) 5)).alloc
    (.cells #[.int .i64 a, .slice (some ⟨w.heap.size, 0, none⟩) (16 * k) (16 * k), .int .i64 ((a : Int) + k), .slice (some ⟨w.heap.size + 1 + 1 + 1, 0, none⟩) 16 16] 47)).drew) a k (w.heap.size + 1) (w.heap.size + 1 + 1) (w.heap.size + 1 + 1 + 1 + 1) w.heap.size (w.heap.size + 1 + 1 + 1) := by
  refine ⟨?_, ?_, ?_, ?_, ?_, by omega, ?_⟩
  · exact aO (by simp only [World.alloc, Array.size_push]; omega) (aO (by simp only [World.alloc, Array.size_push]; omega) (aO (by simp only [World.alloc, Array.size_push]; omega) (aN (by simp only [World.alloc, Array.size_push]))))
  · exact aO (by simp only [World.alloc, Array.size_push]; omega) (aO (by simp only [World.alloc, Array.size_push]; omega) (aN (by simp only [World.alloc, Array.size_push])))
  · exact aN (by simp only [World.alloc, Array.size_push])
  · exact aO (by simp only [World.alloc, Array.size_push]; omega) (aO (by simp only [World.alloc, Array.size_push]; omega) (aO (by simp only [World.alloc, Array.size_push]; omega) (aO (by simp only [World.alloc, Array.size_push]; omega) (aN (by simp only [World.alloc, Array.size_push])))))
  · exact aO (by simp only [World.alloc, Array.size_push]; omega) (aN (by simp only [World.alloc, Array.size_push]))
  · refine Below.drew (Below.alloc (Below.alloc (Below.alloc (Below.alloc (Below.alloc (Below.refl _ _) (Nat.le_refl _) _) ?_ _) ?_ _) ?_ _) ?_ _)
    all_goals (simp only [World.alloc, Array.size_push]; omega)
section
variable {w W W' : World} {a k p q rb d1 d2 : Nat}
theorem Duo.step (h : Duo w W a k p q rb d1 d2) (hb : Below W.heap.size W W') : Duo w W' a k p q rb d1 d2 := by
  have g : ∀ {i : Nat} {x : Obj}, W.heap[i]? = some x → W'.heap[i]? = some x := fun {i x} e => (hb.block i (blkLt e)).trans e
  exact ⟨g h.hp, g h.hq, g h.hr, g h.h1, g h.h2, h.low, h.bel.trans (hb.mono h.bel.size)⟩
theorem Duo.slR (h : Duo w W a k p q rb d1 d2) (hk : 1 ≤ k ∧ k ≤ 20) : SlR W W.heap.size (.slice (some ⟨rb, 0, none⟩) 2 2) (duo a k ((a : Int) + k) 16).recs :=
  slR_two h.hr (blkLt h.hr) (zs_slB h.h1 (blkLt h.h1) (by unfold maxLen; omega)) (zs_slB h.h2 (blkLt h.h2) (by unfold maxLen; omega))
theorem Duo.qcells (h : Duo w W a k p q rb d1 d2) : W.cell? ⟨q, 0, none⟩ = some (.bool false) ∧ W.cell? ⟨q, 1, none⟩ = some (.int .i64 ((a : Int) + k + 5)) ∧ W.cell? ⟨q, 2, none⟩ = some (.slice (some ⟨rb, 0, none⟩) 2 2) := by
  refine ⟨?_, ?_, ?_⟩ <;> simp [World.cell?, h.hq]
theorem Duo.rcells (h : Duo w W a k p q rb d1 d2) : W.cell? ⟨rb, 2, none⟩ = some (.int .i64 ((a : Int) + k)) ∧ W.cell? ⟨rb, 3, none⟩ = some (.slice (some ⟨d2, 0, none⟩) 16 16) ∧ W.cell? ⟨p, 0, none⟩ = some (.int .i64 a) ∧ W.cell? ⟨p, 1, none⟩ = some (.slice (some ⟨d1, 0, none⟩) (16 * k) (16 * k)) := by
  refine ⟨?_, ?_, ?_, ?_⟩ <;> simp [World.cell?, h.hr, h.hp]
theorem Duo.fz (h : Duo w W a k p q rb d1 d2) (i : Nat) : W.frozen? ⟨rb, i, none⟩ = false ∧ W.frozen? ⟨q, i, none⟩ = false := by
  constructor <;> simp [World.frozen?, h.hr, h.hq]
/-- what the tail wants: the stream's block and its records -/
structure Bad (w W : World) (a k q : Nat) (rv : Value) (rs : List Rec) : Prop where
  hq : W.heap[q]? = some (.cells #[.bool false, .int .i64 ((a : Int) + k + 5), rv] 39 (0, 0))
  sl : SlR W W.heap.size rv rs
  wr : right ⟨false, (a : Int) + k + 5, rs⟩ = false
  bel : Below w.heap.size w W
theorem Bad.step {rv : Value} {rs : List Rec} (h : Bad w W a k q rv rs) (hb : Below W.heap.size W W') : Bad w W' a k q rv rs :=
  ⟨(hb.block _ (blkLt h.hq)).trans h.hq, (h.sl.below hb (Nat.le_refl _)).mono hb.size, h.wr, h.bel.trans (hb.mono h.bel.size)⟩
theorem Bad.cells {rv : Value} {rs : List Rec} (h : Bad w W a k q rv rs) : W.cell? ⟨q, 0, none⟩ = some (.bool false) ∧ W.cell? ⟨q, 1, none⟩ = some (.int .i64 ((a : Int) + k + 5)) ∧ W.cell? ⟨q, 2, none⟩ = some rv := by
  refine ⟨?_, ?_, ?_⟩ <;> simp [World.cell?, h.hq]
theorem Duo.at (h : Duo w W a k p q rb d1 d2) (hk : 1 ≤ k ∧ k ≤ 20) (x : Int) (hx : x < (a : Int) + k ∨ (a : Int) + k + 5 ≤ x) :
    Bad w (W.setCell ⟨rb, 2, none⟩ (.int .i64 x)) a k q (.slice (some ⟨rb, 0, none⟩) 2 2) [⟨a, zs (16 * k)⟩, ⟨x, zs 16⟩] := by
  have n1 : ∀ {i : Nat} {y : Obj}, W.heap[i]? = some y → i ≠ rb → (W.setCell ⟨rb, 2, none⟩ (.int .i64 x)).heap[i]? = some y := fun {i y} e hn => (Below.heap_setCell W ⟨rb, 2, none⟩ _ i hn).trans e
  have hs : (W.setCell ⟨rb, 2, none⟩ (.int .i64 x)).heap.size = W.heap.size := by simp [World.setCell]
  have e1 : d1 ≠ rb := by rintro rfl; have := h.h1; rw [h.hr] at this; exact absurd this (by simp)
  have e2 : d2 ≠ rb := by rintro rfl; have := h.h2; rw [h.hr] at this; exact absurd this (by simp)
  have e3 : q ≠ rb := by rintro rfl; have := h.hq; rw [h.hr] at this; exact absurd this (by simp)
  refine ⟨n1 h.hq e3, ?_, duo_wrong a k x 16 hk (by omega), h.bel.setCell (p := ⟨rb, 2, none⟩) h.low.2.2.1 _⟩
  rw [hs]
  refine slR_two (fr := (0, 0)) (d1 := .slice (some ⟨d1, 0, none⟩) (16 * k) (16 * k)) (d2 := .slice (some ⟨d2, 0, none⟩) 16 16) ?_ (blkLt h.hr) (zs_slB (n1 h.h1 e1) (blkLt h.h1) (by unfold maxLen; omega)) (zs_slB (n1 h.h2 e2) (blkLt h.h2) (by unfold maxLen; omega))
  have := heap_setCell_at W rb 2 (.int .i64 x) _ 47 (0, 0) h.hr
  simpa using this
theorem Duo.dat (h : Duo w W a k p q rb d1 d2) (hk : 1 ≤ k ∧ k ≤ 20) (d3 m : Nat) (h3 : W.heap[d3]? = some (.cells (madeCells #[.int .u8 0] m) 5 (0, 0))) (hm : m % 16 ≠ 0) (hx : m ≤ 31) :
    Bad w (W.setCell ⟨rb, 3, none⟩ (.slice (some ⟨d3, 0, none⟩) m m)) a k q (.slice (some ⟨rb, 0, none⟩) 2 2) [⟨a, zs (16 * k)⟩, ⟨(a : Int) + k, zs m⟩] := by
  have n1 : ∀ {i : Nat} {y : Obj}, W.heap[i]? = some y → i ≠ rb → (W.setCell ⟨rb, 3, none⟩ (.slice (some ⟨d3, 0, none⟩) m m)).heap[i]? = some y := fun {i y} e hn => (Below.heap_setCell W ⟨rb, 3, none⟩ _ i hn).trans e
  have hs : (W.setCell ⟨rb, 3, none⟩ (.slice (some ⟨d3, 0, none⟩) m m)).heap.size = W.heap.size := by simp [World.setCell]
  have e1 : d1 ≠ rb := by rintro rfl; have := h.h1; rw [h.hr] at this; exact absurd this (by simp)
  have e2 : d3 ≠ rb := by rintro rfl; have := h3; rw [h.hr] at this; exact absurd this (by simp)
  have e3 : q ≠ rb := by rintro rfl; have := h.hq; rw [h.hr] at this; exact absurd this (by simp)
  refine ⟨n1 h.hq e3, ?_, duo_wrong a k _ m hk (by omega), h.bel.setCell (p := ⟨rb, 3, none⟩) h.low.2.2.1 _⟩
  rw [hs]
  refine slR_two (fr := (0, 0)) (d1 := .slice (some ⟨d1, 0, none⟩) (16 * k) (16 * k)) (d2 := .slice (some ⟨d3, 0, none⟩) m m) ?_ (blkLt h.hr) (zs_slB (n1 h.h1 e1) (blkLt h.h1) (by unfold maxLen; omega)) (zs_slB (n1 h3 e2) (blkLt h3) (by unfold maxLen; omega))
  have := heap_setCell_at W rb 3 (.slice (some ⟨d3, 0, none⟩) m m) _ 47 (0, 0) h.hr
  simpa using this
theorem Duo.nil (h : Duo w W a k p q rb d1 d2) (hk : 1 ≤ k ∧ k ≤ 20) :
    Bad w (W.setCell ⟨rb, 3, none⟩ (.slice none 0 0)) a k q (.slice (some ⟨rb, 0, none⟩) 2 2) [⟨a, zs (16 * k)⟩, ⟨(a : Int) + k, zs 0⟩] := by
  have n1 : ∀ {i : Nat} {y : Obj}, W.heap[i]? = some y → i ≠ rb → (W.setCell ⟨rb, 3, none⟩ (.slice none 0 0)).heap[i]? = some y := fun {i y} e hn => (Below.heap_setCell W ⟨rb, 3, none⟩ _ i hn).trans e
  have hs : (W.setCell ⟨rb, 3, none⟩ (.slice none 0 0)).heap.size = W.heap.size := by simp [World.setCell]
  have e1 : d1 ≠ rb := by rintro rfl; have := h.h1; rw [h.hr] at this; exact absurd this (by simp)
  have e3 : q ≠ rb := by rintro rfl; have := h.hq; rw [h.hr] at this; exact absurd this (by simp)
  refine ⟨n1 h.hq e3, ?_, duo_wrong a k _ 0 hk (by omega), h.bel.setCell (p := ⟨rb, 3, none⟩) h.low.2.2.1 _⟩
  rw [hs]
  refine slR_two (fr := (0, 0)) (d1 := .slice (some ⟨d1, 0, none⟩) (16 * k) (16 * k)) (d2 := .slice none 0 0) ?_ (blkLt h.hr) (zs_slB (n1 h.h1 e1) (blkLt h.h1) (by unfold maxLen; omega)) (SlB.nil _ _)
  have := heap_setCell_at W rb 3 (.slice none 0 0) _ 47 (0, 0) h.hr
  simpa using this
theorem Duo.swap (h : Duo w W a k p q rb d1 d2) (hk : 1 ≤ k ∧ k ≤ 20) :
    Bad w ((W.alloc (.cells #[.int .i64 ((a : Int) + k), .slice (some ⟨d2, 0, none⟩) 16 16, .int .i64 a, .slice (some ⟨d1, 0, none⟩) (16 * k) (16 * k)] 47)).setCell ⟨q, 2, none⟩ (.slice (some ⟨W.heap.size, 0, none⟩) 2 2)) a k q (.slice (some ⟨W.heap.size, 0, none⟩) 2 2) [⟨(a : Int) + k, zs 16⟩, ⟨a, zs (16 * k)⟩] := by
  obtain ⟨V, hV⟩ : ∃ V, V = W.alloc (.cells #[.int .i64 ((a : Int) + k), .slice (some ⟨d2, 0, none⟩) 16 16, .int .i64 a, .slice (some ⟨d1, 0, none⟩) (16 * k) (16 * k)] 47) := ⟨_, rfl⟩
  have hn : V.heap[W.heap.size]? = some (.cells #[.int .i64 ((a : Int) + k), .slice (some ⟨d2, 0, none⟩) 16 16, .int .i64 a, .slice (some ⟨d1, 0, none⟩) (16 * k) (16 * k)] 47 (0, 0)) := by rw [hV]; exact alloc_new W _
  have hb : Below W.heap.size W V := by rw [hV]; exact (Below.refl _ _).alloc (Nat.le_refl _) _
  have D := h.step hb
  rw [← hV]
  obtain ⟨nb, hnb⟩ : ∃ nb, nb = W.heap.size := ⟨_, rfl⟩
  rw [← hnb] at hn ⊢
  have n1 : ∀ {i : Nat} {y : Obj}, V.heap[i]? = some y → i ≠ q → (V.setCell ⟨q, 2, none⟩ (.slice (some ⟨nb, 0, none⟩) 2 2)).heap[i]? = some y := fun {i y} e hn => (Below.heap_setCell V ⟨q, 2, none⟩ _ i hn).trans e
  have hs : (V.setCell ⟨q, 2, none⟩ (.slice (some ⟨nb, 0, none⟩) 2 2)).heap.size = V.heap.size := by simp [World.setCell]
  have e1 : d1 ≠ q := by rintro rfl; have := D.h1; rw [D.hq] at this; exact absurd this (by simp)
  have e2 : d2 ≠ q := by rintro rfl; have := D.h2; rw [D.hq] at this; exact absurd this (by simp)
  have e3 : nb ≠ q := by rintro rfl; rw [D.hq] at hn; exact absurd hn (by simp)
  refine ⟨?_, ?_, duoX_wrong a k hk, D.bel.setCell (p := ⟨q, 2, none⟩) D.low.2.1 _⟩
  · have := heap_setCell_at V q 2 (.slice (some ⟨nb, 0, none⟩) 2 2) _ 39 (0, 0) D.hq
    simpa using this
  · rw [hs]
    exact slR_two (fr := (0, 0)) (n1 hn e3) (blkLt hn) (zs_slB (n1 D.h2 e2) (blkLt D.h2) (by unfold maxLen; omega)) (zs_slB (n1 D.h1 e1) (blkLt D.h1) (by unfold maxLen; omega))
theorem Bad.drew {rv : Value} {rs : List Rec} (h : Bad w W a k q rv rs) : Bad w W.drew a k q rv rs := ⟨h.hq, h.sl.below (Below.refl _ _).drew (Nat.le_refl _), h.wr, h.bel.drew⟩
end
set_option maxRecDepth 100000 in
set_option maxHeartbeats 4000000 in
theorem orders_any (a0 n0 l0 c0 : Int) (w : World) (ha : 0 ≤ a0 ∧ a0 ≤ 255) (hn : 0 ≤ n0 ∧ n0 ≤ 255) (hl : 0 ≤ l0 ∧ l0 ≤ 255) (hc : 0 ≤ c0 ∧ c0 ≤ 255) :
    Calls Try.prog 8 #[.int .u8 a0, .int .u8 n0, .int .u8 l0, .int .u8 c0] w fun e w' => e = .returned (.bool true) ∧ Below w.heap.size w w' := by
  obtain ⟨a, rfl⟩ := Int.eq_ofNat_of_zero_le ha.1
  obtain ⟨n, rfl⟩ := Int.eq_ofNat_of_zero_le hn.1
  obtain ⟨l, rfl⟩ := Int.eq_ofNat_of_zero_le hl.1
  obtain ⟨c, rfl⟩ := Int.eq_ofNat_of_zero_le hc.1
  obtain ⟨k, hk⟩ : ∃ k : Nat, (k : Int) = 1 + (n : Int) % 20 := ⟨1 + n % 20, by omega⟩
  have hkr : 1 ≤ k ∧ k ≤ 20 := by omega
  have hk' : (1 + (n : Int) % 20) = k := hk.symm
  have e16 : ((16 * k : Nat) : Int) = 16 * (k : Int) := by omega
  have hmk := run_make_row' (P := Try.prog) 25 5 (.int .u8 0) 1 Try.underlying25 Try.info5 rfl .i64 .i64 (16 * k) (by omega) (by omega)
  rw [e16] at hmk
  clear e16 hk
  have hmk16 : ∀ w : World, (Instr.makeSlice 25 (.int .i64 16) (.int .i64 16)).run Try.prog w = .ok (.slice (some ⟨w.heap.size, 0, none⟩) 16 16) (w.alloc (.cells (madeCells #[.int .u8 0] 16) 5)) :=
    run_make_row' (P := Try.prog) 25 5 (.int .u8 0) 1 Try.underlying25 Try.info5 rfl .i64 .i64 16 (by omega) (by omega)
  go_enter Try.func8, Try.ntmps8
  go_upto_region 4 with (fail)
  go_cut [13] from 31 (fun v wr => ∃ q rb d2, v = .pointer (some ⟨q, 0, none⟩) ∧ Duo w wr a k (w.heap.size + 1) q rb w.heap.size d2)
  case first =>
    go_region
    all_goals (go_wp2_with fail)
    all_goals go_meet
    case rel => exact ⟨_, w.heap.size + 1 + 1 + 1, w.heap.size + 1 + 1, rfl, duo1 w a k⟩
    case rel => exact ⟨_, w.heap.size + 1 + 1 + 1 + 1, w.heap.size + 1 + 1, rfl, duo2 w a k⟩
    case rel => exact ⟨_, w.heap.size + 1 + 1 + 1 + 1, w.heap.size + 1 + 1 + 1, rfl, duo3 w a k⟩
  case rest =>
    obtain ⟨q, rb, d2, rfl, D⟩ := hcut
    clear hmk hmk16
    have HR : Hid (Calls Try.prog 23 #[.agg #[.bool false, .int .i64 ((a : Int) + k + 5), .slice (some ⟨rb, 0, none⟩) 2 2]] wc fun e w' => e = .returned (.bool true) ∧ Below wc.heap.size wc w') := by
      have h := right_any (duo a k ((a : Int) + k) 16) _ wc (D.slR hkr)
      rw [duo_right a k (by omega) hkr] at h
      exact hid h
    obtain ⟨q0, q1, q2⟩ := D.qcells
    have HD := hid D
    clear D
    go_wp2_with fail
    refine HR.out.mono ?_
    rintro e w2 ⟨rfl, hb2⟩
    have D2 := HD.out.step hb2
    clear HR HD hb2 q0 q1 q2
    have HD2 := hid D2
    obtain ⟨q0, q1, q2⟩ := D2.qcells
    obtain ⟨r2, r3, p0, p1⟩ := D2.rcells
    clear D2
    go_upto_block 0 with (fail)
    go_cut [13] from 43 (fun v wr => ∃ q rv rs, v = .pointer (some ⟨q, 0, none⟩) ∧ Bad w wr a k q rv rs)
    case first =>
      have hcc : c % 5 = 0 ∨ c % 5 = 1 ∨ c % 5 = 2 ∨ c % 5 = 3 ∨ c % 5 = 4 := by omega
      rcases hcc with h | h | h | h | h
      · have e5 : (c : Int) % 5 = 0 := by omega
        have hfz := (HD2.out.fz 2).1
        have HB := hid (HD2.out.at hkr ((a : Int) + k - 1) (by omega))
        clear HD2 p0 p1
        go_wp2_with fail
        go_meet
        case rel => exact ⟨_, _, _, rfl, HB.out⟩
      · have e5 : (c : Int) % 5 = 1 := by omega
        have hfz := (HD2.out.fz 2).1
        have HB := hid (HD2.out.at hkr ((a : Int) + k + 5) (by omega))
        clear HD2 p0 p1
        go_wp2_with fail
        go_meet
        case rel => exact ⟨_, _, _, rfl, HB.out⟩
      · have e5 : (c : Int) % 5 = 2 := by omega
        have hfz := (HD2.out.fz 3).1
        have HB := hid (HD2.out.nil hkr)
        clear HD2 p0 p1
        go_wp2_with fail
        go_meet
        case rel => exact ⟨_, _, _, rfl, HB.out⟩
      · have e5 : (c : Int) % 5 = 3 := by omega
        obtain ⟨m, hm⟩ : ∃ m : Nat, 17 + (l : Int) % 15 = (m : Int) := ⟨17 + l % 15, by omega⟩
        have hmr : 17 ≤ m ∧ m ≤ 31 := by omega
        have hmk := run_make_row' (P := Try.prog) 25 5 (.int .u8 0) 1 Try.underlying25 Try.info5 rfl .i64 .i64 m (by omega) (by omega)
        have D3 := HD2.out.step ((Below.refl w2.heap.size w2).alloc (Nat.le_refl _) (.cells (madeCells #[.int .u8 0] m) 5))
        have hfz := (D3.fz 3).1
        obtain ⟨t0, t1, t2⟩ := D3.qcells
        obtain ⟨-, t3, -, -⟩ := D3.rcells
        have hfz2 := (HD2.out.fz 3).1
        clear D3
        have HB := hid ((HD2.out.step ((Below.refl w2.heap.size w2).alloc (Nat.le_refl _) (.cells (madeCells #[.int .u8 0] m) 5))).dat hkr w2.heap.size m (alloc_new w2 _) (by omega) hmr.2).drew
        clear HD2
        go_wp2_with fail
        go_region
        all_goals (go_wp2_with fail)
        all_goals go_meet
        all_goals (case rel => exact ⟨_, _, _, rfl, HB.out⟩)
      · have e5 : (c : Int) % 5 = 4 := by omega
        have D3 := HD2.out.step ((Below.refl w2.heap.size w2).alloc (Nat.le_refl _) (.cells #[.int .i64 ((a : Int) + k), .slice (some ⟨d2, 0, none⟩) 16 16, .int .i64 a, .slice (some ⟨w.heap.size, 0, none⟩) (16 * k) (16 * k)] 47))
        have hfz := (D3.fz 2).2
        obtain ⟨t0, t1, t2⟩ := D3.qcells
        clear D3
        have HB := hid (HD2.out.swap hkr).drew
        clear HD2
        go_wp2_with fail
        go_region
        all_goals (go_wp2_with fail)
        all_goals go_meet
        all_goals (case rel => exact ⟨_, _, _, rfl, HB.out⟩)
    case rest =>
      clear HD2 q0 q1 q2 r2 r3 p0 p1
      obtain ⟨q2', rv, rs, rfl, B⟩ := hcut
      have HC : Hid (Calls Try.prog 21 #[.agg #[.bool false, .int .i64 ((a : Int) + k + 5), rv]] wc fun e w' => ∃ v, e = .returned (.tuple #[v, .int .i64 1]) ∧ OwnB w' wc.heap.size 5 v [] ∧ Below wc.heap.size wc w') := by
        have h := sput_any ⟨false, (a : Int) + k + 5, rs⟩ rv wc B.sl
        rw [show putR ⟨false, (a : Int) + k + 5, rs⟩ = ([], 1) by unfold putR; rw [B.wr]; rfl] at h
        exact hid h
      obtain ⟨s0, s1, s2⟩ := B.cells
      have HB := hid B
      clear B
      go_wp2_with fail
      refine HC.out.mono ?_
      rintro e w4 ⟨v, rfl, ho, hb4⟩
      have B4 := HB.out.step hb4
      have hlen := fun w' => ho.slB.len (P := Try.prog) (ty := 3) Try.underlying25 w'
      have HR : Hid (Calls Try.prog 23 #[.agg #[.bool false, .int .i64 ((a : Int) + k + 5), rv]] w4 fun e w' => e = .returned (.bool false) ∧ Below w4.heap.size w4 w') := by
        have h := right_any ⟨false, (a : Int) + k + 5, rs⟩ rv w4 B4.sl
        rw [B4.wr] at h
        exact hid h
      clear s0 s1 s2
      obtain ⟨s0, s1, s2⟩ := B4.cells
      have HB4 := hid B4.bel
      clear HC HB hb4 ho B4
      go_wp2_with fail
      refine HR.out.mono ?_
      rintro e w5 ⟨rfl, hb5⟩
      have HB5 := hid (HB4.out.trans (hb5.mono HB4.out.size))
      clear HR HB4 hb5 s0 s1 s2
      go_wp2_with (first
        | (go_at_call 25; refine (snumE_any _ _).mono ?_; rintro e w' ⟨rfl, rfl⟩)
        | (go_at_call 20; refine (awake_any _).mono ?_; rintro e w9 ⟨rfl, hb9⟩))
      go_ret
      exact ⟨rfl, HB5.out.trans (hb9.mono HB5.out.size)⟩
end Go.Proofs.Ytoccgpddmhhlgaa
