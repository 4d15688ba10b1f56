import Derived.Test.YtpgdncpomacghaaY
import Derived.Test.YtpgdncpomacghaaS4
namespace Go.Proofs.Ytpgdncpomacghaa
open Go.RowKit Go.Mx Go.Cnt Go.Shelf

theorem getM_good (t : Tab) (h : TabP t) (k : Nat) (hr : isR (getM t k) = true) : GoodE (getM t k) := by
  unfold getM at hr ⊢
  by_cases h1 : k / 8 < t.length
  · by_cases h2 : k % 8 < (t.getD (k / 8) []).length
    · exact h _ h1 _ h2 hr
    · exfalso
      rw [List.getD_eq_getElem?_getD, List.getElem?_eq_none (by omega)] at hr
      simp [isR, Ent.zero] at hr
  · exfalso
    rw [List.getD_eq_getElem?_getD (l := t), List.getElem?_eq_none (by omega)] at hr
    simp [isR, Ent.zero] at hr

theorem linesT_good (sh : Int) (t : Tab) (h : TabP t) (x : Lin) (hx : x ∈ linesT sh t) : GoodE x.e := by
  unfold linesT linesTo at hx
  rw [List.mem_map] at hx
  obtain ⟨k, hk, rfl⟩ := hx
  rw [List.mem_filter] at hk
  exact getM_good t h k hk.2

theorem eachM_good (m : MetaM) (h : MetaP m) (i : Nat) (hi : i < (eachM m.t m.ss).length) : GoodE ((eachM m.t m.ss).getD i default).e := by
  have hx : (eachM m.t m.ss).getD i default ∈ eachM m.t m.ss := by
    rw [List.getD_eq_getElem?_getD, List.getElem?_eq_getElem hi]; exact List.getElem_mem _
  obtain ⟨x, hxx⟩ : ∃ x, x = (eachM m.t m.ss).getD i default := ⟨_, rfl⟩
  rw [← hxx] at hx ⊢
  unfold eachM eachTo at hx
  rw [List.mem_append] at hx
  rcases hx with hx | hx
  · exact linesT_good _ _ h.1 _ hx
  · rw [List.mem_flatMap] at hx
    obtain ⟨k, hk, hx⟩ := hx
    exact linesT_good _ _ (h.2 k (List.mem_range.1 hk)) _ hx

/-- a boxed meta, with all that it leads to below the heap's end -/
structure Bx (w : World) (B : Nat) (m : MetaM) (tv sv mv cv : Value) : Prop where
  at_ : w.heap[B]? = some (.cells #[.int .i64 m.cl, .int .i64 m.sz, .string ⟨m.bk.toArray⟩, tv, sv, mv, cv] 29 (0, 0))
  is : IsMeta w w.heap.size m tv sv mv cv
theorem Bx.step {w w' : World} {B : Nat} {m : MetaM} {tv sv mv cv : Value} (h : Bx w B m tv sv mv cv) (hb : Below w.heap.size w w') : Bx w' B m tv sv mv cv :=
  ⟨(hb.block B (Array.getElem?_eq_some_iff.1 h.at_).1).trans h.at_, (h.is.below hb (Nat.le_refl _)).mono hb.size⟩
theorem Bx.lt {w : World} {B : Nat} {m : MetaM} {tv sv mv cv : Value} (h : Bx w B m tv sv mv cv) : B < w.heap.size := (Array.getElem?_eq_some_iff.1 h.at_).1
theorem Bx.cells {w : World} {B : Nat} {m : MetaM} {tv sv mv cv : Value} (h : Bx w B m tv sv mv cv) :
    w.cell? ⟨B, 0, none⟩ = some (.int .i64 m.cl) ∧ w.cell? ⟨B, 1, none⟩ = some (.int .i64 m.sz) ∧ w.cell? ⟨B, 2, none⟩ = some (.string ⟨m.bk.toArray⟩) ∧ w.cell? ⟨B, 3, none⟩ = some tv ∧ w.cell? ⟨B, 4, none⟩ = some sv ∧ w.cell? ⟨B, 5, none⟩ = some mv ∧ w.cell? ⟨B, 6, none⟩ = some cv := by
  have h := h.at_
  refine ⟨?_, ?_, ?_, ?_, ?_, ?_, ?_⟩ <;> simp [World.cell?, h]
theorem Bx.new {w : World} {m : MetaM} {tv sv mv cv : Value} (h : IsMeta w w.heap.size m tv sv mv cv) : Bx (w.alloc (.cells #[.int .i64 m.cl, .int .i64 m.sz, .string ⟨m.bk.toArray⟩, tv, sv, mv, cv] 29)) w.heap.size m tv sv mv cv := by
  refine ⟨World.alloc_heap_new w _, ?_⟩
  have hb : Below w.heap.size w (w.alloc (.cells #[.int .i64 m.cl, .int .i64 m.sz, .string ⟨m.bk.toArray⟩, tv, sv, mv, cv] 29)) := (Below.refl _ _).alloc (Nat.le_refl _) _
  exact (h.below hb (Nat.le_refl _)).mono hb.size

/-- what is known where the main part of a law begins -/
structure Main (m : MetaM) : Prop where
  small : SmallP m
  right : MetaP m
  wf : MetaW m

theorem Bx.of {w : World} {B : Nat} {m : MetaM} {tv sv mv cv : Value} (h : Bx w B m tv sv mv cv) (hm : Main m) (n : Int) :
    Calls Try.prog 15 #[metaV m tv sv mv cv, .int .i64 n] w fun e w' => ∃ v, e = .returned v ∧ OwnI w' w.heap.size v (ofM (eachM m.t m.ss) n) ∧ Below w.heap.size w w' :=
  of_any _ _ _ _ _ _ _ m.t m.ss n w h.is.t h.is.ss (by have := hm.small.1; omega) (fun i hi => by have := hm.small.2.2 i hi; omega) (by have := hm.small.2.1; omega) (eachM_good m hm.right)
theorem Bx.rOf {w : World} {B : Nat} {m : MetaM} {tv sv mv cv : Value} (h : Bx w B m tv sv mv cv) (hm : Main m) (n : Int) :
    Calls Try.prog 16 #[metaV m tv sv mv cv, .int .i64 n] w fun e w' => ∃ v, e = .returned v ∧ OwnI w' w.heap.size v (ofM (eachM m.t m.ss) n) ∧ Below w.heap.size w w' :=
  rOf_any _ _ _ _ _ _ _ m.t m.ss n w h.is.t h.is.ss (by have := hm.small.1; omega) (fun i hi => by have := hm.small.2.2 i hi; omega) (by have := hm.small.2.1; omega) (eachM_good m hm.right)
theorem Bx.each {w : World} {B : Nat} {m : MetaM} {tv sv mv cv : Value} (h : Bx w B m tv sv mv cv) (hm : Main m) :
    Calls Try.prog 18 #[metaV m tv sv mv cv] w fun e w' => ∃ v, e = .returned v ∧ OwnL w' w.heap.size v (eachM m.t m.ss) ∧ Below w.heap.size w w' :=
  each_any _ _ _ _ _ _ _ m.t m.ss w h.is.t h.is.ss (by have := hm.small.1; omega) (fun i hi => by have := hm.small.2.2 i hi; omega) (by have := hm.small.2.1; omega)
theorem Bx.rEach {w : World} {B : Nat} {m : MetaM} {tv sv mv cv : Value} (h : Bx w B m tv sv mv cv) (hm : Main m) :
    Calls Try.prog 17 #[metaV m tv sv mv cv] w fun e w' => ∃ v, e = .returned v ∧ OwnL w' w.heap.size v (eachM m.t m.ss) ∧ Below w.heap.size w w' :=
  rEach_any _ _ _ _ _ _ _ m.t m.ss w h.is.t h.is.ss (by have := hm.small.1; omega) (fun i hi => by have := hm.small.2.2 i hi; omega) (by have := hm.small.2.1; omega)
theorem ofM_len (ls : List Lin) (n : Int) : (ofM ls n).length ≤ 65536 := by
  unfold ofM
  split
  · simp
  · simp; omega
end Go.Proofs.Ytpgdncpomacghaa
