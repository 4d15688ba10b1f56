import Derived.Test.YtbklhhmcigangaaM3
import Derived.Laws.OwnMore
namespace Go.Mx
open Go.RowKit

theorem heap_setCell_at (w : World) (g i : Nat) (u : Value) (cur : Array Value) (e : TypeId) (fr : Nat × Nat) (h : w.heap[g]? = some (.cells cur e fr)) :
    (w.setCell ⟨g, i, none⟩ u).heap[g]? = some (.cells (cur.setIfInBounds i u) e fr) := by
  unfold World.setCell
  simp [Array.getElem?_modify, h]

/-- a store into a slice of bytes of the call's own -/
theorem OwnB.store {w : World} {base : Nat} {e : TypeId} {g n c : Nat} {l : List UInt8} (h : OwnB w base e (.slice (some ⟨g, 0, none⟩) n c) l) (i : Nat) (b : UInt8) :
    OwnB (w.setCell ⟨g, i, none⟩ (u8 b)) base e (.slice (some ⟨g, 0, none⟩) n c) (l.set i b) ∨ l.length ≤ i := by
  rcases Nat.lt_or_ge i l.length with hi | hi
  · left
    rcases h with ⟨h1, h2 | ⟨g', cap, cur, hv, hb, hg, hn, hm, hs, ht⟩⟩
    · obtain ⟨hv, _⟩ := h2; cases hv
    · cases hv
      refine ⟨by simp, .inr ⟨g, _, cur.setIfInBounds i (u8 b), by simp, hb, heap_setCell_at w g i _ cur e _ hg, by simpa using hn, hm, by simpa using hs, ?_⟩⟩
      rw [Array.toList_setIfInBounds, List.take_set, List.length_set, ht, List.map_set]
  · exact .inr hi

theorem OwnB.fz {w : World} {base : Nat} {e : TypeId} {g n c : Nat} {l : List UInt8} (h : OwnB w base e (.slice (some ⟨g, 0, none⟩) n c) l) (i : Nat) : w.frozen? ⟨g, i, none⟩ = false := by
  rcases h with ⟨h1, h2 | ⟨g', cap, cur, hv, hb, hg, _⟩⟩
  · obtain ⟨hv, _⟩ := h2; cases hv
  · cases hv
    simp [World.frozen?, hg]

theorem OwnB.cellAt {w : World} {base : Nat} {e : TypeId} {g n c : Nat} {l : List UInt8} (h : OwnB w base e (.slice (some ⟨g, 0, none⟩) n c) l) (i : Nat) (hi : i < l.length) : w.cell? ⟨g, i, none⟩ = some (u8 (l.getD i 0)) := by
  obtain ⟨g', c', hv, _, _, _, hc⟩ := h.at i hi
  simp only [Value.slice.injEq, Option.some.injEq, Addr.mk.injEq] at hv
  obtain ⟨⟨rfl, _⟩, _, _⟩ := hv
  exact hc

theorem wf_u32 {n : Int} (h : (Lit.int .u32 n).wf = true) : ∃ s : BitVec 32, n = s.toNat := by
  have h : 0 ≤ n ∧ n ≤ 4294967295 := by simpa [Lit.wf, IntKind.min, IntKind.max, IntKind.signed, IntKind.bits] using h
  obtain ⟨m, rfl⟩ := Int.eq_ofNat_of_zero_le h.1
  exact ⟨BitVec.ofNat 32 m, by rw [BitVec.toNat_ofNat]; omega⟩

theorem wf_u8' {n : Int} (h : (Lit.int .u8 n).wf = true) : ∃ s : UInt8, n = s.toNat := by
  have h := wf_u8 h
  obtain ⟨m, rfl⟩ := Int.eq_ofNat_of_zero_le h.1
  exact ⟨UInt8.ofNat m, by rw [UInt8.toNat_ofNat']; omega⟩

/-- 'make([]byte, n)' -/
theorem make_bytes {P : Program} (w : World) {ops : Array Oper} {rest : List Oper} {o : Oper} {a : Act} {Q : Exit → Act → World → Prop} (hg : o.guard = none) (l c : Operand) (t e : TypeId)
    (hop : o.op = Op.makeSlice t l c) (ht : P.underlying t = some (.slice e)) (hi : (P.info? e).map (fun i => (i.zero, i.size, i.bytes)) = some (some (.int .u8 0), 1, 1))
    (base : Nat) (kl kc : IntKind) (L C : Int) (n : Nat) (hl : a.eval l = .int kl L) (hc : a.eval c = .int kc C) (hL : L = (n : Int)) (hC : C = (n : Int)) (hn : n ≤ 140737488355328) (hB : base ≤ w.heap.size)
    (h : ∀ v w', OwnB w' base e v (List.replicate n 0) → Below w.heap.size w w' → v = .slice (some ⟨w.heap.size, 0, none⟩) n n → wpList P ops Q rest (a.put o.dst v) w') : wpList P ops Q (o :: rest) a w := by
  obtain ⟨i0, hi0, hz0, hz1, hz2⟩ := info_parts hi
  refine wpList_make_full w hg l c t hop base e i0 _ 1 ht hi0 hz0 hz1 kl kc L C n hl hc hL hC (by rw [hz2]; omega) (by unfold maxLen; omega) hB ?_
  intro w' ho hgr
  refine h _ w' ?_ ⟨hgr.os, hgr.tape, hgr.output, hgr.size, fun k hk => hgr.block k hk (by simp)⟩ rfl
  unfold OwnB
  have e1 : (madeCells (Value.int .u8 0).cells (n * 1)).toList = (List.replicate n (0 : UInt8)).map u8 := by
    rw [show (Value.int .u8 0).cells = #[Value.int .u8 0] from rfl, toList_madeCells_one]
    simp
  rw [e1] at ho
  simpa using ho

end Go.Mx
