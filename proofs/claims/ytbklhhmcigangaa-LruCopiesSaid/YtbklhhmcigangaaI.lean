import Derived.Test.YtbklhhmcigangaaH
import Derived.Test.YtbklhhmcigangaaMI
import Derived.Deep.Upon
namespace Go.Mx
open Go.RowKit
set_option linter.unusedVariables false
set_option linter.unusedSimpArgs false
/-- a slice of numbers that is the call's own, of which the front may be cut away -/
def QI (w : World) (base : Nat) (v : Value) (l : List Int) : Prop :=
  ∃ oa cap, v = .slice oa l.length cap ∧ l.length ≤ cap ∧ cap ≤ maxLen ∧ (0 < cap → ∃ g o, oa = some ⟨g, o, none⟩ ∧ base ≤ g ∧ (∀ (j : Nat) (u : Int), l[j]? = some u → w.cell? ⟨g, o + j, none⟩ = some (.int .i64 u)) ∧
    (∀ j, j < cap → (w.cell? ⟨g, o + j, none⟩).isSome = true ∧ w.frozen? ⟨g, o + j, none⟩ = false))
theorem cell_lt {w : World} {g o : Nat} (h : (w.cell? ⟨g, o, none⟩).isSome = true) : g < w.heap.size := by
  rcases Nat.lt_or_ge g w.heap.size with h1 | h1
  · exact h1
  · simp [World.cell?, Array.getElem?_eq_none h1] at h
section
variable {w w' : World} {base : Nat} {v : Value} {l : List Int}
theorem QI.shape (h : QI w base v l) : ∃ oa c, v = .slice oa l.length c := by obtain ⟨oa, c, rfl, _⟩ := h; exact ⟨_, _, rfl⟩
theorem QI.slI (h : QI w base v l) : SlI w w.heap.size v l := by
  obtain ⟨oa, cap, rfl, h1, h2, h3⟩ := h
  refine ⟨oa, cap, by simp, by simpa using h1, h2, fun hn => ?_⟩
  have hpos : 0 < l.length := by
    rcases Nat.eq_zero_or_pos l.length with h0 | h0
    · exact absurd (by rw [List.eq_nil_of_length_eq_zero h0]; rfl) hn
    · exact h0
  obtain ⟨g, o, rfl, hb, hc, hs⟩ := h3 (by omega)
  refine ⟨g, o, rfl, cell_lt (hs 0 (by omega)).1, fun i hi j u hu => ?_⟩
  simp only [List.length_map] at hi
  rw [show (l.map fun n => [Value.int .i64 n]).getD i [] = [.int .i64 (l.getD i 0)] by simp [List.getD_eq_getElem?_getD, List.getElem?_map, List.getElem?_eq_getElem hi]] at hu
  have hj : j = 0 := by
    have := (List.getElem?_eq_some_iff.1 hu).1; simp at this; exact this
  subst hj
  simp at hu; subst hu
  have := hc i l[i] (List.getElem?_eq_getElem hi)
  simpa [List.getElem?_eq_getElem hi] using this
theorem QI.kept (h : QI w base v l) {N : Nat → Prop} (hk : Kept w w' N) (hN : ∀ q, base ≤ q → q < w.heap.size → N q) : QI w' base v l := by
  obtain ⟨oa, cap, rfl, h1, h2, h3⟩ := h
  refine ⟨oa, cap, rfl, h1, h2, fun hp => ?_⟩
  obtain ⟨g, o, rfl, hb, hc, hs⟩ := h3 hp
  have hlt := cell_lt (hs 0 hp).1
  have hbl := hk.block g hlt (hN g hb hlt)
  refine ⟨g, o, rfl, hb, fun j u hu => (World.cell?_of_block (a := ⟨g, o + j, none⟩) hbl).trans (hc j u hu), fun j hj => ⟨?_, ?_⟩⟩
  · rw [World.cell?_of_block (a := ⟨g, o + j, none⟩) hbl]; exact (hs j hj).1
  · rw [World.frozen?_of_block (a := ⟨g, o + j, none⟩) hbl]; exact (hs j hj).2
theorem QI.below (h : QI w base v l) (hb : Below w.heap.size w w') : QI w' base v l := h.kept (N := fun _ => True) (.of_below hb fun _ h _ => h) fun _ _ _ => trivial
theorem QI.one (w : World) (k : Int) (hB : base ≤ w.heap.size) : QI (w.alloc (.cells #[.int .i64 k] 3)) base (.slice (some ⟨w.heap.size, 0, none⟩) 1 1) [k] := by
  refine ⟨_, 1, rfl, by simp, by simp [maxLen], fun _ => ⟨w.heap.size, 0, rfl, hB, fun j u hu => ?_, fun j hj => ?_⟩⟩
  · cases j with
    | zero => simp at hu; subst hu; simp
    | succ j => simp at hu
  · obtain rfl : j = 0 := by omega
    simp
theorem QI.tail {x : Int} {P : Program} {t : TypeId} (h : QI w base v (x :: l)) (ht : P.underlying t = some (.slice 3)) (hs : ∀ w, (sizeOf 3).run P w = .ok 1 w) :
    ∃ v', QI w base v' l ∧ ∀ w' (k : IntKind), (Instr.slice t v (some (.int k (1 : Int))) none none).run P w' = .ok v' w' := by
  obtain ⟨oa, cap, rfl, h1, h2, h3⟩ := h
  have ht' : P.underlying t = some (.slice (P.elem t)) := by rw [ht]; simp [Program.elem, ht]
  have hel : P.elem t = 3 := by simp [Program.elem, ht]
  simp only [List.length_cons] at h1 ⊢
  refine ⟨sliced oa 1 (l.length + 1) cap 1, ?_, fun w' k => ?_⟩
  · unfold sliced
    refine ⟨_, cap - 1, by rw [Nat.add_sub_cancel], by omega, by omega, fun hp => ?_⟩
    obtain ⟨g, o, rfl, hb, hc, hsp⟩ := h3 (by omega)
    refine ⟨g, o + 1, ?_, hb, fun j u hu => ?_, fun j hj => ?_⟩
    · rw [if_neg (by omega)]; simp [Addr.add]
    · have := hc (j + 1) u (by simpa using hu)
      rwa [show o + 1 + j = o + (j + 1) by omega]
    · have := hsp (j + 1) (by omega)
      rwa [show o + 1 + j = o + (j + 1) by omega]
  · have e1 : (Value.int k 1) = .int k ((1 : Nat) : Int) := rfl
    rw [run_slice_l (l := (1 : Int)) (ht := ht') (h0 := by omega) (h1 := by omega), hel, hs]
    simp [Result.andThen]
theorem SlI.src {P : Program} {tx e' : TypeId} {B : Nat} (h : SlI w B v l) (hk : P.underlying tx = some (.slice e')) : Src P 1 tx v l.length (l.map (.int .i64)) w := by
  obtain ⟨oa, cap, rfl, h1, h2, h3⟩ := h
  simp only [List.length_map] at h1 h2 h3 ⊢
  cases l with
  | nil =>
    cases oa with
    | none => exact Src.ofNil w hk cap
    | some a => exact Src.ofSlice w hk a 0 cap [] (by simp) (by simp) (by simp)
  | cons x l =>
    obtain ⟨g, o, rfl, hb, hr⟩ := h3 (by simp)
    refine Src.ofSlice w hk _ _ cap _ (by simp) (fun j u hu => ?_) (fun u hu => by obtain ⟨_, _, rfl⟩ := List.mem_map.1 hu; rfl)
    rw [List.getElem?_map] at hu
    cases hq : (x :: l)[j]? with
    | none => rw [hq] at hu; cases hu
    | some y =>
      rw [hq] at hu; cases hu
      have hj := (List.getElem?_eq_some_iff.1 hq).1
      have := hr j (by simpa using hj) 0 (.int .i64 y) (by rw [List.getD_eq_getElem?_getD, List.getElem?_map, hq]; rfl)
      rw [Addr.add_lit]
      simpa using this
end
/-- append to a queue -/
theorem append_q {P : Program} (w : World) {ops : Array Oper} {rest : List Oper} {o : Oper} {a : Act} {Q : Exit → Act → World → Prop} (hgd : o.guard = none) (s x : Operand) (t : TypeId)
    (ho : o.op = .call { callee := .builtin .append, args := #[s, x], argTypes := #[t, t] })
    (ht : P.underlying t = some (.slice 3)) (hi : (P.info? 3).map (fun i => (i.zero, i.size, i.bytes)) = some (some (.int .i64 0), 1, 8))
    (base : Nat) (v : Value) (l : List Int) (hs : a.eval s = v) (hq : QI w base v l) (v2 : Value) (l2 : List Int) (hx : a.eval x = v2) (h2 : SlI w w.heap.size v2 l2)
    (hlen : l.length + l2.length ≤ 1000000000000) (hB : base ≤ w.heap.size)
    (h : ∀ v' w', QI w' base v' (l ++ l2) → Below base w w' → wpList P ops Q rest (a.put o.dst v') w') : wpList P ops Q (o :: rest) a w := by
  obtain ⟨i0, hi0, hz0, hz1, hz2⟩ := info_parts hi
  have hsrc := h2.src (P := P) ht
  have run : ∃ v' w', (Builtin.append_ #[t, t] o.type #[v, v2]).run P w = .ok v' w' ∧ QI w' base v' (l ++ l2) ∧ Below base w w' := by
    obtain ⟨oa, cap, rfl, h1, hm, h3⟩ := hq
    have hsrc' : Src P i0.size t v2 l2.length (l2.map (.int .i64)) w := by rw [hz1]; exact hsrc
    by_cases hroom : l.length + l2.length ≤ cap
    · rcases Nat.eq_zero_or_pos cap with h0 | h0
      · subst h0
        obtain rfl : l2 = [] := List.eq_nil_of_length_eq_zero (by omega)
        obtain rfl : l = [] := List.eq_nil_of_length_eq_zero (by omega)
        exact ⟨_, _, run_append_nothing w t t o.type 3 i0 ht hi0 oa 0 0 (Nat.le_refl _) v2 hsrc', ⟨oa, 0, rfl, Nat.le_refl _, hm, fun h => absurd h (by omega)⟩, Below.refl _ _⟩
      · obtain ⟨g, o', rfl, hb, hc, hsp⟩ := h3 h0
        have hrun := run_append_room_src w t t o.type 3 i0 ht hi0 g o' l.length cap v2 l2.length (l2.map (.int .i64)) hsrc' hroom
          (fun j hj => by rw [hz1, Nat.mul_one, Nat.add_assoc]; rw [List.length_map] at hj; exact (hsp _ (by omega)).1)
          (fun j hj => by rw [hz1, Nat.mul_one, Nat.add_assoc]; rw [List.length_map] at hj; exact (hsp _ (by omega)).2)
        rw [hz1, Nat.mul_one] at hrun
        refine ⟨_, _, hrun, ⟨some ⟨g, o', none⟩, cap, by simp, by simpa using hroom, hm, fun _ => ⟨g, o', rfl, hb, fun j u hu => ?_, fun j hj => ?_⟩⟩, Below.setCells _ (Below.refl base w) hb⟩
        · by_cases hj : j < l.length
          · rw [List.getElem?_append_left hj] at hu
            rw [World.cell?_setCells_out g _ _ _ _ (fun _ _ => Or.inl (by show o' + j < o' + l.length; omega))]
            exact hc j u hu
          · rw [List.getElem?_append_right (by omega)] at hu
            have hlt := (List.getElem?_eq_some_iff.1 hu).1
            have := World.cell?_setCells_in g (l2.map (.int .i64)) (o' + l.length) w (fun k hk => by rw [Nat.add_assoc]; rw [List.length_map] at hk; exact (hsp _ (by omega)).1) (j - l.length) (by simpa using hlt)
            rw [show o' + l.length + (j - l.length) = o' + j by omega] at this
            rw [this, List.getElem_map]
            rw [List.getElem?_eq_getElem hlt] at hu
            cases hu; rfl
        · refine ⟨?_, (World.frozen?_setCells g _ _ _ _).trans (hsp j hj).2⟩
          by_cases hin : l.length ≤ j ∧ j < l.length + l2.length
          · have := World.cell?_setCells_in g (l2.map (.int .i64)) (o' + l.length) w (fun k hk => by rw [Nat.add_assoc]; rw [List.length_map] at hk; exact (hsp _ (by omega)).1) (j - l.length) (by simp; omega)
            rw [show o' + l.length + (j - l.length) = o' + j by omega] at this
            rw [this]; rfl
          · rw [World.cell?_setCells_out g _ _ _ _ (fun _ _ => by show o' + j < o' + l.length ∨ o' + l.length + (l2.map _).length ≤ o' + j; rw [List.length_map]; omega)]
            exact (hsp j hj).1
    · have hold : (Builtin.firstCells i0.size l.length (.slice oa l.length cap)).run P w.drew = .ok (l.map (.int .i64)).toArray w.drew := by
        rw [hz1]
        rcases Nat.eq_zero_or_pos cap with h0 | h0
        · subst h0
          obtain rfl : l = [] := List.eq_nil_of_length_eq_zero (by omega)
          cases oa with
          | none => exact run_firstCells_none w.drew 1 0 0 0
          | some a => exact run_firstCells_some w.drew 1 0 a 0 0 [] (by simp) (by simp)
        · obtain ⟨g, o', rfl, hb, hc, hsp⟩ := h3 h0
          refine run_firstCells_some w.drew 1 _ _ _ cap _ (by simp) fun j u hu => ?_
          rw [List.getElem?_map] at hu
          cases hq : l[j]? with
          | none => rw [hq] at hu; cases hu
          | some y => rw [hq] at hu; cases hu; rw [Addr.add_lit]; exact hc j y hq
      have hge := grownCap_ge w (l.length + l2.length) cap 3
      have hmx : l.length + l2.length ≤ maxLen := by unfold maxLen; omega
      have hcm := grownCap_le_maxLen w (l.length + l2.length) cap 3 hmx
      have hrun := run_append_grow_src w t t o.type 3 i0 (.int .i64 0) ht hi0 hz0 oa l.length cap (l.map (.int .i64)) hold v2 l2.length (l2.map (.int .i64)) hsrc' (by omega) (by omega) (growslice_fits (by omega) (by rw [hz2]; omega))
      obtain ⟨C, hC⟩ : ∃ C, C = grownCap w (l.length + l2.length) cap 3 := ⟨_, rfl⟩
      rw [← hC] at hrun hge hcm
      have hsz : (((l.map (Value.int .i64)) ++ (l2.map (Value.int .i64))).toArray ++ Builtin.zeroCells (Value.int .i64 0).cells (C - (l.length + l2.length))).size = C := by
        rw [Array.size_append, List.size_toArray, List.length_append, List.length_map, List.length_map, size_zeroCells]
        show l.length + l2.length + (C - (l.length + l2.length)) * 1 = C
        omega
      have hat : ∀ (j : Nat) (u : Int), (l ++ l2)[j]? = some u → (((l.map (Value.int .i64)) ++ (l2.map (Value.int .i64))).toArray ++ Builtin.zeroCells (Value.int .i64 0).cells (C - (l.length + l2.length)))[j]? = some (.int .i64 u) := by
        intro j u hu
        have hlt := (List.getElem?_eq_some_iff.1 hu).1
        rw [Array.getElem?_append_left (by simpa using hlt), List.getElem?_toArray, ← List.map_append, List.getElem?_map, hu]
        rfl
      obtain ⟨Z, hZ⟩ : ∃ Z, Z = (((l.map (Value.int .i64)) ++ (l2.map (Value.int .i64))).toArray ++ Builtin.zeroCells (Value.int .i64 0).cells (C - (l.length + l2.length))) := ⟨_, rfl⟩
      rw [← hZ] at hrun hsz hat
      have e1 : ∀ j, (w.drew.alloc (.cells Z 3)).cell? ⟨w.heap.size, j, none⟩ = Z[j]? := fun j => World.cell?_alloc_new w.drew Z 3 j
      have e2 : ∀ j, (w.drew.alloc (.cells Z 3)).frozen? ⟨w.heap.size, j, none⟩ = false := fun j => World.frozen?_alloc_new w.drew Z 3 j
      refine ⟨_, _, hrun, ⟨some ⟨w.heap.size, 0, none⟩, C, by simp, by simpa using hge, hcm, fun _ => ⟨w.heap.size, 0, rfl, hB, fun j u hu => ?_, fun j hj => ?_⟩⟩, ?_⟩
      · rw [Nat.zero_add, e1]; exact hat j u hu
      · rw [Nat.zero_add, e1]
        exact ⟨by rw [Array.getElem?_eq_getElem (by rw [hsz]; exact hj)]; rfl, e2 j⟩
      · exact ((Below.refl base w).drew).alloc (by show base ≤ w.drew.heap.size; exact hB) _
  refine wpList_plain hgd fun K hK => ?_
  obtain ⟨v', w', hr, h4, h5⟩ := run
  unfold Oper.wp
  simp [execOp, ho, resolve, invoke, builtin, hs, hx, hr, Result.andThen]
  exact hK _ _ (h v' w' h4 h5)
end Go.Mx
