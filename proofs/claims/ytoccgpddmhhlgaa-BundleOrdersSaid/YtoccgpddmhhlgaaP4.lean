import Derived.Test.YtoccgpddmhhlgaaBH
import Derived.Deep.Cut
namespace Go.Mx
open Go.RowKit
set_option linter.unusedSimpArgs false
set_option linter.unusedVariables false
theorem flatten_set2 {α : Type} (a b : α) : ∀ (rows : List (List α)) (j : Nat), (∀ r ∈ rows, r.length = 2) → j < rows.length → (rows.set j [a, b]).flatten = (rows.flatten.set (j * 2) a).set (j * 2 + 1) b
  | [], j, _, h => by simp at h
  | r :: rows, 0, hr, _ => by
    obtain ⟨x, y, rfl⟩ : ∃ x y, r = [x, y] := by
      have := hr r (by simp)
      match r, this with
      | [x, y], _ => exact ⟨x, y, rfl⟩
    simp
  | r :: rows, j + 1, hr, h => by
    obtain ⟨x, y, rfl⟩ : ∃ x y, r = [x, y] := by
      have := hr r (by simp)
      match r, this with
      | [x, y], _ => exact ⟨x, y, rfl⟩
    have ih := flatten_set2 a b rows j (fun r hr' => hr r (by simp [hr'])) (by simpa using h)
    simp only [List.set_cons_succ, List.flatten_cons, ih, List.cons_append, List.nil_append]
    rw [show (j + 1) * 2 = j * 2 + 1 + 1 by omega, show j * 2 + 1 + 1 + 1 = (j * 2 + 1) + 1 + 1 by omega]
    simp
theorem OwnG.set2 {w : World} {base : Nat} {e : TypeId} {g n c : Nat} {rows : List (List Value)} (h : OwnG w base e 2 (.slice (some ⟨g, 0, none⟩) n c) rows) (j : Nat) (a b : Value) (hj : j < rows.length) :
    OwnG ((w.setCell ⟨g, j * 2, none⟩ a).setCell ⟨g, j * 2 + 1, none⟩ b) base e 2 (.slice (some ⟨g, 0, none⟩) n c) (rows.set j [a, b]) := by
  have hl : ∀ r ∈ rows.set j [a, b], r.length = 2 := fun r hr => by
    rcases List.mem_or_eq_of_mem_set hr with h1 | h1
    · exact h.2 r h1
    · rw [h1]; rfl
  refine ⟨⟨?_, ?_⟩, hl⟩
  · rw [flatten_set2 a b rows j h.2 hj]; have := h.1.1; simp only [List.length_set] at this ⊢; exact this
  · rcases h.1.2 with ⟨hv, _⟩ | ⟨g', cap, cur, hv, hb, hg, hn, hm, hs, ht⟩
    · cases hv
    · cases hv
      refine .inr ⟨g, _, (cur.setIfInBounds (j * 2) a).setIfInBounds (j * 2 + 1) b, by simp, hb, heap_setCell_at' _ g _ _ _ e _ (heap_setCell_at' w g _ _ cur e _ hg), by simpa using hn, hm, by simpa using hs, ?_⟩
      rw [flatten_set2 a b rows j h.2 hj, Array.toList_setIfInBounds, Array.toList_setIfInBounds, List.take_set, List.take_set, List.length_set, ht]
theorem OwnG.prefix {w : World} {base : Nat} {e : TypeId} {g n c s : Nat} {rows : List (List Value)} (h : OwnG w base e s (.slice (some ⟨g, 0, none⟩) n c) rows) (m : Nat) (hm : m ≤ rows.length) : OwnG w base e s (.slice (some ⟨g, 0, none⟩) m c) (rows.take m) := by
  have hl : ∀ r ∈ rows.take m, r.length = s := fun r hr => h.2 r (List.mem_of_mem_take hr)
  have fl : ∀ (l : List (List Value)), (∀ r ∈ l, r.length = s) → l.flatten.length = l.length * s := by
    intro l; induction l with
    | nil => intro _; simp
    | cons r l ih => intro hr; rw [List.flatten_cons, List.length_append, hr r (by simp), ih fun x hx => hr x (by simp [hx]), List.length_cons, Nat.succ_mul]; omega
  refine ⟨⟨fl _ hl, ?_⟩, hl⟩
  rcases h.1.2 with ⟨hv, _⟩ | ⟨g', cap, cur, hv, hb, hg, hn, hmx, hs, ht⟩
  · cases hv
  · cases hv
    refine .inr ⟨g, _, cur, by rw [List.length_take, Nat.min_eq_left hm], hb, hg, by rw [List.length_take]; omega, hmx, hs, ?_⟩
    have e1 : rows.flatten = (rows.take m).flatten ++ (rows.drop m).flatten := by rw [← List.flatten_append, List.take_append_drop]
    rw [e1] at ht
    have e2 : cur.toList.take ((rows.take m).length * s) = (cur.toList.take (rows.length * s)).take ((rows.take m).length * s) := by
      rw [List.take_take, Nat.min_eq_left]
      exact Nat.mul_le_mul_right _ (by rw [List.length_take]; omega)
    rw [e2, ht]
    exact List.take_left' (fl _ hl)
theorem OwnG.addr {P : Program} {t : TypeId} {w : World} {base : Nat} {e : TypeId} {g n c s : Nat} {rows : List (List Value)} (h : OwnG w base e s (.slice (some ⟨g, 0, none⟩) n c) rows) (ht : P.underlying t = some (.slice e)) (hs : ∀ w, (sizeOf e).run P w = .ok s w) (i : Nat) (hi : i < rows.length) :
    (∀ w' (k : IntKind), (Instr.indexAt t (.slice (some ⟨g, 0, none⟩) n c) (.int k (i : Int))).run P w' = .ok (.pointer (some ⟨g, i * s, none⟩)) w') ∧ (∀ j u, (rows.getD i [])[j]? = some u → w.cell? ⟨g, i * s + j, none⟩ = some u) ∧ ∀ o, w.frozen? ⟨g, o, none⟩ = false := by
  have hn : n = rows.length := by
    rcases h.1.2 with ⟨hv, _⟩ | ⟨g', cap, cur, hv, _⟩
    · cases hv
    · cases hv; rfl
  have ht' : P.underlying t = some (.slice (P.elem t)) := by rw [ht]; simp [Program.elem, ht]
  have hel : P.elem t = e := by simp [Program.elem, ht]
  refine ⟨fun w' k => ?_, fun j u hu => ?_, fun o => ?_⟩
  · rw [run_indexAt_slice (h := ht'), if_pos (by omega), hel, hs]
    simp [Result.andThen, Addr.add]
    exact fun e => e.symm
  · have := World.ownsRow.cells h.1 (by rfl : (Value.slice (some ⟨g, 0, none⟩) n c).ownBlock = some g) (i * s + j) u (flatten_at s rows i j u h.2 hi hu)
    rwa [addr_add] at this
  · rcases h.1.2 with ⟨hv, _⟩ | ⟨g', cap, cur, hv, hb, hg, _⟩
    · cases hv
    · cases hv; simp [World.frozen?, hg]
end Go.Mx
namespace Go.Bun
def pname (i : Nat) : List UInt8 := [112, 97 + UInt8.ofNat i]
def prt (i : Nat) : Prt := ⟨pname i, [UInt8.ofNat i]⟩
def prts (k : Nat) : List Prt := (List.range k).map prt
theorem prts_rise : ∀ k, k < 22 → rise (names (prts k)) = true := by decide +kernel
theorem pname_not : ∀ j, j < 21 → lss (pname (j + 1)) (pname j) = false := by decide +kernel
theorem wt_small (l : List Prt) (h : ∀ p ∈ l, p.name.length ≤ 10 ∧ p.data.length ≤ 10) (hl : l.length ≤ 30) : wt l ≤ 50000 := by
  have key : ∀ l : List Prt, (∀ p ∈ l, p.name.length ≤ 10 ∧ p.data.length ≤ 10) → wt l ≤ 21 * l.length := by
    intro l; induction l with
    | nil => intro _; exact Nat.le_refl _
    | cons p l ih =>
      intro h
      have h1 := ih fun q hq => h q (by simp [hq])
      have h2 := h p (by simp)
      unfold wt at h1 ⊢
      simp only [List.length_cons, List.flatMap_cons, List.length_append]
      omega
  have := key l h
  omega
theorem prts_succ (k : Nat) : prts (k + 1) = prts k ++ [prt k] := by simp [prts, List.range_succ]
theorem prts_len (k : Nat) : (prts k).length = k := by simp [prts]
theorem prts_at (k i : Nat) (h : i < k) : (prts k).getD i default = prt i := by simp [prts, List.getD_eq_getElem?_getD, h]
/-- where two names do not rise -/
theorem put_bad (l : List Prt) (j : Nat) (hj : j + 1 < l.length) (h : lss (l.getD j default).name (l.getD (j + 1) default).name = false) : putR l = ([], 1) := by
  have hr : rise (names l) = false := by
    refine rise_no _ (j + 1) (by rw [names_len]; exact hj) ?_
    unfold riseAt
    rw [show j + 1 - 1 = j by omega, names_at l j (by omega), names_at l (j + 1) hj, h]
    simp
  unfold putR; rw [hr]; rfl
end Go.Bun
namespace Go.Proofs.Ytoccgpddmhhlgaa
open Go.RowKit Go.Mx Go.Crc Go.Str Go.Bun
set_option linter.unusedSimpArgs false
set_option linter.unusedVariables false

/-- parts of one's own: each part's one byte lies in a block of its own -/
structure LB (w : World) (base : Nat) (v : Value) (ps : List (Prt × Nat)) : Prop where
  own : OwnG w base 35 2 v (ps.map fun x => prow x.1.name (.slice (some ⟨x.2, 0, none⟩) 1 1))
  dat : ∀ x ∈ ps, ∃ c, w.heap[x.2]? = some (.cells #[Mx.u8 c] 5 (0, 0)) ∧ x.1.data = [c]
theorem LB.nil (w : World) (base : Nat) : LB w base (.slice none 0 0) [] := ⟨OwnG.nil _ _ _ _, fun x hx => by simp at hx⟩
theorem dat_sl {w : World} {d : Nat} {c : UInt8} (h : w.heap[d]? = some (.cells #[Mx.u8 c] 5 (0, 0))) : SlB w w.heap.size (.slice (some ⟨d, 0, none⟩) 1 1) [c] := by
  refine ⟨_, 1, rfl, by simp, by simp [maxLen], fun _ => ⟨d, 0, rfl, blk_lt h, fun i hi => ?_⟩⟩
  have : i = 0 := by simpa using hi
  subst this
  simp [World.cell?, h]
theorem LB.sl {w : World} {base : Nat} {v : Value} {ps : List (Prt × Nat)} (h : LB w base v ps) : SlPt w w.heap.size v (ps.map (·.1)) := by
  refine ⟨_, by simp, h.own.slG, fun i hi => ?_⟩
  rw [List.length_map] at hi
  obtain ⟨c, h1, h2⟩ := h.dat (ps[i]) (List.getElem_mem _)
  refine ⟨.slice (some ⟨(ps[i]).2, 0, none⟩) 1 1, ?_, ?_⟩
  · simp [List.getD_eq_getElem?_getD, List.getElem?_map, List.getElem?_eq_getElem hi, prow]
  · have e : (ps.map (·.1)).getD i default = (ps[i]).1 := by simp [List.getD_eq_getElem?_getD, List.getElem?_map, List.getElem?_eq_getElem hi]
    rw [e, h2]; exact dat_sl h1
theorem LB.below {w w' : World} {base : Nat} {v : Value} {ps : List (Prt × Nat)} (h : LB w base v ps) (hb : Below w.heap.size w w') : LB w' base v ps :=
  ⟨h.own.below hb (Nat.le_refl _), fun x hx => by obtain ⟨c, h1, h2⟩ := h.dat x hx; exact ⟨c, (hb.block _ (blk_lt h1)).trans h1, h2⟩⟩
theorem LB.datKept {w w' : World} {base : Nat} {v : Value} {ps : List (Prt × Nat)} (h : LB w base v ps) (hk : Kept w w' (fun k => v.ownBlock ≠ some k)) : ∀ x ∈ ps, ∃ c, w'.heap[x.2]? = some (.cells #[Mx.u8 c] 5 (0, 0)) ∧ x.1.data = [c] := fun x hx => by
  obtain ⟨c, h1, h2⟩ := h.dat x hx
  exact ⟨c, (hk.block _ (blk_lt h1) (ownsRow_not h.own.1 h1 (by decide))).trans h1, h2⟩
theorem LB.snoc {w w' : World} {base : Nat} {v v' : Value} {ps : List (Prt × Nat)} (h : LB w base v ps) (x : Prt × Nat) (hk : Kept w w' (fun k => v.ownBlock ≠ some k))
    (ho : OwnG w' base 35 2 v' (ps.map (fun x => prow x.1.name (.slice (some ⟨x.2, 0, none⟩) 1 1)) ++ [prow x.1.name (.slice (some ⟨x.2, 0, none⟩) 1 1)])) (hd : ∃ c, w'.heap[x.2]? = some (.cells #[Mx.u8 c] 5 (0, 0)) ∧ x.1.data = [c]) : LB w' base v' (ps ++ [x]) := by
  refine ⟨by simpa using ho, fun y hy => ?_⟩
  rcases List.mem_append.1 hy with hy | hy
  · exact h.datKept hk y hy
  · simp at hy; rw [hy]; exact hd

theorem LB.set {w : World} {base g n c : Nat} {ps : List (Prt × Nat)} (h : LB w base (.slice (some ⟨g, 0, none⟩) n c) ps) (j : Nat) (x : Prt × Nat) (hj : j < ps.length) (hx : ∃ c, w.heap[x.2]? = some (.cells #[Mx.u8 c] 5 (0, 0)) ∧ x.1.data = [c]) :
    LB ((w.setCell ⟨g, j * 2, none⟩ (.string ⟨x.1.name.toArray⟩)).setCell ⟨g, j * 2 + 1, none⟩ (.slice (some ⟨x.2, 0, none⟩) 1 1)) base (.slice (some ⟨g, 0, none⟩) n c) (ps.set j x) := by
  have hk : Kept w ((w.setCell ⟨g, j * 2, none⟩ (.string ⟨x.1.name.toArray⟩)).setCell ⟨g, j * 2 + 1, none⟩ (.slice (some ⟨x.2, 0, none⟩) 1 1)) (fun k => (Value.slice (some ⟨g, 0, none⟩) n c).ownBlock ≠ some k) :=
    (Kept.set w g _ _ fun hn => hn rfl).trans (Kept.set _ g _ _ fun hn => hn rfl)
  refine ⟨?_, fun y hy => ?_⟩
  · have := h.own.set2 j (.string ⟨x.1.name.toArray⟩) (.slice (some ⟨x.2, 0, none⟩) 1 1) (by simpa using hj)
    rw [List.map_set]; exact this
  · rcases List.mem_or_eq_of_mem_set hy with h1 | h1
    · exact h.datKept hk y h1
    · subst h1
      obtain ⟨c, h2, h3⟩ := hx
      exact ⟨c, (hk.block _ (blk_lt h2) (ownsRow_not h.own.1 h2 (by decide))).trans h2, h3⟩
theorem LB.take {w : World} {base g n c : Nat} {ps : List (Prt × Nat)} (h : LB w base (.slice (some ⟨g, 0, none⟩) n c) ps) (m : Nat) (hm : m ≤ ps.length) : LB w base (.slice (some ⟨g, 0, none⟩) m c) (ps.take m) :=
  ⟨by rw [List.map_take]; exact OwnG.prefix h.own m (by simpa using hm), fun x hx => h.dat x (List.mem_of_mem_take hx)⟩
theorem LB.cells {w : World} {base g n c : Nat} {ps : List (Prt × Nat)} (h : LB w base (.slice (some ⟨g, 0, none⟩) n c) ps) (j : Nat) (hj : j < ps.length) :
    (∀ w' (k : IntKind), (Instr.indexAt 22 (.slice (some ⟨g, 0, none⟩) n c) (.int k (j : Int))).run Try.prog w' = .ok (.pointer (some ⟨g, j * 2, none⟩)) w') ∧ w.cell? ⟨g, j * 2, none⟩ = some (.string ⟨(ps[j]).1.name.toArray⟩) ∧ w.cell? ⟨g, j * 2 + 1, none⟩ = some (.slice (some ⟨(ps[j]).2, 0, none⟩) 1 1) ∧ ∀ o, w.frozen? ⟨g, o, none⟩ = false := by
  obtain ⟨h1, h2, h3⟩ := h.own.addr (P := Try.prog) Try.underlying22 size35 j (by simpa using hj)
  have e : (ps.map fun x => prow x.1.name (.slice (some ⟨x.2, 0, none⟩) 1 1)).getD j [] = prow (ps[j]).1.name (.slice (some ⟨(ps[j]).2, 0, none⟩) 1 1) := by
    simp [List.getD_eq_getElem?_getD, List.getElem?_map, List.getElem?_eq_getElem hj]
  rw [e] at h2
  exact ⟨h1, h2 0 _ rfl, h2 1 _ rfl, h3⟩
theorem LB.shape {w : World} {base : Nat} {v : Value} {ps : List (Prt × Nat)} (h : LB w base v ps) (hp : ps ≠ []) : ∃ g c, v = .slice (some ⟨g, 0, none⟩) ps.length c ∧ ps.length ≤ c ∧ c ≤ maxLen := by
  rcases h.own.1.2 with ⟨rfl, h0⟩ | ⟨g, cap, cur, rfl, hb, hg, hn, hm, _⟩
  · exact absurd (List.eq_nil_of_length_eq_zero (by simpa using h0)) hp
  · rw [List.length_map] at hn
    exact ⟨g, cap, by rw [List.length_map], hn, hm⟩
theorem slice_to (g n c m : Nat) (hm : m ≤ n) (hn : n ≤ c) (hc : c ≤ maxLen) (w' : World) (k : IntKind) : (Instr.slice 22 (.slice (some ⟨g, 0, none⟩) n c) none (some (.int k (m : Int))) none).run Try.prog w' = .ok (.slice (some ⟨g, 0, none⟩) m c) w' := by
  have ht' : Try.prog.underlying 22 = some (.slice (Try.prog.elem 22)) := by rw [Try.underlying22]; simp [Program.elem, Try.underlying22]
  have hel : Try.prog.elem 22 = 35 := by simp [Program.elem, Try.underlying22]
  rw [run_slice_h (h := (m : Int)) (ht := ht') (h0 := by omega) (h2 := by omega), hel, size35]
  simp [Result.andThen, sliced, Addr.add]

theorem LB.put_bad {w : World} {base : Nat} {v : Value} {ps : List (Prt × Nat)} (h : LB w base v ps) (j : Nat) (hj : j + 1 < ps.length) (hl : ps.length ≤ 30) (hs : ∀ x ∈ ps, ∃ i, x.1 = prt i) (hb : lss (ps[j]'(by omega)).1.name (ps[j + 1]).1.name = false) :
    Calls Try.prog 15 #[v] w fun e w' => ∃ v, e = .returned (.tuple #[v, .int .i64 1]) ∧ OwnB w' w.heap.size 5 v [] ∧ Below w.heap.size w w' := by
  have hw : wt (ps.map (·.1)) ≤ 50000 := wt_small _ (fun p hp => by
    obtain ⟨x, hx, rfl⟩ := List.mem_map.1 hp
    obtain ⟨i, hi⟩ := hs x hx
    rw [hi]; simp [prt, pname]) (by simpa using hl)
  have hC := bput_any (ps.map (·.1)) v w h.sl hw
  have e1 : ∀ i (hi : i < ps.length), (ps.map (·.1)).getD i default = (ps[i]).1 := fun i hi => by simp [List.getD_eq_getElem?_getD, List.getElem?_map, List.getElem?_eq_getElem hi]
  rw [Bun.put_bad (ps.map (·.1)) j (by simpa using hj) (by rw [e1 j (by omega), e1 (j + 1) hj]; exact hb)] at hC
  exact hC
set_option maxRecDepth 100000 in
set_option maxHeartbeats 4000000 in
theorem borders_any (a0 b0 : Int) (s : List UInt8) (w : World) (ha : 0 ≤ a0 ∧ a0 ≤ 255) (hb : 0 ≤ b0 ∧ b0 ≤ 255) (hs : s.length ≤ maxLen) :
    Calls Try.prog 4 #[.int .u8 a0, .int .u8 b0, .string ⟨s.toArray⟩] w fun e w' => e = .returned (.bool true) ∧ Below w.heap.size w w' := by
  obtain ⟨a, rfl⟩ := Int.eq_ofNat_of_zero_le ha.1
  obtain ⟨b, rfl⟩ := Int.eq_ofNat_of_zero_le hb.1
  by_cases h100 : 100 < s.length
  · go_enter Try.func4, Try.ntmps4
    go_wp2_with fail
    refine (bawake_any _).mono ?_
    rintro e w2 ⟨rfl, hb2⟩
    go_wp2
    go_ret
    exact ⟨rfl, hb2⟩
  obtain ⟨k, hk⟩ : ∃ k : Nat, (k : Int) = 2 + (a : Int) % 20 := ⟨2 + a % 20, by omega⟩
  have hkr : 2 ≤ k ∧ k ≤ 21 := by omega
  have hk' : (2 + (a : Int) % 20) = k := hk.symm
  clear hk
  go_enter Try.func4, Try.ntmps4
  go_wp2_with fail
  go_loopw [8, 9] (fun lv i wr => ∃ (n : Nat) (ps : List (Prt × Nat)), n ≤ k ∧ i = .int .i64 n ∧ LB wr w.heap.size lv ps ∧ ps.map (·.1) = prts n ∧ Below w.heap.size w wr) (fun _ i _ => k - (intOf i).toNat)
  case atStart => exact ⟨0, [], by omega, rfl, LB.nil _ _, rfl, Below.refl _ _⟩
  case round =>
    obtain ⟨i, ps, hi, rfl, hL, hps, hbl⟩ := hrel
    by_cases hlt : i < k
    · have hx : (97 + (i : Int)) = ((97 + UInt8.ofNat i : UInt8).toNat : Int) := by
        rw [UInt8.toNat_add, UInt8.toNat_ofNat', show (97 : UInt8).toNat = 97 from rfl]; omega
      have hy : (i : Int) = ((UInt8.ofNat i).toNat : Int) := by rw [UInt8.toNat_ofNat']; omega
      have hsl := sl2 wr 112 (97 + (i : Int)) 112 (97 + UInt8.ofNat i) 5 rfl hx
      have hcv := conv_sl (P := Try.prog) (src := 25) (dst := 9) (e := 5) Try.underlying25 Try.underlying5 Try.underlying9 hsl
      have hpl : ps.length = i := by have := congrArg List.length hps; rwa [List.length_map, prts_len] at this
      obtain ⟨row, hrow⟩ : ∃ row, row = prow (pname i) (.slice (some ⟨wr.heap.size + 1, 0, none⟩) 1 1) := ⟨_, rfl⟩
      obtain ⟨W2, hW2⟩ : ∃ W2, W2 = (wr.alloc (.cells #[.int .u8 112, .int .u8 (97 + (i : Int))] 5)).alloc (.cells #[.int .u8 i] 5) := ⟨_, rfl⟩
      have hz2 : W2.heap.size = wr.heap.size + 1 + 1 := by rw [hW2]; simp
      have hd2 : W2.heap[wr.heap.size + 1]? = some (.cells #[Mx.u8 (UInt8.ofNat i)] 5 (0, 0)) := by
        have h1 := alloc_new (wr.alloc (.cells #[.int .u8 112, .int .u8 (97 + (i : Int))] 5)) (.cells #[.int .u8 i] 5)
        rw [← hW2] at h1
        rw [show (wr.alloc (.cells #[.int .u8 112, .int .u8 (97 + (i : Int))] 5)).heap.size = wr.heap.size + 1 by simp] at h1
        rw [h1]; show some (Obj.cells #[Value.int .u8 (i : Int)] 5 (0, 0)) = some (Obj.cells #[Value.int .u8 ((UInt8.ofNat i).toNat : Int)] 5 (0, 0))
        rw [← hy]
      have hb2 : Below wr.heap.size wr W2 := by rw [hW2]; exact ((Below.refl _ _).alloc (Nat.le_refl _) _).alloc (by simp) _
      have hb3 : Below wr.heap.size wr (W2.alloc (.cells row.toArray 35)) := hb2.alloc hb2.size _
      have hd3 : (W2.alloc (.cells row.toArray 35)).heap[wr.heap.size + 1]? = some (.cells #[Mx.u8 (UInt8.ofNat i)] 5 (0, 0)) := ((((Below.refl W2.heap.size W2).alloc (Nat.le_refl _) (.cells row.toArray 35)).block _ (by omega))).trans hd2
      have hrc := row_cells W2 row 35
      rw [hz2] at hrc
      have hL3 := hL.below hb3
      have hbl3 := hbl.trans (hb3.mono hbl.size)
      have ho3 := hL3.own
      have hbz3 := hbl3.size
      have HL := hid (And.intro hL3 (And.intro hps (And.intro hbl3 hd3)))
      rw [hW2, hrow] at HL ho3 hrc hbz3
      have hml : (ps.map fun x => prow x.1.name (.slice (some ⟨x.2, 0, none⟩) 1 1)).length = i := by simp [hpl]
      obtain ⟨rows, hrows⟩ : ∃ r, r = ps.map fun x => prow x.1.name (.slice (some ⟨x.2, 0, none⟩) 1 1) := ⟨_, rfl⟩
      rw [← hrows] at ho3 hml
      have HRW := hid hrows
      have hbz := hbl.size
      clear hL hps hbl hsl hx hy hL3 hbl3 hb2 hb3 hd2 hd3 hz2 hrows hW2 hrow hpl
      go_wp2_with (at_builtin; refine append_g _ rfl _ _ 22 35 _ 2 40 rfl Try.underlying22 Try.info35 rfl (by decide) w.heap.size _ rows rfl ho3 (wr.heap.size + 1 + 1) 1 (prow (pname i) (.slice (some ⟨wr.heap.size + 1, 0, none⟩) 1 1)) rfl rfl hrc (prow_one _ _ _ _) (by omega) (by omega) hbz3 ?_)
      intro v3 w3 ho4 hg3 hb3
      have hk3 : Kept _ w3 (fun k => Value.ownBlock _ ≠ some k) := Kept.grown hg3 fun k e hn => hn e
      have hd4 := (hk3.block _ (blk_lt HL.out.2.2.2) (ownsRow_not HL.out.1.own.1 HL.out.2.2.2 (by decide))).trans HL.out.2.2.2
      have L4 := HL.out.1.snoc (prt i, wr.heap.size + 1) hk3 (by rw [← HRW.out]; exact ho4) ⟨_, hd4, rfl⟩
      have HL4 := hid (And.intro L4 (HL.out.2.2.1.trans hb3))
      have hps4 : (ps ++ [(prt i, wr.heap.size + 1)]).map (·.1) = prts (i + 1) := by rw [List.map_append, HL.out.2.1, prts_succ]; rfl
      clear hk3 hd4 L4 ho4 hg3 hb3
      go_wp2
      go_roundw
      case rel => exact ⟨i + 1, _, by omega, by go_num, HL4.out.1, hps4, HL4.out.2⟩
      case measure => simp [intOf]; omega
    · obtain rfl : i = k := by omega
      have hS := hL.sl
      rw [hps] at hS
      have hpl : ps.length = i := by have := congrArg List.length hps; rwa [List.length_map, prts_len] at this
      have hwt : wt (prts i) ≤ 50000 := wt_small _ (fun p hp => by
        unfold prts at hp
        obtain ⟨n, _, rfl⟩ := List.mem_map.1 hp
        simp [prt, pname]) (by rw [prts_len]; omega)
      have HC := hid (bput_any (prts i) u8 wr hS hwt)
      have HL := hid (And.intro hL (And.intro hps hbl))
      have hp16 : Bun.putR (prts i) = if 16 < i then ([], 9) else (bunB ((prts i).map itm), 0) := by
        unfold Bun.putR; rw [prts_rise i (by omega), if_pos rfl, prts_len]
      clear hS hL hps hbl hwt
      obtain ⟨bs, n2, hR, hd9, hd0⟩ : ∃ bs n2, Bun.putR (prts i) = (bs, n2) ∧ (n2 = 9 ∧ 16 < i ∨ n2 = 0 ∧ i ≤ 16 ∧ ((bs.length : Int) == 0) = false) ∧ True := by
        by_cases h16 : 16 < i
        · exact ⟨[], 9, by rw [hp16, if_pos h16], .inl ⟨rfl, h16⟩, trivial⟩
        · exact ⟨_, 0, by rw [hp16, if_neg h16], .inr ⟨rfl, by omega, by rw [beq_eq_false_iff_ne, bun_len]; omega⟩, trivial⟩
      rw [hR] at HC
      clear hp16 hR hd0
      go_wp2_with fail
      refine HC.out.mono ?_
      rintro e w2 ⟨v2, rfl, ho2, hb2⟩
      have L2 := HL.out.1.below hb2
      have hlv := fun w' => ho2.slB.len (P := Try.prog) (ty := 3) Try.underlying25 w'
      have HL2 := hid (And.intro L2 (And.intro HL.out.2.1 (HL.out.2.2.trans (hb2.mono HL.out.2.2.size))))
      clear HC L2 ho2 hb2 HL
      obtain ⟨g, c, hv, hc1, hc2⟩ := HL2.out.1.shape (by intro e; rw [e] at hpl; simp at hpl; omega)
      rw [hpl] at hv hc1
      subst hv
      obtain ⟨M, hM, hMr⟩ : ∃ M : Nat, 2 + (b : Int) % (min (i : Int) 16 - 1) = (M : Int) ∧ 2 ≤ M ∧ M ≤ i ∧ M ≤ 16 := by
        have h1 := Int.emod_nonneg (b : Int) (show min (i : Int) 16 - 1 ≠ 0 by omega)
        have h2 := Int.emod_lt_of_pos (b : Int) (show 0 < min (i : Int) 16 - 1 by omega)
        exact ⟨(2 + (b : Int) % (min (i : Int) 16 - 1)).toNat, by omega, by omega, by omega, by omega⟩
      obtain ⟨j, hj, hjr⟩ : ∃ j : Nat, (b : Int) % ((M : Int) - 1) = (j : Int) ∧ j + 1 < M := by
        have h1 := Int.emod_nonneg (b : Int) (show (M : Int) - 1 ≠ 0 by omega)
        have h2 := Int.emod_lt_of_pos (b : Int) (show 0 < (M : Int) - 1 by omega)
        exact ⟨((b : Int) % ((M : Int) - 1)).toNat, by omega, by omega⟩
      have hsl := slice_to g i c M hMr.2.1 (by omega) hc2
      have LT := HL2.out.1.take M (by omega)
      have hpt : (ps.take M).map (·.1) = prts M := by
        rw [List.map_take, HL2.out.2.1]; unfold prts; rw [← List.map_take, List.take_range, Nat.min_eq_left hMr.2.1]
      obtain ⟨qs, hqs⟩ : ∃ qs, qs = ps.take M := ⟨_, rfl⟩
      rw [← hqs] at LT hpt
      have hql : qs.length = M := by rw [hqs]; simp; omega
      have HT := hid (And.intro LT (And.intro hpt HL2.out.2.2))
      obtain ⟨i0, c0, c1, fz⟩ := LT.cells j (by omega)
      obtain ⟨i1, d0, d1, _⟩ := LT.cells (j + 1) (by omega)
      rw [show ((j + 1 : Nat) : Int) = (j : Int) + 1 by omega] at i1
      obtain ⟨x0, hx0⟩ : ∃ x, x = qs[j]'(by omega) := ⟨_, rfl⟩
      obtain ⟨x1, hx1⟩ : ∃ x, x = qs[j + 1]'(by omega) := ⟨_, rfl⟩
      rw [← hx0] at c0 c1
      rw [← hx1] at d0 d1
      have HXX := hid (And.intro hx0 hx1)
      clear hqs LT hpt HL2 hpl hx0 hx1
      have hwM : IntKind.i64.wrap (M : Int) = (M : Int) := IntWalk.i64_in _ (by omega)
      rcases hd9 with ⟨rfl, h16⟩ | ⟨rfl, h16, hbl0⟩
      all_goals
        go_upto_region 14 with (first
          | (go_at_call 18; refine (bnumE_any _ _).mono ?_; rintro e w' ⟨rfl, rfl⟩))
        rw [hj]
        go_upto_region 15 with (fail)
        obtain ⟨w3, hw3⟩ : ∃ w3, w3 = w2.alloc (.cells #[.string ⟨x0.1.name.toArray⟩, .slice (some ⟨x0.2, 0, none⟩) 1 1] 35) := ⟨_, rfl⟩
        obtain ⟨q, hq⟩ : ∃ q, q = w2.heap.size := ⟨_, rfl⟩
        have hb3 : Below w2.heap.size w2 w3 := by rw [hw3]; exact (Below.refl _ _).alloc (Nat.le_refl _) _
        have hbx : w3.heap[q]? = some (.cells #[.string ⟨x0.1.name.toArray⟩, .slice (some ⟨x0.2, 0, none⟩) 1 1] 35 (0, 0)) := by rw [hw3, hq]; exact alloc_new w2 _
        have L3 := HT.out.1.below hb3
        have hbw3 := HT.out.2.2.trans (hb3.mono HT.out.2.2.size)
        have hgq : g ≠ q := by
          have := HT.out.1.own.lt g rfl; omega
        rw [← hw3, ← hq]
        have HT3 := hid (And.intro L3 (And.intro hbw3 (And.intro hbx (And.intro hgq HT.out.2.1))))
        clear hw3 hq HT hb3 c0 c1 d0 d1 fz i0 i1 L3 hbw3 hbx
        obtain ⟨i0, c0, c1, fz⟩ := HT3.out.1.cells j (by omega)
        obtain ⟨i1, d0, d1, _⟩ := HT3.out.1.cells (j + 1) (by omega)
        rw [show ((j + 1 : Nat) : Int) = (j : Int) + 1 by omega] at i1
        rw [← HXX.out.1] at c0 c1
        rw [← HXX.out.2] at d0 d1
        have f1 := fz (j * 2)
        have f2 := fz (j * 2 + 1)
        clear fz
        go_upto_region 16 with (fail)
        have hql3 : (qs.map (·.1)) = prts M := HT3.out.2.2.2.2
        have hat : ∀ n (hn : n < qs.length), (qs[n]).1 = prt n := fun n hn => by
          have h1 := congrArg (fun l : List Prt => l.getD n default) hql3
          simp only [prts_at M n (by omega)] at h1
          rw [← h1]; simp [List.getD_eq_getElem?_getD, List.getElem?_map, List.getElem?_eq_getElem hn]
        have hm0 : x0 ∈ qs := by rw [HXX.out.1]; exact List.getElem_mem _
        have hm1 : x1 ∈ qs := by rw [HXX.out.2]; exact List.getElem_mem _
        have e0 : x0.1 = prt j := by rw [HXX.out.1]; exact hat j (by omega)
        have e1 : x1.1 = prt (j + 1) := by rw [HXX.out.2]; exact hat (j + 1) (by omega)
        have hall : ∀ x ∈ qs, ∃ n, x.1 = prt n := fun x hx => by obtain ⟨n, hn, rfl⟩ := List.getElem_of_mem hx; exact ⟨n, hat n hn⟩
        have hge : w.heap.size ≤ g := HT3.out.1.own.ge g rfl
        have L4 := HT3.out.1.set j x1 (by omega) (HT3.out.1.dat x1 hm1)
        obtain ⟨w4, hw4⟩ : ∃ w4, w4 = (w3.setCell ⟨g, j * 2, none⟩ (.string ⟨x1.1.name.toArray⟩)).setCell ⟨g, j * 2 + 1, none⟩ (.slice (some ⟨x1.2, 0, none⟩) 1 1) := ⟨_, rfl⟩
        have hbx4 : w4.heap[q]? = some (.cells #[.string ⟨x0.1.name.toArray⟩, .slice (some ⟨x0.2, 0, none⟩) 1 1] 35 (0, 0)) := by
          rw [hw4]; exact (Below.heap_setCell _ ⟨g, _, none⟩ _ q HT3.out.2.2.2.1.symm).trans ((Below.heap_setCell _ ⟨g, _, none⟩ _ q HT3.out.2.2.2.1.symm).trans HT3.out.2.2.1)
        have hbw4 : Below w.heap.size w w4 := by rw [hw4]; exact (HT3.out.2.1.setCell (p := ⟨g, j * 2, none⟩) hge _).setCell (p := ⟨g, j * 2 + 1, none⟩) hge _
        rw [← hw4] at L4 ⊢
        have hd0 : ∃ c, w4.heap[x0.2]? = some (.cells #[Mx.u8 c] 5 (0, 0)) ∧ x0.1.data = [c] := by
          rw [hw4]
          exact HT3.out.1.datKept (w' := (w3.setCell ⟨g, j * 2, none⟩ (.string ⟨x1.1.name.toArray⟩)).setCell ⟨g, j * 2 + 1, none⟩ (.slice (some ⟨x1.2, 0, none⟩) 1 1)) ((Kept.set w3 g _ _ fun hn => hn rfl).trans (Kept.set _ g _ _ fun hn => hn rfl)) x0 hm0
        have q0 : w4.cell? ⟨q, 0, none⟩ = some (.string ⟨x0.1.name.toArray⟩) := by simp [World.cell?, hbx4]
        have q1 : w4.cell? ⟨q, 1, none⟩ = some (.slice (some ⟨x0.2, 0, none⟩) 1 1) := by simp [World.cell?, hbx4]
        clear i0 i1 c0 c1 d0 d1 f1 f2 hw4 hbx4
        obtain ⟨i1, _, _, fz⟩ := L4.cells (j + 1) (by rw [List.length_set]; omega)
        rw [show ((j + 1 : Nat) : Int) = (j : Int) + 1 by omega] at i1
        have f1 := fz ((j + 1) * 2)
        have f2 := fz ((j + 1) * 2 + 1)
        have L5 := L4.set (j + 1) x0 (by rw [List.length_set]; omega) hd0
        have HT4 := hid (And.intro L5 (And.intro hbw4 (And.intro hd0 hge)))
        have HE := hid (And.intro e0 (And.intro e1 (And.intro hall (And.intro hm0 hm1))))
        clear fz L4 L5 hbw4 hd0 hat hql3 e0 e1 hall hm0 hm1 HT3
        go_upto_region 17 with (fail)
        obtain ⟨w5, hw5⟩ : ∃ w5, w5 = (w4.setCell ⟨g, (j + 1) * 2, none⟩ (.string ⟨x0.1.name.toArray⟩)).setCell ⟨g, (j + 1) * 2 + 1, none⟩ (.slice (some ⟨x0.2, 0, none⟩) 1 1) := ⟨_, rfl⟩
        rw [← hw5]
        rw [← hw5] at HT4
        have hbw5 : Below w.heap.size w w5 := by rw [hw5]; exact (HT4.out.2.1.setCell (p := ⟨g, (j + 1) * 2, none⟩) HT4.out.2.2.2 _).setCell (p := ⟨g, (j + 1) * 2 + 1, none⟩) HT4.out.2.2.2 _
        have g0 : ((qs.set j x1).set (j + 1) x0)[j]? = some x1 := by rw [List.getElem?_set_ne (by omega), List.getElem?_set_self (by omega)]
        have g1 : ((qs.set j x1).set (j + 1) x0)[j + 1]? = some x0 := by rw [List.getElem?_set_self (by rw [List.length_set]; omega)]
        have gall : ∀ x ∈ (qs.set j x1).set (j + 1) x0, ∃ n, x.1 = prt n := fun x hx => by
          rcases List.mem_or_eq_of_mem_set hx with h1 | rfl
          · rcases List.mem_or_eq_of_mem_set h1 with h2 | rfl
            · exact HE.out.2.2.1 x h2
            · exact ⟨_, HE.out.2.1⟩
          · exact ⟨_, HE.out.1⟩
        obtain ⟨ps2, hps2⟩ : ∃ l, l = (qs.set j x1).set (j + 1) x0 := ⟨_, rfl⟩
        have hl2 : ps2.length = M := by rw [hps2]; simp; omega
        rw [← hps2] at g0 g1 gall HT4
        have k0 : ps2[j]'(by omega) = x1 := (List.getElem?_eq_some_iff.1 g0).2
        have k1 : ps2[j + 1]'(by omega) = x0 := (List.getElem?_eq_some_iff.1 g1).2
        have HC2 := hid (HT4.out.1.put_bad j (by omega) (by omega) gall (by rw [k0, k1, HE.out.1, HE.out.2.1]; exact pname_not j (by omega)))
        have hm0' : x0 ∈ ps2 := by rw [← k1]; exact List.getElem_mem _
        have HK := hid (And.intro k0 (And.intro k1 (And.intro gall (And.intro hm0' hbw5))))
        clear g0 g1 gall hps2 k0 k1 hm0' hbw5 hw5 i1 f1 f2 q0 q1
        go_wp2_with fail
        refine HC2.out.mono ?_
        rintro e w6 ⟨v6, rfl, -, hb6⟩
        have L6 := HT4.out.1.below hb6
        have hbw6 := HK.out.2.2.2.2.trans (hb6.mono HK.out.2.2.2.2.size)
        obtain ⟨i0, _, _, fz⟩ := L6.cells j (by omega)
        obtain ⟨i1, d0, d1, _⟩ := L6.cells (j + 1) (by omega)
        rw [show ((j + 1 : Nat) : Int) = (j : Int) + 1 by omega] at i1
        rw [HK.out.2.1] at d0 d1
        have f1 := fz (j * 2)
        have f2 := fz (j * 2 + 1)
        have L7 := L6.set j x0 (by omega) (L6.dat x0 HK.out.2.2.2.1)
        have HT6 := hid (And.intro L7 (And.intro hbw6 HT4.out.2.2.2))
        clear fz L6 L7 hb6 hbw6 HC2 HT4
        go_upto_region 19 with (fail)
        obtain ⟨w7, hw7⟩ : ∃ w7, w7 = (w6.setCell ⟨g, j * 2, none⟩ (.string ⟨x0.1.name.toArray⟩)).setCell ⟨g, j * 2 + 1, none⟩ (.slice (some ⟨x0.2, 0, none⟩) 1 1) := ⟨_, rfl⟩
        rw [← hw7]
        rw [← hw7] at HT6
        have hbw7 : Below w.heap.size w w7 := by rw [hw7]; exact (HT6.out.2.1.setCell (p := ⟨g, j * 2, none⟩) HT6.out.2.2 _).setCell (p := ⟨g, j * 2 + 1, none⟩) HT6.out.2.2 _
        have g0 : (ps2.set j x0)[j]? = some x0 := List.getElem?_set_self (by omega)
        have g1 : (ps2.set j x0)[j + 1]? = some x0 := by rw [List.getElem?_set_ne (by omega), List.getElem?_eq_getElem (by omega), HK.out.2.1]
        have k0 : (ps2.set j x0)[j]'(by rw [List.length_set]; omega) = x0 := (List.getElem?_eq_some_iff.1 g0).2
        have k1 : (ps2.set j x0)[j + 1]'(by rw [List.length_set]; omega) = x0 := (List.getElem?_eq_some_iff.1 g1).2
        have HC3 := hid (HT6.out.1.put_bad j (by rw [List.length_set]; omega) (by rw [List.length_set]; omega) (fun x hx => by
          rcases List.mem_or_eq_of_mem_set hx with h1 | rfl
          · exact HK.out.2.2.1 x h1
          · exact ⟨_, HE.out.1⟩) (by rw [k0, k1]; exact lss_irr _))
        clear g0 g1 k0 k1 hw7 HT6 i0 i1 d0 d1 f1 f2
        go_wp2_with fail
        refine HC3.out.mono ?_
        rintro e w8 ⟨v8, rfl, -, hb8⟩
        have hbw8 := hbw7.trans (hb8.mono hbw7.size)
        obtain ⟨w9, hw9⟩ : ∃ w9, w9 = w8.alloc (.cells #[.string ⟨#[78, 111, 116, 32, 65, 32, 78, 97, 109, 101]⟩, .slice none 0 0] 35) := ⟨_, rfl⟩
        have hb9 : Below w8.heap.size w8 w9 := by rw [hw9]; exact (Below.refl _ _).alloc (Nat.le_refl _) _
        have hn9 : w9.heap[w8.heap.size]? = some (.cells #[.string ⟨#[78, 111, 116, 32, 65, 32, 78, 97, 109, 101]⟩, .slice none 0 0] 35 (0, 0)) := by rw [hw9]; exact alloc_new w8 _
        have hS9 : SlPt w9 w9.heap.size (.slice (some ⟨w8.heap.size, 0, none⟩) 1 1) [⟨[78, 111, 116, 32, 65, 32, 78, 97, 109, 101], []⟩] := by
          refine ⟨[[.string ⟨#[78, 111, 116, 32, 65, 32, 78, 97, 109, 101]⟩, .slice none 0 0]], rfl, ⟨_, 1, rfl, by simp, by simp [maxLen], fun _ => ⟨_, 0, rfl, blk_lt hn9, ?_⟩⟩, ?_⟩
          · intro n hn jj v hv
            have : n = 0 := by simpa using hn
            subst this
            match jj with
            | 0 => simp at hv; subst hv; simp [World.cell?, hn9]
            | 1 => simp at hv; subst hv; simp [World.cell?, hn9]
            | jj + 2 => simp at hv
          · intro n hn
            have : n = 0 := by simpa using hn
            subst this
            exact ⟨_, rfl, SlB.nil _ _⟩
        have HC9 := hid (bput_any _ _ w9 hS9 (by decide))
        rw [show Bun.putR [⟨[78, 111, 116, 32, 65, 32, 78, 97, 109, 101], []⟩] = ([], 1) by decide +kernel, hw9] at HC9
        have hbw9 := hbw8.trans (hb9.mono hbw8.size)
        rw [hw9] at hbw9
        have HB9 := hid hbw9
        clear hb8 hbw8 hb9 hn9 hS9 hw9 HC3 hbw7 hbw9
        go_wp2_with fail
        refine HC9.out.mono ?_
        rintro e w10 ⟨v10, rfl, -, hb10⟩
        have HB10 := hid (HB9.out.trans (hb10.mono HB9.out.size))
        clear hb10 HC9
        go_wp2_with (first
          | (go_at_call 18; refine (bnumE_any _ _).mono ?_; rintro e w' ⟨rfl, rfl⟩)
          | (go_at_call 14; refine (bawake_any _).mono ?_; rintro e w11 ⟨rfl, hb11⟩))
        go_ret
        exact ⟨rfl, HB10.out.trans (hb11.mono HB10.out.size)⟩
end Go.Proofs.Ytoccgpddmhhlgaa
