import Derived.Test.YtpgdncpomacghaaY
import Derived.Test.YtpgdncpomacghaaQ
import Derived.Deep.Slices
import Derived.Deep.Fields
import Derived.ChangeSame
import Derived.OpenShut
import Derived.ProofKit
import Derived.ChangeOld
namespace Go.Proofs.Ytpgdncpomacghaa
open Go.ChangeShapes Go.WideShapes Go.ChangeAt Go.RowKit Go.Deep Go.Mx Go.Cnt

section
variable {H : Type} {enc : TypeId × Value → H} {P : Program} {w : World} {base : Nat} {spare : Nat → Bool} {held : Bool}

theorem plain_spot {w : World} {x : Addr} {v : Value} (h : w.cell? x = some v) : x = ⟨x.block, x.off, none⟩ ∧ ∀ j, x.add j = ⟨x.block, x.off + j, none⟩ := by
  have hsp : x.spot = none := by
    unfold World.cell? at h
    split at h
    · split at h
      · cases h
      · rename_i hs
        cases hx : x.spot with
        | none => rfl
        | some sp => simp [hx] at hs
    · cases h
  obtain ⟨b, o, s⟩ := x
  simp only at hsp
  subst hsp
  refine ⟨rfl, fun j => ?_⟩
  unfold Addr.add; split <;> simp_all

theorem rows_of {t e : TypeId} {fuel s : Nat} {cs : List Value} {x : DataW H × List MemPlace} (ht : P.underlying t = some (.slice e)) (hC : P.cellsOf e = s) (hs : 0 < s) (h : DataW.trod enc P w base spare held fuel t cs = some x) :
    ∃ (v : Value) (rows : List (List Value)), cs = [v] ∧ SlG w w.heap.size s v rows ∧ ∀ i, i < rows.length → ∃ n y, DataW.trod enc P w base spare held n e (rows.getD i []) = some y := by
  rcases open_slice ht h with ⟨rfl, _⟩ | ⟨a, len, cap, m, n, D, Pl, rfl, hb, hl, hm, hmm, hx, hi⟩
  · exact ⟨_, [], rfl, SlG.nil _ _ _, fun i hi => absurd hi (by simp)⟩
  · rw [hC] at hi
    have hlm : len ≤ m := by rw [hmm]; split <;> omega
    have hg : ∀ i, i < len → (((List.range len).map fun i => (w.cells? base (a.add (i * s)) s).getD []).getD i []) = (w.cells? base (a.add (i * s)) s).getD [] := by
      intro i h; simp [List.getD_eq_getElem?_getD, h]
    refine ⟨_, (List.range len).map fun i => (w.cells? base (a.add (i * s)) s).getD [], rfl, ⟨some a, cap, by simp, by simpa using hl, hm, fun hn => ?_⟩, ?_⟩
    · have hlen : 0 < len := by
        rcases Nat.eq_zero_or_pos len with h | h
        · subst h; simp at hn
        · exact h
      obtain ⟨c0, h0, _⟩ := hi 0 (by omega)
      obtain ⟨_, hl0, ha0⟩ := World.cells?_some h0
      have h00 := ha0 0 hs
      rw [List.getElem?_eq_getElem (by omega)] at h00
      have h01 : w.cell? a = some c0[0] := by simpa [Addr.add] using h00
      obtain ⟨e3, e4⟩ := plain_spot h01
      refine ⟨a.block, a.off, by rw [← e3], ?_, ?_⟩
      · exact World.block_lt_of_cell? w _ h01
      · intro i hi' j v hv
        simp only [List.length_map, List.length_range] at hi'
        rw [hg i hi'] at hv
        obtain ⟨ci, hci, _⟩ := hi i (by omega)
        obtain ⟨_, hli, hai⟩ := World.cells?_some hci
        rw [hci] at hv
        simp only [Option.getD_some] at hv
        have hj : j < s := by have := (List.getElem?_eq_some_iff.1 hv).1; omega
        have := hai j hj
        rw [e4 (i * s)] at this
        rw [← hv, ← this]
        unfold Addr.add
        by_cases hj0 : j = 0
        · rw [if_pos hj0, hj0]; rfl
        · rw [if_neg hj0]
    · intro i hi'
      simp only [List.length_map, List.length_range] at hi'
      obtain ⟨ci, hci, hti⟩ := hi i (by omega)
      refine ⟨n, (D i, Pl i), ?_⟩
      rw [hg i hi', hci]
      exact hti

theorem pick_list {α β : Type} (d : α) (e : β) (l : List α) (R : α → β → Prop) (h : ∀ i, i < l.length → ∃ b, R (l.getD i d) b) : ∃ bs : List β, bs.length = l.length ∧ ∀ i, i < l.length → R (l.getD i d) (bs.getD i e) := by
  classical
  refine ⟨(List.range l.length).map fun i => if h : ∃ b, R (l.getD i d) b then h.choose else e, by simp, fun i hi => ?_⟩
  have e2 : ((List.range l.length).map fun i => if h : ∃ b, R (l.getD i d) b then h.choose else e).getD i e = if h : ∃ b, R (l.getD i d) b then h.choose else e := by
    simp [List.getD_eq_getElem?_getD, hi]
  rw [e2, dif_pos (h i hi)]
  exact (h i hi).choose_spec

theorem rows_map {α β : Type} (d : List α) (e : β) (rows : List (List α)) (bs : List β) (f : β → List α) (hl : bs.length = rows.length) (h : ∀ i, i < rows.length → rows.getD i d = f (bs.getD i e)) : rows = bs.map f := by
  apply List.ext_getElem
  · simp [hl]
  · intro i h1 h2
    have := h i h1
    simp only [List.getD_eq_getElem?_getD, List.getElem?_eq_getElem h1, List.getElem?_eq_getElem (show i < bs.length by omega), Option.getD_some] at this
    simpa using this

theorem zip_maps {α β γ : Type} (f : α → β → γ) (ps : List (α × β)) : List.zipWith f (ps.map (·.1)) (ps.map (·.2)) = ps.map fun p => f p.1 p.2 := by
  induction ps with
  | nil => rfl
  | cons a l ih => simp [ih]

theorem cells_of {t : TypeId} {fs : Array Field} {fuel : Nat} {cs : List Value} {x : DataW H × List MemPlace} (hs : P.underlying t = some (.struct fs)) (hone : oneCellFields P fs = true) (hC : P.cellsOf t = fs.size)
    (h : DataW.trod enc P w base spare held fuel t cs = some x) :
    cs.length = fs.size ∧ ∃ n, ∀ (j : Nat) (f : Field), fs[j]? = some f → ∃ v y, cs[j]? = some v ∧ DataW.trod enc P w base spare held n f.type [v] = some y := by
  obtain ⟨ys, n', hn', hy, hlen, hyl, hf⟩ := DataW.trod_struct hs h
  refine ⟨by rw [hlen, hC], n', fun j f hj => ?_⟩
  obtain ⟨ho, hk⟩ := hone_of hone j f hj
  have hjl : j < fs.size := (Array.getElem?_eq_some_iff.1 hj).1
  have hv : cs[j]? = some (cs[j]'(by omega)) := List.getElem?_eq_getElem (by omega)
  have h1 := hf j f hj
  rw [ho, hk] at h1
  have hone' : (cs.drop j).take 1 = [cs[j]'(by omega)] := by
    rw [List.drop_eq_getElem_cons (by omega)]
    rfl
  rw [hone'] at h1
  have hys : ys[j]? = some (ys[j]'(by omega)) := List.getElem?_eq_getElem (by omega)
  exact ⟨_, _, hv, h1.trans hys⟩
end

section
variable {H : Type} {enc : TypeId × Value → H} {w : World} {base : Nat} {spare : Nat → Bool} {held : Bool}

theorem int_of {n : Nat} {v : Value} {y : DataW H × List MemPlace} (h : DataW.trod enc Try.prog w base spare held n 3 [v] = some y) : ∃ k, v = .int .i64 k ∧ -9223372036854775808 ≤ k ∧ k ≤ 9223372036854775807 := by
  obtain ⟨k, e, _, hw⟩ := DataW.trod_int Try.underlying3 h
  have := wf_i64 hw
  exact ⟨k, by simpa using e, this.1, this.2⟩
theorem u32_of {n : Nat} {v : Value} {y : DataW H × List MemPlace} (h : DataW.trod enc Try.prog w base spare held n 37 [v] = some y) : ∃ k, v = .int .u32 k := by
  obtain ⟨k, e, _, hw⟩ := DataW.trod_int Try.underlying37 h
  exact ⟨k, by simpa using e⟩
theorem str_of {n : Nat} {v : Value} {y : DataW H × List MemPlace} (h : DataW.trod enc Try.prog w base spare held n 9 [v] = some y) : ∃ s : List UInt8, v = .string ⟨s.toArray⟩ ∧ s.length ≤ 9223372036854775807 := by
  obtain ⟨s, e, _, hw⟩ := DataW.trod_string Try.underlying9 h
  refine ⟨s.data.toList, by simpa using e, ?_⟩
  have h2 : s.data.toList.length = s.size := by simp
  rw [h2]; unfold maxLen at hw; omega
theorem bool_of {n : Nat} {v : Value} {y : DataW H × List MemPlace} (h : DataW.trod enc Try.prog w base spare held n 4 [v] = some y) : ∃ b, v = .bool b := by
  obtain ⟨b, e, _⟩ := DataW.trod_bool Try.underlying4 h
  exact ⟨b, by simpa using e⟩

theorem ent_of {n : Nat} {cs : List Value} {y : DataW H × List MemPlace} (h : DataW.trod enc Try.prog w base spare held n 39 cs = some y) : ∃ E, cs = entC E ∧ WfE E := by
  obtain ⟨hl, n, hf⟩ := cells_of Try.underlying39 (by kernel_rfl) (by kernel_rfl) h
  obtain ⟨v0, _, h0, t0⟩ := hf 0 _ rfl
  obtain ⟨v1, _, h1, t1⟩ := hf 1 _ rfl
  obtain ⟨v2, _, h2, t2⟩ := hf 2 _ rfl
  obtain ⟨v3, _, h3, t3⟩ := hf 3 _ rfl
  obtain ⟨v4, _, h4, t4⟩ := hf 4 _ rfl
  obtain ⟨k, rfl, k1, k2⟩ := int_of t0
  obtain ⟨s, rfl, s1, s2⟩ := int_of t1
  obtain ⟨c, rfl, q1, q2⟩ := int_of t2
  obtain ⟨z, rfl, z1, z2⟩ := int_of t3
  obtain ⟨u, rfl⟩ := u32_of t4
  match cs, hl with
  | [a, b, c', d, e], _ =>
    simp only [List.getElem?_cons_zero, List.getElem?_cons_succ, Option.some.injEq] at h0 h1 h2 h3 h4
    subst h0 h1 h2 h3 h4
    exact ⟨⟨k, s, c, z, u⟩, rfl, ⟨⟨k1, k2⟩, ⟨s1, s2⟩, ⟨q1, q2⟩, ⟨z1, z2⟩⟩⟩

theorem leaf_of {n : Nat} {v : Value} {y : DataW H × List MemPlace} (h : DataW.trod enc Try.prog w base spare held n 76 [v] = some y) : ∃ l : List Ent, SlE w w.heap.size v l ∧ ∀ k, k < l.length → WfE (l.getD k .zero) := by
  obtain ⟨v', rows, e, hs, hr⟩ := rows_of (s := 5) Try.underlying76 (by kernel_rfl) (by omega) h
  obtain rfl : v = v' := by simpa using e
  obtain ⟨l, hl, hp⟩ := pick_list [] Ent.zero rows (fun r E => r = entC E ∧ WfE E) (fun i hi => by obtain ⟨n, y, h⟩ := hr i hi; exact ent_of h)
  have := rows_map [] Ent.zero rows l entC hl (fun i hi => (hp i hi).1)
  exact ⟨l, by unfold SlE; rw [← this]; exact hs, fun k hk => (hp k (by omega)).2⟩

theorem tabs_of {n : Nat} {v : Value} {y : DataW H × List MemPlace} (h : DataW.trod enc Try.prog w base spare held n 22 [v] = some y) : ∃ t : Tab, IsTab w w.heap.size v t ∧ TabW t := by
  obtain ⟨v', rows, e, hs, hr⟩ := rows_of (s := 1) Try.underlying22 (by kernel_rfl) (by omega) h
  obtain rfl : v = v' := by simpa using e
  obtain ⟨ps, hl, hp⟩ := pick_list [] (undef, ([] : List Ent)) rows (fun r p => r = [p.1] ∧ SlE w w.heap.size p.1 p.2 ∧ ∀ k, k < p.2.length → WfE (p.2.getD k .zero)) (fun i hi => by
    obtain ⟨n, y, h⟩ := hr i hi
    obtain ⟨v2, rows2, e2, _, _⟩ := rows_of (s := 5) Try.underlying76 (by kernel_rfl) (by omega) h
    rw [e2] at h ⊢
    obtain ⟨l, h1, h2⟩ := leaf_of h
    exact ⟨(v2, l), rfl, h1, h2⟩)
  have hm := rows_map [] (undef, ([] : List Ent)) rows ps (fun p => [p.1]) hl (fun i hi => (hp i hi).1)
  refine ⟨ps.map (·.2), ⟨ps.map (·.1), by simp, ?_, ?_⟩, ?_⟩
  · rw [List.map_map]; rw [hm] at hs; exact hs
  · intro i hi
    simp only [List.length_map] at hi
    have := (hp i (by omega)).2.1
    simpa [List.getD_eq_getElem?_getD, List.getElem?_map, List.getElem?_eq_getElem hi] using this
  · intro i hi k hk
    simp only [List.length_map] at hi
    have := (hp i (by omega)).2.2 k
    simp [List.getD_eq_getElem?_getD, List.getElem?_map, List.getElem?_eq_getElem hi] at this hk ⊢
    exact this hk

theorem table_of {n : Nat} {v : Value} {y : DataW H × List MemPlace} (h : DataW.trod enc Try.prog w base spare held n 24 [v] = some y) : ∃ t : Tab, IsTab w w.heap.size v t ∧ TabW t := by
  obtain ⟨hl, n, hf⟩ := cells_of Try.underlying24 (by kernel_rfl) (by kernel_rfl) h
  obtain ⟨v0, _, h0, t0⟩ := hf 0 _ rfl
  obtain rfl : v = v0 := by simpa using h0
  exact tabs_of t0

theorem shot_of {n : Nat} {cs : List Value} {y : DataW H × List MemPlace} (h : DataW.trod enc Try.prog w base spare held n 53 cs = some y) :
    ∃ p : ShotM × Value, cs = shotC p.1 p.2 ∧ IsTab w w.heap.size p.2 p.1.t ∧ TabW p.1.t ∧ (-9223372036854775808 ≤ p.1.size ∧ p.1.size ≤ 9223372036854775807) ∧ p.1.name.length ≤ 9223372036854775807 := by
  obtain ⟨hl, n, hf⟩ := cells_of Try.underlying53 (by kernel_rfl) (by kernel_rfl) h
  obtain ⟨v0, _, h0, t0⟩ := hf 0 _ rfl
  obtain ⟨v1, _, h1, t1⟩ := hf 1 _ rfl
  obtain ⟨v2, _, h2, t2⟩ := hf 2 _ rfl
  obtain ⟨s, rfl, hs⟩ := str_of t0
  obtain ⟨z, rfl, z1, z2⟩ := int_of t1
  obtain ⟨t, ht, htw⟩ := table_of t2
  match cs, hl with
  | [a, b, c], _ =>
    simp only [List.getElem?_cons_zero, List.getElem?_cons_succ, Option.some.injEq] at h0 h1 h2
    subst h0 h1 h2
    exact ⟨(⟨s, z, t⟩, c), rfl, ht, htw, ⟨z1, z2⟩, hs⟩

theorem shots_of {n : Nat} {v : Value} {y : DataW H × List MemPlace} (h : DataW.trod enc Try.prog w base spare held n 25 [v] = some y) :
    ∃ ss : List ShotM, IsShots w w.heap.size v ss ∧ ∀ i, i < ss.length → TabW (ss.getD i default).t ∧ (-9223372036854775808 ≤ (ss.getD i default).size ∧ (ss.getD i default).size ≤ 9223372036854775807) ∧ (ss.getD i default).name.length ≤ 9223372036854775807 := by
  obtain ⟨v', rows, e, hs, hr⟩ := rows_of (s := 3) Try.underlying25 (by kernel_rfl) (by omega) h
  obtain rfl : v = v' := by simpa using e
  obtain ⟨ps, hl, hp⟩ := pick_list [] ((default : ShotM), undef) rows (fun r (p : ShotM × Value) => r = shotC p.1 p.2 ∧ IsTab w w.heap.size p.2 p.1.t ∧ TabW p.1.t ∧ (-9223372036854775808 ≤ p.1.size ∧ p.1.size ≤ 9223372036854775807) ∧ p.1.name.length ≤ 9223372036854775807) (fun i hi => by obtain ⟨n, y, h⟩ := hr i hi; exact shot_of h)
  have hm := rows_map [] ((default : ShotM), undef) rows ps (fun p => shotC p.1 p.2) hl (fun i hi => (hp i hi).1)
  have e1 : ∀ i, i < ps.length → (ps.map (·.1)).getD i default = (ps.getD i (default, undef)).1 := by
    intro i hi; simp [List.getD_eq_getElem?_getD, List.getElem?_map, List.getElem?_eq_getElem hi]
  have e2 : ∀ i, i < ps.length → (ps.map (·.2)).getD i undef = (ps.getD i (default, undef)).2 := by
    intro i hi; simp [List.getD_eq_getElem?_getD, List.getElem?_map, List.getElem?_eq_getElem hi]
  refine ⟨ps.map (·.1), ⟨ps.map (·.2), by simp, ?_, ?_⟩, ?_⟩
  · rw [zip_maps, ← hm]; exact hs
  · intro i hi
    simp only [List.length_map] at hi
    rw [e1 i hi, e2 i hi]
    exact (hp i (by omega)).2.1
  · intro i hi
    simp only [List.length_map] at hi
    rw [e1 i hi]
    exact (hp i (by omega)).2.2

theorem span_of {n : Nat} {cs : List Value} {y : DataW H × List MemPlace} (h : DataW.trod enc Try.prog w base spare held n 65 cs = some y) : ∃ p : Int × Int, cs = spanC p := by
  obtain ⟨hl, n, hf⟩ := cells_of Try.underlying65 (by kernel_rfl) (by kernel_rfl) h
  obtain ⟨v0, _, h0, t0⟩ := hf 0 _ rfl
  obtain ⟨v1, _, h1, t1⟩ := hf 1 _ rfl
  obtain ⟨a, rfl, _⟩ := int_of t0
  obtain ⟨b, rfl, _⟩ := int_of t1
  match cs, hl with
  | [x, y], _ =>
    simp only [List.getElem?_cons_zero, List.getElem?_cons_succ, Option.some.injEq] at h0 h1
    subst h0 h1
    exact ⟨(a, b), rfl⟩

theorem spans_of {n : Nat} {v : Value} {y : DataW H × List MemPlace} (h : DataW.trod enc Try.prog w base spare held n 54 [v] = some y) : ∃ l : List (Int × Int), SlP w w.heap.size v l := by
  obtain ⟨v', rows, e, hs, hr⟩ := rows_of (s := 2) Try.underlying54 (by kernel_rfl) (by omega) h
  obtain rfl : v = v' := by simpa using e
  obtain ⟨l, hl, hp⟩ := pick_list [] ((0 : Int), (0 : Int)) rows (fun r p => r = spanC p) (fun i hi => by obtain ⟨n, y, h⟩ := hr i hi; exact span_of h)
  have := rows_map [] ((0 : Int), (0 : Int)) rows l spanC hl hp
  exact ⟨l, by unfold SlP; rw [← this]; exact hs⟩

theorem map_of {n : Nat} {cs : List Value} {y : DataW H × List MemPlace} (h : DataW.trod enc Try.prog w base spare held n 56 cs = some y) :
    ∃ p : MapM × Value, cs = mapC p.1 p.2 ∧ SlP w w.heap.size p.2 p.1.l ∧ p.1.name.length ≤ 9223372036854775807 := by
  obtain ⟨hl, n, hf⟩ := cells_of Try.underlying56 (by kernel_rfl) (by kernel_rfl) h
  obtain ⟨v0, _, h0, t0⟩ := hf 0 _ rfl
  obtain ⟨v1, _, h1, t1⟩ := hf 1 _ rfl
  obtain ⟨v2, _, h2, t2⟩ := hf 2 _ rfl
  obtain ⟨s, rfl, hs⟩ := str_of t0
  obtain ⟨b, rfl⟩ := bool_of t1
  obtain ⟨l, hl2⟩ := spans_of t2
  match cs, hl with
  | [x, y, z], _ =>
    simp only [List.getElem?_cons_zero, List.getElem?_cons_succ, Option.some.injEq] at h0 h1 h2
    subst h0 h1 h2
    exact ⟨(⟨s, b, l⟩, z), rfl, hl2, hs⟩

theorem maps_of {n : Nat} {v : Value} {y : DataW H × List MemPlace} (h : DataW.trod enc Try.prog w base spare held n 26 [v] = some y) :
    ∃ ms : List MapM, IsMaps w w.heap.size v ms ∧ ∀ i, i < ms.length → (ms.getD i default).name.length ≤ 9223372036854775807 := by
  obtain ⟨v', rows, e, hs, hr⟩ := rows_of (s := 3) Try.underlying26 (by kernel_rfl) (by omega) h
  obtain rfl : v = v' := by simpa using e
  obtain ⟨ps, hl, hp⟩ := pick_list [] ((default : MapM), undef) rows (fun r (p : MapM × Value) => r = mapC p.1 p.2 ∧ SlP w w.heap.size p.2 p.1.l ∧ p.1.name.length ≤ 9223372036854775807) (fun i hi => by obtain ⟨n, y, h⟩ := hr i hi; exact map_of h)
  have hm := rows_map [] ((default : MapM), undef) rows ps (fun p => mapC p.1 p.2) hl (fun i hi => (hp i hi).1)
  have e1 : ∀ i, i < ps.length → (ps.map (·.1)).getD i default = (ps.getD i (default, undef)).1 := by
    intro i hi; simp [List.getD_eq_getElem?_getD, List.getElem?_map, List.getElem?_eq_getElem hi]
  have e2 : ∀ i, i < ps.length → (ps.map (·.2)).getD i undef = (ps.getD i (default, undef)).2 := by
    intro i hi; simp [List.getD_eq_getElem?_getD, List.getElem?_map, List.getElem?_eq_getElem hi]
  refine ⟨ps.map (·.1), ⟨ps.map (·.2), by simp, ?_, ?_⟩, ?_⟩
  · rw [zip_maps, ← hm]; exact hs
  · intro i hi
    simp only [List.length_map] at hi
    rw [e1 i hi, e2 i hi]
    exact (hp i (by omega)).2.1
  · intro i hi
    simp only [List.length_map] at hi
    rw [e1 i hi]
    exact (hp i (by omega)).2.2

theorem ints_of {n : Nat} {v : Value} {y : DataW H × List MemPlace} (h : DataW.trod enc Try.prog w base spare held n 27 [v] = some y) : ∃ l : List Int, SlI w w.heap.size v l := by
  obtain ⟨v', rows, e, hs, hr⟩ := rows_of (s := 1) Try.underlying27 (by kernel_rfl) (by omega) h
  obtain rfl : v = v' := by simpa using e
  obtain ⟨l, hl, hp⟩ := pick_list [] (0 : Int) rows (fun r k => r = [Value.int .i64 k]) (fun i hi => by
    obtain ⟨n, y, h⟩ := hr i hi
    obtain ⟨k, e, _⟩ := DataW.trod_int Try.underlying3 h
    exact ⟨k, e⟩)
  have := rows_map [] (0 : Int) rows l (fun k => [Value.int .i64 k]) hl hp
  exact ⟨l, by unfold SlI; rw [← this]; exact hs⟩

theorem meta_of {r : Reach} {b0 : Nat} {v : Value} {d : DataW H} {p : List MemPlace} (hv : Value.okWide Try.prog w r b0 29 v) (h : DataW.Trod enc Try.prog w base spare held 29 v d p) :
    ∃ (m : MetaM) (tv sv mv cv : Value), v = metaV m tv sv mv cv ∧ IsMeta w w.heap.size m tv sv mv cv ∧ MetaW m := by
  obtain ⟨cs, rfl, hsz⟩ := okWide_struct Try.underlying29 hv
  obtain ⟨l⟩ := cs
  obtain ⟨fuel, hf⟩ := h
  have hf' : DataW.trod enc Try.prog w base spare held fuel 29 l = some (d, p) := hf
  obtain ⟨hl, n, hf⟩ := cells_of Try.underlying29 (by kernel_rfl) (by kernel_rfl) hf'
  obtain ⟨v0, _, h0, t0⟩ := hf 0 _ rfl
  obtain ⟨v1, _, h1, t1⟩ := hf 1 _ rfl
  obtain ⟨v2, _, h2, t2⟩ := hf 2 _ rfl
  obtain ⟨v3, _, h3, t3⟩ := hf 3 _ rfl
  obtain ⟨v4, _, h4, t4⟩ := hf 4 _ rfl
  obtain ⟨v5, _, h5, t5⟩ := hf 5 _ rfl
  obtain ⟨v6, _, h6, t6⟩ := hf 6 _ rfl
  obtain ⟨cl, rfl, cl1, cl2⟩ := int_of t0
  obtain ⟨sz, rfl, sz1, sz2⟩ := int_of t1
  obtain ⟨bk, rfl, hbk⟩ := str_of t2
  obtain ⟨t, ht, htw⟩ := table_of t3
  obtain ⟨ss, hs, hsw⟩ := shots_of t4
  obtain ⟨ms, hm, hmw⟩ := maps_of t5
  obtain ⟨cs, hc⟩ := ints_of t6
  match l, hl with
  | [a, b, c, d, e, f, g], _ =>
    simp only [List.getElem?_cons_zero, List.getElem?_cons_succ, Option.some.injEq] at h0 h1 h2 h3 h4 h5 h6
    subst h0 h1 h2 h3 h4 h5 h6
    exact ⟨⟨cl, sz, bk, t, ss, ms, cs⟩, d, e, f, g, rfl, ⟨ht, hs, hm, hc⟩, ⟨⟨cl1, cl2⟩, ⟨sz1, sz2⟩, hbk, htw, hsw, hmw⟩⟩
end
end Go.Proofs.Ytpgdncpomacghaa
