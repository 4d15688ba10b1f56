import Derived.Test.YtgkabcaodnofnaaGreatNL
import Derived.Deep.Slices
import Derived.Deep.Fields
import Derived.ChangeSame
import Derived.OpenShut
import Derived.ProofKit
import Derived.ChangeOld
namespace Go.Proofs.YtgkabcaodnofnaaGreat
open Go.ChangeShapes Go.WideShapes Go.ChangeAt Go.RowKit Go.Deep Go.Mx Go.Md
set_option linter.unusedVariables false
set_option linter.unusedSimpArgs false
theorem wf_i64 {n : Int} (h : (Lit.int .i64 n).wf = true) : -9223372036854775808 ≤ n ∧ n ≤ 9223372036854775807 := by
  simpa [Lit.wf, IntKind.min, IntKind.max, IntKind.signed, IntKind.bits] using h

section
variable {H : Type} {enc : TypeId × Value → H} {P : Program} {w : World} {base : Nat} {spare : Nat → Bool} {held : Bool}

theorem plain_spot {w : World} {x : Addr} {v : Value} (h : w.cell? x = some v) : x = ⟨x.block, x.off, none⟩ ∧ ∀ j, x.add j = ⟨x.block, x.off + j, none⟩ := by
  have hsp : x.spot = none := by
    unfold World.cell? at h
    split at h
    · split at h
      · cases h
      · rename_i hs
        cases hx : x.spot with
        | none => rfl
        | some sp => simp [hx] at hs
    · cases h
  obtain ⟨b, o, s⟩ := x
  simp only at hsp
  subst hsp
  refine ⟨rfl, fun j => ?_⟩
  unfold Addr.add; split <;> simp_all

theorem rows_of {t e : TypeId} {fuel s : Nat} {cs : List Value} {x : DataW H × List MemPlace} (ht : P.underlying t = some (.slice e)) (hC : P.cellsOf e = s) (hs : 0 < s) (h : DataW.trod enc P w base spare held fuel t cs = some x) :
    ∃ (v : Value) (rows : List (List Value)), cs = [v] ∧ SlG w w.heap.size s v rows ∧ ∀ i, i < rows.length → ∃ n y, DataW.trod enc P w base spare held n e (rows.getD i []) = some y := by
  rcases open_slice ht h with ⟨rfl, _⟩ | ⟨a, len, cap, m, n, D, Pl, rfl, hb, hl, hm, hmm, hx, hi⟩
  · exact ⟨_, [], rfl, SlG.nil _ _ _, fun i hi => absurd hi (by simp)⟩
  · rw [hC] at hi
    have hlm : len ≤ m := by rw [hmm]; split <;> omega
    have hg : ∀ i, i < len → (((List.range len).map fun i => (w.cells? base (a.add (i * s)) s).getD []).getD i []) = (w.cells? base (a.add (i * s)) s).getD [] := by
      intro i h; simp [List.getD_eq_getElem?_getD, h]
    refine ⟨_, (List.range len).map fun i => (w.cells? base (a.add (i * s)) s).getD [], rfl, ⟨some a, cap, by simp, by simpa using hl, hm, fun hn => ?_⟩, ?_⟩
    · have hlen : 0 < len := by
        rcases Nat.eq_zero_or_pos len with h | h
        · subst h; simp at hn
        · exact h
      obtain ⟨c0, h0, _⟩ := hi 0 (by omega)
      obtain ⟨_, hl0, ha0⟩ := World.cells?_some h0
      have h00 := ha0 0 hs
      rw [List.getElem?_eq_getElem (by omega)] at h00
      have h01 : w.cell? a = some c0[0] := by simpa [Addr.add] using h00
      obtain ⟨e3, e4⟩ := plain_spot h01
      refine ⟨a.block, a.off, by rw [← e3], ?_, ?_⟩
      · exact World.block_lt_of_cell? w _ h01
      · intro i hi' j v hv
        simp only [List.length_map, List.length_range] at hi'
        rw [hg i hi'] at hv
        obtain ⟨ci, hci, _⟩ := hi i (by omega)
        obtain ⟨_, hli, hai⟩ := World.cells?_some hci
        rw [hci] at hv
        simp only [Option.getD_some] at hv
        have hj : j < s := by have := (List.getElem?_eq_some_iff.1 hv).1; omega
        have := hai j hj
        rw [e4 (i * s)] at this
        rw [← hv, ← this]
        unfold Addr.add
        by_cases hj0 : j = 0
        · rw [if_pos hj0, hj0]; rfl
        · rw [if_neg hj0]
    · intro i hi'
      simp only [List.length_map, List.length_range] at hi'
      obtain ⟨ci, hci, hti⟩ := hi i (by omega)
      refine ⟨n, (D i, Pl i), ?_⟩
      rw [hg i hi', hci]
      exact hti

theorem pick_list {α β : Type} (d : α) (e : β) (l : List α) (R : α → β → Prop) (h : ∀ i, i < l.length → ∃ b, R (l.getD i d) b) : ∃ bs : List β, bs.length = l.length ∧ ∀ i, i < l.length → R (l.getD i d) (bs.getD i e) := by
  classical
  refine ⟨(List.range l.length).map fun i => if h : ∃ b, R (l.getD i d) b then h.choose else e, by simp, fun i hi => ?_⟩
  have e2 : ((List.range l.length).map fun i => if h : ∃ b, R (l.getD i d) b then h.choose else e).getD i e = if h : ∃ b, R (l.getD i d) b then h.choose else e := by
    simp [List.getD_eq_getElem?_getD, hi]
  rw [e2, dif_pos (h i hi)]
  exact (h i hi).choose_spec

theorem rows_map {α β : Type} (d : List α) (e : β) (rows : List (List α)) (bs : List β) (f : β → List α) (hl : bs.length = rows.length) (h : ∀ i, i < rows.length → rows.getD i d = f (bs.getD i e)) : rows = bs.map f := by
  apply List.ext_getElem
  · simp [hl]
  · intro i h1 h2
    have := h i h1
    simp only [List.getD_eq_getElem?_getD, List.getElem?_eq_getElem h1, List.getElem?_eq_getElem (show i < bs.length by omega), Option.getD_some] at this
    simpa using this

theorem zip_maps {α β γ : Type} (f : α → β → γ) (ps : List (α × β)) : List.zipWith f (ps.map (·.1)) (ps.map (·.2)) = ps.map fun p => f p.1 p.2 := by
  induction ps with
  | nil => rfl
  | cons a l ih => simp [ih]

theorem cells_of {t : TypeId} {fs : Array Field} {fuel : Nat} {cs : List Value} {x : DataW H × List MemPlace} (hs : P.underlying t = some (.struct fs)) (hone : oneCellFields P fs = true) (hC : P.cellsOf t = fs.size)
    (h : DataW.trod enc P w base spare held fuel t cs = some x) :
    cs.length = fs.size ∧ ∃ n, ∀ (j : Nat) (f : Field), fs[j]? = some f → ∃ v y, cs[j]? = some v ∧ DataW.trod enc P w base spare held n f.type [v] = some y := by
  obtain ⟨ys, n', hn', hy, hlen, hyl, hf⟩ := DataW.trod_struct hs h
  refine ⟨by rw [hlen, hC], n', fun j f hj => ?_⟩
  obtain ⟨ho, hk⟩ := hone_of hone j f hj
  have hjl : j < fs.size := (Array.getElem?_eq_some_iff.1 hj).1
  have hv : cs[j]? = some (cs[j]'(by omega)) := List.getElem?_eq_getElem (by omega)
  have h1 := hf j f hj
  rw [ho, hk] at h1
  have hone' : (cs.drop j).take 1 = [cs[j]'(by omega)] := by
    rw [List.drop_eq_getElem_cons (by omega)]
    rfl
  rw [hone'] at h1
  have hys : ys[j]? = some (ys[j]'(by omega)) := List.getElem?_eq_getElem (by omega)
  exact ⟨_, _, hv, h1.trans hys⟩
end

section
variable {H : Type} {enc : TypeId × Value → H} {w : World} {base : Nat} {spare : Nat → Bool} {held : Bool}

theorem int_of {n : Nat} {v : Value} {y : DataW H × List MemPlace} (h : DataW.trod enc Tryz.prog w base spare held n 3 [v] = some y) : ∃ k, v = .int .i64 k ∧ -9223372036854775808 ≤ k ∧ k ≤ 9223372036854775807 := by
  obtain ⟨k, e, _, hw⟩ := DataW.trod_int Tryz.underlying3 h
  have := wf_i64 hw
  exact ⟨k, by simpa using e, this.1, this.2⟩
theorem str_of {n : Nat} {v : Value} {y : DataW H × List MemPlace} (h : DataW.trod enc Tryz.prog w base spare held n 9 [v] = some y) : ∃ s : List UInt8, v = .string ⟨s.toArray⟩ ∧ s.length ≤ 9223372036854775807 := by
  obtain ⟨s, e, _, hw⟩ := DataW.trod_string Tryz.underlying9 h
  refine ⟨s.data.toList, by simpa using e, ?_⟩
  have h2 : s.data.toList.length = s.size := by simp
  rw [h2]; unfold maxLen at hw; omega
theorem bool_of {n : Nat} {v : Value} {y : DataW H × List MemPlace} (h : DataW.trod enc Tryz.prog w base spare held n 4 [v] = some y) : ∃ b, v = .bool b := by
  obtain ⟨b, e, _⟩ := DataW.trod_bool Tryz.underlying4 h
  exact ⟨b, by simpa using e⟩


theorem bytes_of {n : Nat} {v : Value} {y : DataW H × List MemPlace} (h : DataW.trod enc Tryz.prog w base spare held n 23 [v] = some y) : ∃ bs : List UInt8, SlB w w.heap.size v bs := by
  obtain ⟨v', rows, e, hs, hr⟩ := rows_of (s := 1) Tryz.underlying23 (by kernel_rfl) (by omega) h
  obtain rfl : v = v' := by simpa using e
  obtain ⟨l, hl, hp⟩ := pick_list [] (0 : UInt8) rows (fun r k => r = [Mx.u8 k]) (fun i hi => by
    obtain ⟨n, y, h⟩ := hr i hi
    obtain ⟨k, e, _, hw⟩ := DataW.trod_int Tryz.underlying5 h
    obtain ⟨s, rfl⟩ := wf_u8' hw
    exact ⟨s, e⟩)
  have hm := rows_map [] (0 : UInt8) rows l (fun k => [Mx.u8 k]) hl hp
  subst hm
  obtain ⟨oa, cap, rfl, h1, h2, h3⟩ := hs
  simp only [List.length_map] at h1
  refine ⟨l, oa, cap, by simp, h1, h2, fun hn => ?_⟩
  obtain ⟨bb, bo, rfl, hb, hrd⟩ := h3 (by simpa using hn)
  refine ⟨bb, bo, rfl, hb, fun i hi => ?_⟩
  have := hrd i (by simpa using hi) 0 (Mx.u8 (l.getD i 0)) (by simp [List.getD_eq_getElem?_getD, hi])
  simpa using this

set_option maxRecDepth 100000 in
set_option maxHeartbeats 1000000 in
/-- a command that came in as an argument -/
theorem cmd_of {r : Reach} {b0 : Nat} {v : Value} {d : DataW H} {p : List MemPlace} (hv : Value.okWide Tryz.prog w r b0 25 v) (h : DataW.Trod enc Tryz.prog w base spare held 25 v d p) :
    ∃ (c : Cm) (dv : Value), v = cmV c dv ∧ SlB w w.heap.size dv c.data := by
  obtain ⟨cs, rfl, hsz⟩ := okWide_struct Tryz.underlying25 hv
  obtain ⟨l⟩ := cs
  obtain ⟨fuel, hf⟩ := h
  have hf' : DataW.trod enc Tryz.prog w base spare held fuel 25 l = some (d, p) := hf
  obtain ⟨hl, n, hf⟩ := cells_of Tryz.underlying25 (by kernel_rfl) (by kernel_rfl) hf'
  obtain ⟨v0, _, h0, t0⟩ := hf 0 _ rfl
  obtain ⟨v1, _, h1, t1⟩ := hf 1 _ rfl
  obtain ⟨v2, _, h2, t2⟩ := hf 2 _ rfl
  obtain ⟨v3, _, h3, t3⟩ := hf 3 _ rfl
  obtain ⟨v4, _, h4, t4⟩ := hf 4 _ rfl
  obtain ⟨v5, _, h5, t5⟩ := hf 5 _ rfl
  obtain ⟨v6, _, h6, t6⟩ := hf 6 _ rfl
  obtain ⟨z0, rfl, _, _⟩ := int_of t0
  obtain ⟨s1, rfl, _⟩ := str_of t1
  obtain ⟨s2, rfl, _⟩ := str_of t2
  obtain ⟨z3, rfl, _, _⟩ := int_of t3
  obtain ⟨z4, rfl, _, _⟩ := int_of t4
  obtain ⟨z5, rfl, _, _⟩ := int_of t5
  obtain ⟨bs, hb⟩ := bytes_of t6
  match l, hl with
  | [a0, a1, a2, a3, a4, a5, a6], _ =>
    simp only [List.getElem?_cons_zero, List.getElem?_cons_succ, Option.some.injEq] at h0 h1 h2 h3 h4 h5 h6
    subst h0 h1 h2 h3 h4 h5 h6
    exact ⟨⟨z0, s1, s2, z3, z4, z5, bs⟩, a6, rfl, hb⟩
end
set_option maxRecDepth 100000 in
/-- law 10, for the closing text -/
theorem nil_law (c : Cm) (dv : Value) (W : World) (h : SlB W W.heap.size dv c.data) : Calls Tryz.prog 10 #[cmV c dv] W fun e w' => e = .returned (.bool true) ∧ Below W.heap.size W w' := by
  obtain ⟨oa, n, cc, rfl⟩ := slB_shape h
  exact nil_any c.kind c.a c.n c.m _ _ oa n cc W
end Go.Proofs.YtgkabcaodnofnaaGreat
