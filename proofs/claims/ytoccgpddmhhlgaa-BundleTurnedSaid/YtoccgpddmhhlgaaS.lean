import Derived.Test.YtoccgpddmhhlgaaR
import Derived.Test.YtoccgpddmhhlgaaO
namespace Go.Mx
open Go.RowKit
theorem ownsRow_kept {w w' : World} {N : Nat → Prop} {base s n : Nat} {e : TypeId} {v : Value} {xs : List Value} (h : w.ownsRow base e s v n xs) (hk : Kept w w' N) (hv : ∀ k, v.ownBlock = some k → N k) : w'.ownsRow base e s v n xs := by
  have hlt := fun k hk => (World.ownsRow.lt h k hk).2
  refine ⟨h.1, ?_⟩
  rcases h.2 with hn | ⟨g, cap, cur, rfl, hbg, hgg, rest⟩
  · exact .inl hn
  · exact .inr ⟨g, cap, cur, rfl, hbg, by rw [hk.block g (hlt g rfl) (hv g rfl)]; exact hgg, rest⟩
theorem ownsRow_not {w : World} {base s n : Nat} {e t : TypeId} {v : Value} {xs : List Value} (h : w.ownsRow base e s v n xs) {q : Nat} {c : Array Value} {f : Nat × Nat} (hq : w.heap[q]? = some (.cells c t f)) (ht : t ≠ e) : v.ownBlock ≠ some q := by
  intro hv
  rcases h.2 with ⟨rfl, _⟩ | ⟨g, cap, cur, rfl, hbg, hgg, rest⟩
  · cases hv
  · cases hv
    rw [hgg] at hq
    simp only [Option.some.injEq, Obj.cells.injEq] at hq
    exact ht hq.2.1.symm
theorem ownsRow_apart {w : World} {b1 b2 s1 s2 n1 n2 : Nat} {e1 e2 : TypeId} {v1 v2 : Value} {xs1 xs2 : List Value} (h1 : w.ownsRow b1 e1 s1 v1 n1 xs1) (h2 : w.ownsRow b2 e2 s2 v2 n2 xs2) (ht : e1 ≠ e2) : ∀ k, v1.ownBlock = some k → v2.ownBlock ≠ some k := by
  intro k hk
  rcases h1.2 with ⟨rfl, _⟩ | ⟨g, cap, cur, rfl, hbg, hgg, rest⟩
  · cases hk
  · cases hk
    exact ownsRow_not h2 hgg ht

/-- 'append(out, x)' of one int, and which block alone is written -/
theorem append_intg {P : Program} (w : World) {ops : Array Oper} {rest : List Oper} {o : Oper} {a : Act} {Q : Exit → Act → World → Prop} (hgd : o.guard = none) (s x : Operand) (t : TypeId)
    (ho : o.op = .call { callee := .builtin .append, args := #[s, x], argTypes := #[t, t] })
    (ht : P.underlying t = some (.slice 3)) (hi : (P.info? 3).map (fun i => (i.zero, i.size, i.bytes)) = some (some (.int .i64 0), 1, 8))
    (base : Nat) (v : Value) (l : List Int) (n : Int) (hs : a.eval s = v) (hown : OwnI w base v l) (g c : Nat) (hx : a.eval x = .slice (some ⟨g, 0, none⟩) 1 c)
    (hcell : w.cell? ⟨g, 0, none⟩ = some (.int .i64 n)) (hlen : l.length ≤ 1000000000) (hB : base ≤ w.heap.size)
    (h : ∀ v' w', OwnI w' base v' (l ++ [n]) → w.grownBy w' v.ownBlock → wpList P ops Q rest (a.put o.dst v') w') : wpList P ops Q (o :: rest) a w := by
  obtain ⟨i0, hi0, hz0, hz1, hz2⟩ := info_parts hi
  have hown' : w.ownsRow base 3 1 v l.length (l.map (.int .i64)) := by have := hown; unfold OwnI OwnV at this; simpa using this
  refine wpList_append_own w hgd s x t ho base 3 i0 _ 1 8 ht hi0 hz0 hz1 hz2 rfl (by decide) v l.length _ hs hown' ⟨g, 0, none⟩ 1 c [.int .i64 n] hx rfl ?_ ?_ ?_ ?_ hB ?_
  · intro j y hj
    match j, hj with
    | 0, hj => simp at hj; subst hj; simpa [Addr.add] using hcell
  · intro y hy; simp at hy; subst hy; rfl
  · unfold maxLen; omega
  · omega
  · intro v' w' ho' hg' _
    exact h v' w' (by unfold OwnI OwnV; simpa using ho') hg'
end Go.Mx
namespace Go.Proofs.Ytoccgpddmhhlgaa
open Go.RowKit Go.Mx Go.Crc Go.Str

def flatP (ps : List (Rec × Value)) : List Value := ps.flatMap fun x => [.int .i64 x.1.at_, x.2]
theorem Try.info47 : (Try.prog.info? 47).map (fun i => (i.zero, i.size, i.bytes)) = some (some (.agg #[.int .i64 0, .slice none 0 0]), 2, 32) := by kernel_rfl
theorem Try.info3 : (Try.prog.info? 3).map (fun i => (i.zero, i.size, i.bytes)) = some (some (.int .i64 0), 1, 8) := by kernel_rfl

/-- 'append(s.Records, x)' -/
theorem append_rec (w : World) {ops : Array Oper} {rest : List Oper} {o : Oper} {a : Act} {Q : Exit → Act → World → Prop} (hgd : o.guard = none) (s x : Operand)
    (ho : o.op = .call { callee := .builtin .append, args := #[s, x], argTypes := #[37, 37] })
    (base : Nat) (v : Value) (ps : List (Rec × Value)) (hs : a.eval s = v) (hown : w.ownsRow base 47 2 v ps.length (flatP ps)) (g c : Nat) (y : Rec × Value) (hx : a.eval x = .slice (some ⟨g, 0, none⟩) 1 c)
    (hc0 : w.cell? ⟨g, 0, none⟩ = some (.int .i64 y.1.at_)) (hc1 : w.cell? ⟨g, 1, none⟩ = some y.2) (hone : y.2.oneCell' = true) (hlen : ps.length ≤ 1000000000) (hB : base ≤ w.heap.size)
    (h : ∀ v' w', w'.ownsRow base 47 2 v' (ps ++ [y]).length (flatP (ps ++ [y])) → w.grownBy w' v.ownBlock → wpList Try.prog ops Q rest (a.put o.dst v') w') : wpList Try.prog ops Q (o :: rest) a w := by
  obtain ⟨i0, hi0, hz0, hz1, hz2⟩ := info_parts Try.info47
  refine wpList_append_own w hgd s x 37 ho base 47 i0 _ 2 32 Try.underlying37 hi0 hz0 hz1 hz2 rfl (by decide) v ps.length _ hs hown ⟨g, 0, none⟩ 1 c [.int .i64 y.1.at_, y.2] hx rfl ?_ ?_ ?_ ?_ hB ?_
  · intro j u hj
    have e : (⟨g, 0, none⟩ : Addr).add j = ⟨g, j, none⟩ := by unfold Addr.add; split <;> simp_all
    rw [e]
    match j, hj with
    | 0, hj => simp at hj; subst hj; exact hc0
    | 1, hj => simp at hj; subst hj; exact hc1
  · intro u hu; simp at hu; rcases hu with rfl | rfl
    · rfl
    · exact hone
  · unfold maxLen; omega
  · omega
  · intro v' w' ho' hg' _
    refine h v' w' ?_ hg'
    unfold flatP at *
    simpa [List.flatMap_append] using ho'

theorem _root_.Go.RowKit.Below.trans_drew {z z5 : World} (h : Below z.drew.heap.size z.drew z5) : Below z.heap.size z z5 := ((Below.refl z.heap.size z).drew).trans h

structure Inv (w0 w : World) (p q : Nat) (bv : Value) (a : Nat) (bad f : Bool) (z : Int) (rv : Value) (ps : List (Rec × Value)) (zv : Value) (zs : List Int) : Prop where
  rd : Rd w p bv a bad
  st : w.heap[q]? = some (.cells #[.bool f, .int .i64 z, rv] 39 (0, 0))
  rs : w.heap[w0.heap.size]? = some (.cells #[.bool false, .int .i64 0, .slice none 0 0] 39 (0, 0))
  own : w.ownsRow w0.heap.size 47 2 rv ps.length (flatP ps)
  dat : ∀ x ∈ ps, OwnB w w0.heap.size 5 x.2 x.1.data
  sums : OwnI w w0.heap.size zv zs
  bel : Below w0.heap.size w0 w
  hp : w0.heap.size ≤ p
  hq : w0.heap.size < q

section
variable {w0 w w' : World} {p q a : Nat} {bv rv zv : Value} {bad f : Bool} {z : Int} {ps : List (Rec × Value)} {zs : List Int}
theorem blk_ne {w : World} {b b' : Nat} {c c' : Array Value} {t t' : TypeId} {fr fr' : Nat × Nat} (h : w.heap[b]? = some (.cells c t fr)) (h' : w.heap[b']? = some (.cells c' t' fr')) (ht : t ≠ t') : b ≠ b' := by
  rintro rfl; rw [h] at h'; simp only [Option.some.injEq, Obj.cells.injEq] at h'; exact ht h'.2.1
theorem blk_lt {w : World} {b : Nat} {o : Obj} (h : w.heap[b]? = some o) : b < w.heap.size := (Array.getElem?_eq_some_iff.1 h).1

/-- a step that leaves all but the reader as it was -/
theorem Inv.keep (h : Inv w0 w p q bv a bad f z rv ps zv zs) (hk : Kept w w' (· ≠ p)) {a' : Nat} {bad' : Bool} (hr : Rd w' p bv a' bad') (hb : Below p w w') : Inv w0 w' p q bv a' bad' f z rv ps zv zs where
  rd := hr
  st := (hk.block q (blk_lt h.st) (blk_ne h.st h.rd (by decide))).trans h.st
  rs := (hk.block _ (blk_lt h.rs) (blk_ne h.rs h.rd (by decide))).trans h.rs
  own := ownsRow_kept h.own hk fun k e => by rintro rfl; exact ownsRow_not h.own h.rd (by decide) e
  dat := fun x hx => (h.dat x hx).kept hk fun k e => by rintro rfl; exact (h.dat x hx).not_block h.rd (by decide) e
  sums := ownsRow_kept h.sums hk fun k e => by rintro rfl; exact ownsRow_not h.sums h.rd (by decide) e
  bel := h.bel.trans (hb.mono h.hp)
  hp := h.hp
  hq := h.hq

/-- a step that leaves all old blocks as they were -/
theorem Inv.below (h : Inv w0 w p q bv a bad f z rv ps zv zs) (hb : Below w.heap.size w w') : Inv w0 w' p q bv a bad f z rv ps zv zs :=
  h.keep (.of_below hb fun _ h _ => h) (h.rd.below hb) (hb.mono (Nat.le_of_lt (blk_lt h.rd)))

/-- a store into a block of another kind -/
theorem Inv.set (h : Inv w0 w p q bv a bad f z rv ps zv zs) {x : Nat} {c : Array Value} {fr : Nat × Nat} (hx : w.heap[x]? = some (.cells c 47 fr)) (hv : rv.ownBlock ≠ some x) (hx0 : w0.heap.size ≤ x) (o : Nat) (u : Value) : Inv w0 (w.setCell ⟨x, o, none⟩ u) p q bv a bad f z rv ps zv zs := by
  have hk : Kept w (w.setCell ⟨x, o, none⟩ u) (· ≠ x) := .set _ _ _ _ fun hn => hn rfl
  exact {
    rd := (hk.block p (blk_lt h.rd) (blk_ne h.rd hx (by decide))).trans h.rd
    st := (hk.block q (blk_lt h.st) (blk_ne h.st hx (by decide))).trans h.st
    rs := (hk.block _ (blk_lt h.rs) (blk_ne h.rs hx (by decide))).trans h.rs
    own := ownsRow_kept h.own hk fun k e => by rintro rfl; exact hv e
    dat := fun x hx' => (h.dat x hx').kept hk fun k e => by rintro rfl; exact (h.dat x hx').not_block hx (by decide) e
    sums := ownsRow_kept h.sums hk fun k e => by rintro rfl; exact ownsRow_not h.sums hx (by decide) e
    bel := h.bel.setCell (p := ⟨x, o, none⟩) hx0 u
    hp := h.hp
    hq := h.hq }

/-- one record more -/
theorem Inv.app (h : Inv w0 w p q bv a bad f z rv ps zv zs) {rv' : Value} {y : Rec × Value} (hg : w.grownBy w' rv.ownBlock) (ho : w'.ownsRow w0.heap.size 47 2 rv' (ps ++ [y]).length (flatP (ps ++ [y]))) (hy : OwnB w w0.heap.size 5 y.2 y.1.data) :
    Inv w0 (w'.setCell ⟨q, 2, none⟩ rv') p q bv a bad f z rv' (ps ++ [y]) zv zs := by
  have hk0 : Kept w w' (fun k => rv.ownBlock ≠ some k) := .grown hg fun k e hn => hn e
  have hq' : w'.heap[q]? = some (.cells #[.bool f, .int .i64 z, rv] 39 (0, 0)) := (hk0.block q (blk_lt h.st) (ownsRow_not h.own h.st (by decide))).trans h.st
  have hk1 : Kept w' (w'.setCell ⟨q, 2, none⟩ rv') (· ≠ q) := .set _ _ _ _ fun hn => hn rfl
  have hk : Kept w (w'.setCell ⟨q, 2, none⟩ rv') (fun k => rv.ownBlock ≠ some k ∧ k ≠ q) :=
    ⟨Nat.le_trans hk0.size hk1.size, fun k hk hn => (hk1.block k (Nat.lt_of_lt_of_le hk hk0.size) hn.2).trans (hk0.block k hk hn.1)⟩
  exact {
    rd := (hk.block p (blk_lt h.rd) ⟨ownsRow_not h.own h.rd (by decide), blk_ne h.rd h.st (by decide)⟩).trans h.rd
    st := by have := heap_set1 w' q 2 rv' _ _ _ hq'; exact this
    rs := (hk.block _ (blk_lt h.rs) ⟨ownsRow_not h.own h.rs (by decide), fun e => by have := h.hq; omega⟩).trans h.rs
    own := ownsRow_kept ho hk1 fun k e => by rintro rfl; exact ownsRow_not ho hq' (by decide) e
    dat := fun x hx => by
      have hx' : OwnB w w0.heap.size 5 x.2 x.1.data := by
        rcases List.mem_append.1 hx with hx | hx
        · exact h.dat x hx
        · obtain rfl : x = y := by simpa using hx
          exact hy
      exact hx'.kept hk fun k e => ⟨ownsRow_apart hx' h.own (by decide) k e, by rintro rfl; exact hx'.not_block h.st (by decide) e⟩
    sums := ownsRow_kept h.sums hk fun k e => ⟨ownsRow_apart h.sums h.own (by decide) k e, by rintro rfl; exact ownsRow_not h.sums h.st (by decide) e⟩
    bel := (h.bel.grown hg h.bel.size (fun k hk => (World.ownsRow.lt h.own k hk).1)).setCell (p := ⟨q, 2, none⟩) (Nat.le_of_lt h.hq) rv'
    hp := h.hp
    hq := h.hq }

theorem Inv.app_q (h : Inv w0 w p q bv a bad f z rv ps zv zs) (hg : w.grownBy w' rv.ownBlock) : w'.heap[q]? = some (.cells #[.bool f, .int .i64 z, rv] 39 (0, 0)) :=
  (hg.block q (blk_lt h.st) (fun e => ownsRow_not h.own h.st (by decide) e.symm)).trans h.st
theorem row_slice {base s n : Nat} {e : TypeId} {v : Value} {xs : List Value} (h : w.ownsRow base e s v n xs) : ∃ oa m c, v = .slice oa m c := by
  rcases h.2 with ⟨rfl, _⟩ | ⟨g, cap, cur, rfl, _⟩
  · exact ⟨_, _, _, rfl⟩
  · exact ⟨_, _, _, rfl⟩

/-- one sum more -/
theorem Inv.sum (h : Inv w0 w p q bv a bad f z rv ps zv zs) {zv' : Value} {zs' : List Int} (hg : w.grownBy w' zv.ownBlock) (ho : OwnI w' w0.heap.size zv' zs') : Inv w0 w' p q bv a bad f z rv ps zv' zs' := by
  have hk : Kept w w' (fun k => zv.ownBlock ≠ some k) := .grown hg fun k e hn => hn e
  exact {
    rd := (hk.block p (blk_lt h.rd) (ownsRow_not h.sums h.rd (by decide))).trans h.rd
    st := (hk.block q (blk_lt h.st) (ownsRow_not h.sums h.st (by decide))).trans h.st
    rs := (hk.block _ (blk_lt h.rs) (ownsRow_not h.sums h.rs (by decide))).trans h.rs
    own := ownsRow_kept h.own hk fun k e => ownsRow_apart h.own h.sums (by decide) k e
    dat := fun x hx => (h.dat x hx).kept hk fun k e => ownsRow_apart (h.dat x hx) h.sums (by decide) k e
    sums := ho
    bel := h.bel.grown hg h.bel.size (fun k hk => (World.ownsRow.lt h.sums k hk).1)
    hp := h.hp
    hq := h.hq }

theorem Inv.cells (h : Inv w0 w p q bv a bad f z rv ps zv zs) :
    w.cell? ⟨p, 1, none⟩ = some (.int .i64 a) ∧ w.cell? ⟨p, 2, none⟩ = some (.bool bad) ∧ w.cell? ⟨q, 0, none⟩ = some (.bool f) ∧ w.cell? ⟨q, 1, none⟩ = some (.int .i64 z) ∧ w.cell? ⟨q, 2, none⟩ = some rv ∧ w.frozen? ⟨q, 2, none⟩ = false := by
  have h1 := h.rd
  have h2 := h.st
  unfold Rd at h1
  refine ⟨?_, ?_, ?_, ?_, ?_, ?_⟩ <;> simp [World.cell?, World.frozen?, h1, h2]
end

/-- the result is laid -/
theorem Inv.store {w0 w : World} {p q a : Nat} {bv rv zv : Value} {bad f : Bool} {z : Int} {ps : List (Rec × Value)} {zs : List Int} (h : Inv w0 w p q bv a bad f z rv ps zv zs) (x0 x1 x2 : Value) :
    (((w.setCell ⟨w0.heap.size, 0, none⟩ x0).setCell ⟨w0.heap.size, 1, none⟩ x1).setCell ⟨w0.heap.size, 2, none⟩ x2).heap[w0.heap.size]? = some (.cells #[x0, x1, x2] 39 (0, 0)) ∧
    (((w.setCell ⟨w0.heap.size, 0, none⟩ x0).setCell ⟨w0.heap.size, 1, none⟩ x1).setCell ⟨w0.heap.size, 2, none⟩ x2).ownsRow w0.heap.size 47 2 rv ps.length (flatP ps) ∧
    (∀ y ∈ ps, OwnB (((w.setCell ⟨w0.heap.size, 0, none⟩ x0).setCell ⟨w0.heap.size, 1, none⟩ x1).setCell ⟨w0.heap.size, 2, none⟩ x2) w0.heap.size 5 y.2 y.1.data) ∧
    OwnI (((w.setCell ⟨w0.heap.size, 0, none⟩ x0).setCell ⟨w0.heap.size, 1, none⟩ x1).setCell ⟨w0.heap.size, 2, none⟩ x2) w0.heap.size zv zs ∧
    Below w0.heap.size w0 (((w.setCell ⟨w0.heap.size, 0, none⟩ x0).setCell ⟨w0.heap.size, 1, none⟩ x1).setCell ⟨w0.heap.size, 2, none⟩ x2) := by
  have k : Kept w (((w.setCell ⟨w0.heap.size, 0, none⟩ x0).setCell ⟨w0.heap.size, 1, none⟩ x1).setCell ⟨w0.heap.size, 2, none⟩ x2) (· ≠ w0.heap.size) :=
    ((Kept.set w _ 0 x0 fun hn => hn rfl).trans (.set _ _ 1 x1 fun hn => hn rfl)).trans (.set _ _ 2 x2 fun hn => hn rfl)
  have h1 := heap_set1 w w0.heap.size 0 x0 _ _ _ h.rs
  have h2 := heap_set1 _ w0.heap.size 1 x1 _ _ _ h1
  have h3 := heap_set1 _ w0.heap.size 2 x2 _ _ _ h2
  exact ⟨h3, ownsRow_kept h.own k fun j e => by rintro rfl; exact ownsRow_not h.own h.rs (by decide) e,
    fun y hy => (h.dat y hy).kept k fun j e => by rintro rfl; exact (h.dat y hy).not_block h.rs (by decide) e,
    ownsRow_kept h.sums k fun j e => by rintro rfl; exact ownsRow_not h.sums h.rs (by decide) e,
    ((h.bel.setCell (p := ⟨w0.heap.size, 0, none⟩) (Nat.le_refl _) x0).setCell (p := ⟨w0.heap.size, 1, none⟩) (Nat.le_refl _) x1).setCell (p := ⟨w0.heap.size, 2, none⟩) (Nat.le_refl _) x2⟩

theorem OwnPs.slR {w : World} {base : Nat} {rv : Value} {ps : List (Rec × Value)} (h : w.ownsRow base 47 2 rv ps.length (flatP ps)) (hd : ∀ x ∈ ps, OwnB w base 5 x.2 x.1.data) : SlR w w.heap.size rv (ps.map (·.1)) := by
  have hf : flatP ps = (ps.map fun x => [Value.int .i64 x.1.at_, x.2]).flatten := by unfold flatP; rw [List.flatMap_def]
  refine ⟨ps.map fun x => [.int .i64 x.1.at_, x.2], by simp, ?_, fun i hi => ?_⟩
  · refine ownsRow_slG (e := 47) (base := base) (by rw [List.length_map, ← hf]; exact h) ?_
    intro r hr; simp at hr; obtain ⟨a, b, _, rfl⟩ := hr; rfl
  · rw [List.length_map] at hi
    refine ⟨ps[i].2, ?_, ?_⟩
    · simp [List.getD_eq_getElem?_getD, hi]
    · have := (hd ps[i] (List.getElem_mem _)).slB
      simpa [List.getD_eq_getElem?_getD, hi] using this
end Go.Proofs.Ytoccgpddmhhlgaa
