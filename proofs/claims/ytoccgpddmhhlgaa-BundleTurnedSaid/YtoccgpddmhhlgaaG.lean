import Derived.Test.YtoccgpddmhhlgaaF
namespace Go.Mx
open Go.RowKit

/-- all old blocks of a kind are as they were -/
structure Kept (w w' : World) (N : Nat → Prop) : Prop where
  size : w.heap.size ≤ w'.heap.size
  block : ∀ k, k < w.heap.size → N k → w'.heap[k]? = w.heap[k]?
theorem Kept.cell {w w' : World} {N : Nat → Prop} (h : Kept w w' N) {b o : Nat} (hb : b < w.heap.size) (hn : N b) : w'.cell? ⟨b, o, none⟩ = w.cell? ⟨b, o, none⟩ :=
  World.cell?_of_block (h.block b hb hn)
theorem Kept.trans {a b c : World} {N : Nat → Prop} (h : Kept a b N) (k : Kept b c N) : Kept a c N :=
  ⟨Nat.le_trans h.size k.size, fun i hi hn => (k.block i (Nat.lt_of_lt_of_le hi h.size) hn).trans (h.block i hi hn)⟩
theorem Kept.of_below {w w' : World} {B : Nat} {N : Nat → Prop} (h : Below B w w') (hN : ∀ k, k < w.heap.size → N k → k < B) : Kept w w' N := ⟨h.size, fun k hk hn => h.block k (hN k hk hn)⟩
theorem Kept.set (w : World) (b o : Nat) (v : Value) {N : Nat → Prop} (hn : ¬ N b) : Kept w (w.setCell ⟨b, o, none⟩ v) N :=
  ⟨by simp, fun k _ hk => Below.heap_setCell w ⟨b, o, none⟩ v k (fun e => hn (by subst e; exact hk))⟩
theorem Kept.grown {w w' : World} {r : Option Nat} {N : Nat → Prop} (h : w.grownBy w' r) (hn : ∀ k, r = some k → ¬ N k) : Kept w w' N :=
  ⟨h.size, fun k hk hN => h.block k hk (fun e => hn k e.symm hN)⟩
theorem Kept.drew (w : World) (N : Nat → Prop) : Kept w w.drew N := ⟨Nat.le_refl _, fun _ _ _ => rfl⟩
theorem Kept.alloc (w : World) (o : Obj) (N : Nat → Prop) : Kept w (w.alloc o) N := .of_below ((Below.refl w.heap.size w).alloc (Nat.le_refl _) o) fun _ h _ => h

/-- 'append(out, xs...)' as append_sl, and which block alone is written -/
theorem append_slg {P : Program} (w : World) {ops : Array Oper} {rest : List Oper} {o : Oper} {a : Act} {Q : Exit → Act → World → Prop} (hgd : o.guard = none) (s x : Operand) (t e : TypeId)
    (ho : o.op = .call { callee := .builtin .append, args := #[s, x], argTypes := #[t, t] })
    (ht : P.underlying t = some (.slice e)) (hi : (P.info? e).map (fun i => (i.zero, i.size, i.bytes)) = some (some (.int .u8 0), 1, 1))
    (base : Nat) (v : Value) (l : List UInt8) (hs : a.eval s = v) (hown : OwnB w base e v l) (xv : Value) (bs : List UInt8) (B : Nat) (hx : a.eval x = xv) (hsl : SlB w B xv bs)
    (hlen : l.length + bs.length ≤ 140737488355328) (hB : base ≤ w.heap.size)
    (h : ∀ v' w', OwnB w' base e v' (l ++ bs) → w.grownBy w' v.ownBlock → wpList P ops Q rest (a.put o.dst v') w') : wpList P ops Q (o :: rest) a w := by
  obtain ⟨i0, hi0, hz0, hz1, hz2⟩ := info_parts hi
  obtain ⟨oa, cap, rfl, h1, h2, h3⟩ := hsl
  cases oa with
  | none =>
    have hb : bs = [] := by
      cases bs with
      | nil => rfl
      | cons y r => obtain ⟨_, _, hh, _⟩ := h3 (by simp); cases hh
    subst hb
    refine wpList_plain hgd fun K hK => ?_
    have hrun := run_append_nosrc (P := P) (w := w) (ty := o.type) ht hi0 hown cap
    unfold Oper.wp
    simp [execOp, ho, resolve, invoke, builtin, hs, hx, hrun, Result.andThen]
    exact hK _ _ (h v w (by simpa using hown) (World.grownBy.refl w _))
  | some ad =>
    refine wpList_append_own w hgd s x t ho base e i0 _ 1 1 ht hi0 hz0 hz1 hz2 rfl (by decide) v l.length _ hs hown ad bs.length cap (bs.map u8) hx (by simp) ?_ ?_ ?_ ?_ hB ?_
    · intro j u hj
      simp only [List.getElem?_map] at hj
      cases hb : bs[j]? with
      | none => rw [hb] at hj; cases hj
      | some y =>
        rw [hb] at hj
        simp only [Option.map_some, Option.some.injEq] at hj
        subst hj
        have hjl : j < bs.length := (List.getElem?_eq_some_iff.1 hb).1
        obtain ⟨bb, bo, hh, _, hr⟩ := h3 (by rintro rfl; simp at hjl)
        cases hh
        have e : (⟨bb, bo, none⟩ : Addr).add j = ⟨bb, bo + j, none⟩ := by unfold Addr.add; split <;> simp_all
        rw [e, hr j hjl, List.getD_eq_getElem?_getD, hb]
        rfl
    · intro u hu; simp at hu; obtain ⟨y, _, rfl⟩ := hu; rfl
    · unfold maxLen; omega
    · omega
    · intro v' w' ho' hg' _
      exact h v' w' (by unfold OwnB; simpa using ho') hg'

theorem SlB.kept {w w' : World} {N : Nat → Prop} {B : Nat} {v : Value} {bs : List UInt8} (h : SlB w B v bs) (hB : B ≤ w.heap.size) (hk : Kept w w' N) (hN : ∀ k, k < B → N k) : SlB w' B v bs := by
  obtain ⟨oa, cap, rfl, h1, h2, h3⟩ := h
  refine ⟨oa, cap, rfl, h1, h2, fun hn => ?_⟩
  obtain ⟨bb, bo, rfl, hl, hr⟩ := h3 hn
  exact ⟨bb, bo, rfl, hl, fun i hi => (hk.cell (by omega) (hN bb hl)).trans (hr i hi)⟩
theorem OwnB.sl_kept {w w' : World} {N : Nat → Prop} {base : Nat} {e : TypeId} {v : Value} {bs : List UInt8} (h : OwnB w base e v bs) (hk : Kept w w' N) (hN : ∀ k, base ≤ k → k < w.heap.size → N k) : SlB w' w.heap.size v bs := by
  rcases h.shape with ⟨rfl, rfl⟩ | ⟨g, cap, rfl, h1, h2, h3, h4, h5⟩
  · exact SlB.nil _ _
  · exact ⟨_, cap, rfl, h3, h4, fun _ => ⟨g, 0, rfl, h2, fun i hi => (hk.cell h2 (hN g h1 h2)).trans (h5 i hi)⟩⟩
theorem OwnB.kept {w w' : World} {N : Nat → Prop} {base : Nat} {e : TypeId} {v : Value} {l : List UInt8} (h : OwnB w base e v l) (hk : Kept w w' N) (hv : ∀ k, v.ownBlock = some k → N k) : OwnB w' base e v l := by
  have hlt := h.lt
  refine ⟨h.1, ?_⟩
  rcases h.2 with hn | ⟨g, cap, cur, rfl, hbg, hgg, rest⟩
  · exact .inl hn
  · exact .inr ⟨g, cap, cur, rfl, hbg, by rw [hk.block g (hlt g rfl) (hv g rfl)]; exact hgg, rest⟩
theorem OwnB.not_block {w : World} {base : Nat} {e t : TypeId} {v : Value} {l : List UInt8} (h : OwnB w base e v l) {q : Nat} {c : Array Value} {f : Nat × Nat} (hq : w.heap[q]? = some (.cells c t f)) (ht : t ≠ e) : v.ownBlock ≠ some q := by
  intro hv
  rcases h.2 with ⟨rfl, _⟩ | ⟨g, cap, cur, rfl, hbg, hgg, rest⟩
  · cases hv
  · cases hv
    rw [hgg] at hq
    simp only [Option.some.injEq, Obj.cells.injEq] at hq
    exact ht hq.2.1.symm
end Go.Mx
namespace Go.Proofs.Ytoccgpddmhhlgaa
open Go.RowKit Go.Mx Go.Crc Go.Str

/-- the keeper of bytes at block p -/
structure Sm (w : World) (p : Nat) (v : Value) (bs : List UInt8) : Prop where
  at_ : w.heap[p]? = some (.cells #[v, .int .u32 (sum bs).toNat] 70 (0, 0))
  own : OwnB w (p + 1) 5 v bs
def SmN (p : Nat) (v : Value) (k : Nat) : Prop := k ≠ p ∧ v.ownBlock ≠ some k

theorem Sm.cells {w : World} {p : Nat} {v : Value} {bs : List UInt8} (h : Sm w p v bs) : w.cell? ⟨p, 0, none⟩ = some v ∧ w.cell? ⟨p, 1, none⟩ = some (.int .u32 (sum bs).toNat) ∧ (∀ o, w.frozen? ⟨p, o, none⟩ = false) := by
  have h := h.at_
  refine ⟨?_, ?_, fun o => ?_⟩ <;> simp [World.cell?, World.frozen?, h]
theorem Sm.lt {w : World} {p : Nat} {v : Value} {bs : List UInt8} (h : Sm w p v bs) : p < w.heap.size := (Array.getElem?_eq_some_iff.1 h.at_).1
theorem Sm.below {w w' : World} {p : Nat} {v : Value} {bs : List UInt8} (h : Sm w p v bs) (hb : Below w.heap.size w w') : Sm w' p v bs :=
  ⟨(hb.block p h.lt).trans h.at_, h.own.below hb h.own.lt⟩

theorem heap_set1 (w : World) (p i : Nat) (u : Value) (cur : Array Value) (e : TypeId) (fr : Nat × Nat) (h : w.heap[p]? = some (.cells cur e fr)) :
    (w.setCell ⟨p, i, none⟩ u).heap[p]? = some (.cells (cur.setIfInBounds i u) e fr) := heap_setCell_at w p i u cur e fr h

set_option maxRecDepth 100000 in
set_option maxHeartbeats 2000000 in
theorem write_any (p : Nat) (v xv : Value) (bs xs : List UInt8) (w : World) (h : Sm w p v bs) (hx : ∀ w', Kept w w' (SmN p v) → SlB w' w.heap.size xv xs) (hl : bs.length + xs.length ≤ 1000000000) :
    Calls Try.prog 41 #[.pointer (some ⟨p, 0, none⟩), xv] w fun e w' => (∃ r, e = .returned r) ∧ ∃ v', Sm w' p v' (bs ++ xs) ∧ Below p w w' ∧ Kept w w' (SmN p v) := by
  have hsx := hx w ⟨Nat.le_refl _, fun _ _ _ => rfl⟩
  obtain ⟨c0, c1, fz⟩ := h.cells
  have fz0 := fz 0
  have fz1 := fz 1
  have hpl := h.lt
  go_enter Try.func41, Try.ntmps41
  go_wp2_with (at_builtin; refine append_slg _ rfl _ _ 25 5 rfl Try.underlying25 Try.info5 (p + 1) _ bs rfl h.own _ xs w.heap.size rfl hsx ?_ ?_ ?_)
  · omega
  · omega
  intro v1 w1 ho1 hg1
  obtain ⟨oa1, n1, cp1, hv1⟩ : ∃ oa n c, v1 = .slice oa n c := by obtain ⟨oa1, cp1, hv1, _⟩ := ho1.slB; exact ⟨_, _, _, hv1⟩
  subst hv1
  have hvp : ∀ k, v.ownBlock = some k → p + 1 ≤ k := fun k hk => (World.ownsRow.lt h.own k hk).1
  have k1 : Kept w w1 (SmN p v) := .grown hg1 fun k hk hn => hn.2 hk
  have hp1 : w1.heap[p]? = some (.cells #[v, .int .u32 (sum bs).toNat] 70 (0, 0)) := (hg1.block p hpl (fun e => by have := hvp p e.symm; omega)).trans h.at_
  have hbel1 : Below p w w1 := (Below.refl p w).grown hg1 (Nat.le_of_lt hpl) (fun k hk => by have := hvp k hk; omega)
  have d1 : w1.cell? ⟨p, 1, none⟩ = some (.int .u32 (sum bs).toNat) := by simp [World.cell?, hp1]
  have d0 : w1.cell? ⟨p, 0, none⟩ = some v := by simp [World.cell?, hp1]
  have g0 : w1.frozen? ⟨p, 0, none⟩ = false := by simp [World.frozen?, hp1]
  have hp2 : (w1.setCell ⟨p, 0, none⟩ (.slice oa1 n1 cp1)).heap[p]? = some (.cells #[.slice oa1 n1 cp1, .int .u32 (sum bs).toNat] 70 (0, 0)) := heap_set1 w1 p 0 _ _ _ _ hp1
  have k2 : Kept w (w1.setCell ⟨p, 0, none⟩ (.slice oa1 n1 cp1)) (SmN p v) := k1.trans (.set _ _ _ _ fun hn => hn.1 rfl)
  have hbel2 : Below p w (w1.setCell ⟨p, 0, none⟩ (.slice oa1 n1 cp1)) := hbel1.setCell (p := ⟨p, 0, none⟩) (Nat.le_refl _) _
  have ho2 : OwnB (w1.setCell ⟨p, 0, none⟩ (.slice oa1 n1 cp1)) (p + 1) 5 (.slice oa1 n1 cp1) (bs ++ xs) := ho1.setCell (Nat.lt_succ_self p) _
  obtain ⟨w2, hw2⟩ : ∃ w2, w2 = w1.setCell ⟨p, 0, none⟩ (.slice oa1 n1 cp1) := ⟨_, rfl⟩
  rw [← hw2] at hp2 k2 hbel2 ho2
  have hsx2 := (hx w2 k2).mono k2.size
  have e1 : w2.cell? ⟨p, 1, none⟩ = some (.int .u32 (sum bs).toNat) := by simp [World.cell?, hp2]
  have hpl2 : p < w2.heap.size := (Array.getElem?_eq_some_iff.1 hp2).1
  have HW := hid (And.intro k2 (And.intro hbel2 (And.intro ho2 hp2)))
  clear ho1 hg1 k1 hp1 hbel1 k2 hbel2 ho2 hp2 hx h hvp c0 c1 fz fz0 fz1
  go_wp2_with fail
  rw [← hw2]
  clear hw2 d0 d1 g0
  refine (more_any (sum bs) xs xv w2 hsx2 (by omega)).mono ?_
  rintro e w3 ⟨rfl, hb3⟩
  have hp3 := (hb3.block p hpl2).trans HW.out.2.2.2
  have f1 : w3.cell? ⟨p, 1, none⟩ = some (.int .u32 (sum bs).toNat) := by simp [World.cell?, hp3]
  have g1 : w3.frozen? ⟨p, 1, none⟩ = false := by simp [World.frozen?, hp3]
  have hlx := fun w' => hsx2.len (P := Try.prog) (ty := 3) Try.underlying25 w'
  rw [show more (sum bs) xs = sum (bs ++ xs) from more_parts 0 bs xs]
  obtain ⟨S, hS⟩ : ∃ S, S = sum (bs ++ xs) := ⟨_, rfl⟩
  rw [← hS]
  have HS := hid (And.intro hS (And.intro hp3 hb3))
  clear hS hp3 hb3 e1 hsx2
  go_wp2_with fail
  go_ret2
  refine ⟨⟨_, rfl⟩, .slice oa1 n1 cp1, ⟨?_, ?_⟩, ?_, (HW.out.1.trans (.of_below HS.out.2.2 fun _ h _ => h)).trans (.set _ _ _ _ fun hn => hn.1 rfl)⟩
  · have := heap_set1 w3 p 1 (.int .u32 S.toNat) _ _ _ HS.out.2.1
    rw [HS.out.1] at this ⊢
    exact this
  · exact (HW.out.2.2.1.below HS.out.2.2 HW.out.2.2.1.lt).setCell (Nat.lt_succ_self p) _
  · exact (HW.out.2.1.trans (HS.out.2.2.mono (Nat.le_of_lt hpl2))).setCell (p := ⟨p, 1, none⟩) (Nat.le_refl _) _

set_option maxRecDepth 100000 in
set_option maxHeartbeats 2000000 in
theorem snum_any (p : Nat) (v : Value) (bs : List UInt8) (n x : Nat) (w : World) (h : Sm w p v bs) (hl : bs.length ≤ 900000000) (h1 : 1 ≤ n) (h4 : n ≤ 4) (hv : x < 256 ^ n) :
    Calls Try.prog 42 #[.pointer (some ⟨p, 0, none⟩), .int .i64 n, .int .i64 x] w fun e w' => e = .returned (.tuple #[]) ∧ ∃ v', Sm w' p v' (bs ++ le n x) ∧ Below p w w' ∧ Kept w w' (SmN p v) := by
  have hv4 : x < 256 ^ 4 := Nat.lt_of_lt_of_le hv (Nat.pow_le_pow_right (by omega) h4)
  have hv' : x < 4294967296 := hv4
  have HC := hid (put_any [] (.slice none 0 0) n x w (SlB.nil _ _) (by simp) h1 h4 hv)
  have hw := wr_u64 x (by omega)
  have H := hid h
  clear h hv hv4
  go_enter Try.func42, Try.ntmps42
  go_wp2_with fail
  refine HC.out.mono ?_
  rintro e w1 ⟨ov, rfl, ho, hb1⟩
  have hpl := H.out.lt
  have HC2 := hid (write_any p v ov bs (le n x) w1 (H.out.below hb1) (fun w' hk => ho.sl_kept hk fun k h1 h2 => ⟨by omega, fun e => by have := H.out.own.lt k e; omega⟩) (by rw [le_length]; omega))
  have HB := hid (And.intro (hb1.mono (Nat.le_of_lt hpl)) (Kept.of_below (N := SmN p v) hb1 fun _ h _ => h))
  clear HC ho hb1
  go_wp2_with fail
  refine HC2.out.mono ?_
  rintro e w2 ⟨⟨r, rfl⟩, v', hs, hb2, hk2⟩
  go_wp2
  go_end0
  exact ⟨rfl, v', hs, HB.out.1.trans hb2, HB.out.2.trans hk2⟩
end Go.Proofs.Ytoccgpddmhhlgaa
