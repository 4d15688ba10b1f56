import Derived.Test.YtbklhhmcigangaaMP
namespace Go.Mx
open Go.RowKit Go.Maps Go.MapKept Go.ChangeMaps
/-- how a count in a map reads -/
def natR (v : Value) : Option (DataW Unit × List MemPlace) := match v with
  | .int .i64 n => if 0 ≤ n then some (.lit (.int .i64 n), []) else none
  | _ => none
def nv (b : Nat) : Value := .int .i64 b
def nd (b : Nat) : DataW Unit := .lit (.int .i64 (b : Int))
theorem natR_nv (b : Nat) : natR (nv b) = some (nd b, []) := by simp [natR, nv, nd]
theorem nd_inj {a b : Nat} (h : nd a = nd b) : a = b := by simp [nd] at h; omega
theorem natR_inv {v : Value} {y : DataW Unit × List MemPlace} (h : natR v = some y) : ∃ b, v = nv b ∧ y = (nd b, []) := by
  unfold natR at h
  split at h
  · rename_i n
    split at h
    · rename_i hn
      obtain ⟨b, rfl⟩ := Int.eq_ofNat_of_zero_le hn
      cases h; exact ⟨b, rfl, rfl⟩
    · cases h
  · cases h

section
variable {P : Program} {t k e : TypeId} {w w' : World} {m : Nat} {l : PL}

/-- block m is a map that holds these keys' blocks -/
def NM (P : Program) (k : TypeId) (w : World) (m : Nat) (l : PL) : Prop :=
  ∃ D, w.ownsMap P k natR m l.length D ∧ Maps.size D = l.length ∧ (l.map (·.1)).Nodup ∧ (∀ p ∈ l, (Lit.int .i64 p.1).wf = true) ∧
    (∀ s : Int, Maps.has D (.int .i64 s) = (look l s).isSome) ∧ (∀ s : Int, D.atKey (.int .i64 s) (nd 0) = nd ((look l s).getD 0))

theorem own_tightN {n : Nat} {D : DataW Unit} (h : w.ownsMap P k natR m n D) : w.ownsMap P k natR m (Maps.size D) D := by
  obtain ⟨es, clock, h1, h2, h3, h4⟩ := h
  refine ⟨es, clock, h1, h2, ?_, h4⟩
  have := (⟨es, clock, h1, h2, Nat.le_refl _, h4⟩ : w.ownsMap P k natR m es.size D)
  subst h4
  simp [Maps.size, length_sorted]
theorem NM.made (w : World) : NM P k (w.alloc (.map #[] 0)) w.heap.size [] :=
  ⟨_, World.ownsMap_made w P k natR, rfl, by simp, by simp, fun s => rfl, fun s => rfl⟩
theorem NM.lt (h : NM P k w m l) : m < w.heap.size := by obtain ⟨D, h1, _⟩ := h; exact h1.lt
theorem NM.nodup (h : NM P k w m l) : (l.map (·.1)).Nodup := by obtain ⟨D, _, _, h1, _⟩ := h; exact h1
theorem NM.isMap (h : NM P k w m l) : ∃ es c, w.heap[m]? = some (.map es c) := by obtain ⟨D, ⟨es, c, h1, _⟩, _⟩ := h; exact ⟨es, c, h1⟩
theorem NM.block (h : NM P k w m l) (hb : w'.heap[m]? = w.heap[m]?) : NM P k w' m l := by
  obtain ⟨D, ⟨es, c, h1, hr⟩, hrest⟩ := h
  exact ⟨D, ⟨es, c, hb.trans h1, hr⟩, hrest⟩
theorem NM.look (h : NM P k w m l) (hk : P.underlying k = some (.int .i64)) (ht : P.underlying t = some (.map k e)) (hz : ∀ w, (zeroValue e).run P w = .ok (.int .i64 0) w) (s : Int) (hs : (Lit.int .i64 s).wf = true) :
    (Instr.lookup t (.map (some m)) (.int .i64 s) false).run P w = .ok (.int .i64 (((Mx.look l s).getD 0 : Nat) : Int)) w := by
  obtain ⟨D, h1, h2, h3, h4, h5, h6⟩ := h
  obtain ⟨v, ps, hrun, hv⟩ := h1.lookup (int_keyed hk) ht (hz w) (natR_nv 0) (keyS hk s hs)
  obtain ⟨o, rfl, he⟩ := natR_inv hv
  rw [h6] at he
  rw [hrun, nd_inj (Prod.mk.inj he).1]; rfl
theorem NM.len (h : NM P k w m l) (ht : P.underlying t = some (.map k e)) (ty : TypeId) : (Builtin.len_ #[t] ty #[.map (some m)]).run P w = .ok (.int .i64 l.length) w := by
  obtain ⟨D, h1, h2, _⟩ := h
  have := h1.len ht ty
  rwa [h2] at this
theorem NM.upd (h : NM P k w m l) (hk : P.underlying k = some (.int .i64)) (ht : P.underlying t = some (.map k e)) (s : Int) (hs : (Lit.int .i64 s).wf = true) (b : Nat) (hl : l.length < maxLen) :
    ∃ w', (Instr.mapUpdate t (.map (some m)) (.int .i64 s) (.int .i64 (b : Int))).run P w = .ok () w' ∧ NM P k w' m (Mx.upd l s b) ∧ w.grownBy w' (some m) ∧ w'.heap.size = w.heap.size ∧ (∀ a, w'.frozen? a = w.frozen? a) := by
  obtain ⟨D, h1, h2, h3, h4, h5, h6⟩ := h
  obtain ⟨w', hrun, h7, h8⟩ := h1.store (int_keyed hk) ht hl (keyS hk s hs) (natR_nv b)
  have hg : w.grownBy w' (some m) := h8.grown
  have hsz : Maps.size (D.put (.int .i64 s) (nd b)) = (Mx.upd l s b).length := by
    rw [size_put (h1.tidy (int_keyed hk)), h5, h2, upd_len]
  have h9 := own_tightN h7
  rw [hsz] at h9
  refine ⟨w', hrun, ⟨_, h9, hsz, ?_, ?_, fun t => ?_, fun t => ?_⟩, hg, ?_, fun a => h8.frozen a⟩
  · rw [upd_names]
    cases hlk : Mx.look l s with
    | none =>
      simp only [Option.isSome_none, Bool.false_eq_true, if_false]
      rw [List.nodup_append]
      exact ⟨h3, by simp, fun a ha b hb => by simp at hb; subst hb; intro e; subst e; exact (look_none l a).1 hlk ha⟩
    | some c => simpa using h3
  · intro p hp
    have hp2 : p.1 ∈ (Mx.upd l s b).map (·.1) := List.mem_map.2 ⟨p, hp, rfl⟩
    rw [upd_names] at hp2
    split at hp2
    · obtain ⟨q, hq, hq2⟩ := List.mem_map.1 hp2; rw [← hq2]; exact h4 q hq
    · rcases List.mem_append.1 hp2 with hp3 | hp3
      · obtain ⟨q, hq, hq2⟩ := List.mem_map.1 hp3; rw [← hq2]; exact h4 q hq
      · simp at hp3; rw [hp3]; exact hs
  · rw [look_upd]
    by_cases e : t = s
    · subst e; rw [has_put_same h1.isMap (keyLit t)]; simp
    · rw [has_put_other (by simpa using e), h5, if_neg e]
  · rw [look_upd]
    by_cases e : t = s
    · subst e; rw [atKey_put_same h1.isMap (keyLit t)]; simp
    · rw [atKey_put_other (by simpa using e), h6, if_neg e]
  · obtain ⟨es, c, es', c', _, rfl⟩ := h8; simp [setBlock]
theorem NM.del (h : NM P k w m l) (hk : P.underlying k = some (.int .i64)) (ht : P.underlying t = some (.map k e)) (s : Int) (hs : (Lit.int .i64 s).wf = true) (ty : TypeId) :
    ∃ w', (Builtin.delete_ #[t, k] ty #[.map (some m), .int .i64 s]).run P w = .ok (.tuple #[]) w' ∧ NM P k w' m (Mx.del l s) ∧ w.grownBy w' (some m) ∧ w'.heap.size = w.heap.size ∧ (∀ a, w'.frozen? a = w.frozen? a) := by
  obtain ⟨D, h1, h2, h3, h4, h5, h6⟩ := h
  obtain ⟨w', hrun, h7, h8⟩ := h1.drop (int_keyed hk) ht (keyS hk s hs) ty
  have hsz : Maps.size (D.del (.int .i64 s)) = (Mx.del l s).length := by
    have a1 := size_del (k := .int .i64 s) (h1.tidy (int_keyed hk))
    have a2 := del_len l s h3
    rw [h5, h2] at a1
    omega
  have h9 := own_tightN h7
  rw [hsz] at h9
  refine ⟨w', hrun, ⟨_, h9, hsz, ?_, ?_, fun t => ?_, fun t => ?_⟩, h8.grown, ?_, fun a => h8.frozen a⟩
  · rw [del_names]; exact h3.filter _
  · intro p hp; unfold Mx.del at hp; exact h4 p (List.mem_filter.1 hp).1
  · rw [look_del]
    by_cases e : t = s
    · subst e; rw [has_del_same]; simp
    · rw [has_del_other (by simpa using e), h5, if_neg e]
  · rw [look_del]
    by_cases e : t = s
    · subst e; rw [atKey_del_same]; simp
    · rw [atKey_del_other (by simpa using e), h6, if_neg e]
  · obtain ⟨es, c, es', c', _, rfl⟩ := h8; simp [setBlock]

/-- a range over that map under way: which keys are still to come -/
def RN (P : Program) (k : TypeId) (w : World) (m r : Nat) (l : PL) (left : Int → Bool) (cnt : Nat) : Prop :=
  ∃ (D : DataW Unit) (lf : Lit → Bool), w.ranges P k natR m r l.length D lf cnt ∧ Maps.size D = l.length ∧ (l.map (·.1)).Nodup ∧ (∀ p ∈ l, (Lit.int .i64 p.1).wf = true) ∧
    (∀ s : Int, Maps.has D (.int .i64 s) = (look l s).isSome) ∧ (∀ s : Int, D.atKey (.int .i64 s) (nd 0) = nd ((look l s).getD 0)) ∧ (∀ s : Int, lf (.int .i64 s) = left s)
theorem RN.nm {r cnt : Nat} {left : Int → Bool} (h : RN P k w m r l left cnt) : NM P k w m l := by
  obtain ⟨D, lf, h1, h2, h3, h4, h5, h6, _⟩ := h
  exact ⟨D, h1.owns, h2, h3, h4, h5, h6⟩
theorem RN.left_eq {r cnt : Nat} {left : Int → Bool} (h : RN P k w m r l left cnt) : w.rangeLeft m r = cnt := by obtain ⟨D, lf, h1, _⟩ := h; exact h1.left_eq
theorem RN.lt {r cnt : Nat} {left : Int → Bool} (h : RN P k w m r l left cnt) : r < w.heap.size := by obtain ⟨D, lf, h1, _⟩ := h; exact h1.lt
theorem RN.iter {r cnt : Nat} {left : Int → Bool} (h : RN P k w m r l left cnt) : ∃ a b c, w.heap[r]? = some (.mapIter (some m) a b c) := by
  obtain ⟨D, lf, ⟨_, _, a, b, c, _, _, _, _, h, _⟩, _⟩ := h; exact ⟨a, b, c, h⟩
theorem RN.blocks {r cnt : Nat} {left : Int → Bool} (h : RN P k w m r l left cnt) (h1 : w'.heap[m]? = w.heap[m]?) (h2 : w'.heap[r]? = w.heap[r]?) : RN P k w' m r l left cnt := by
  obtain ⟨D, lf, ⟨es, clock, since, seen, c0, g1, g2, g3, g4, g5, g6⟩, hrest⟩ := h
  exact ⟨D, lf, ⟨es, clock, since, seen, c0, h1.trans g1, g2, g3, g4, h2.trans g5, g6⟩, hrest⟩
end

section
variable {P : Program} (w : World) {ops : Array Oper} {rest : List Oper} {o : Oper} {a : Act} {Q : Exit → Act → World → Prop} {t k e : TypeId} {m : Nat} {l : PL}
theorem range_nm (hg : o.guard = none) (x : Operand) (hop : o.op = Op.range t x) (hk : P.underlying k = some (.int .i64)) (ht : P.underlying t = some (.map k e)) (hm : a.eval x = .map (some m)) (h : NM P k w m l)
    (hK : ∀ w', RN P k w' m w.heap.size l (fun s => (look l s).isSome) l.length → w.grownBy w' none → w'.heap.size = w.heap.size + 1 → wpList P ops Q rest (a.put o.dst (.pointer (some ⟨w.heap.size, 0, none⟩))) w') :
    wpList P ops Q (o :: rest) a w := by
  obtain ⟨D, h1, h2, h3, h4, h5, h6⟩ := h
  refine wpList_range_own w hg x t hop k e (int_keyed hk) ht natR m _ D hm h1 ?_
  intro w' g1 g2 g3
  rw [h2] at g1
  exact hK w' ⟨D, _, g1, h2, h3, h4, h5, h6, fun s => h5 s⟩ g2 g3
theorem next_nm (hg : o.guard = none) (it : Operand) (hop : o.op = Op.next it false) (hk : P.underlying k = some (.int .i64)) (r cnt : Nat) (left : Int → Bool) (hit : a.eval it = .pointer (some ⟨r, 0, none⟩)) (h : RN P k w m r l left cnt)
    (hDone : (∀ s, left s = false) → wpList P ops Q rest (a.put o.dst (.tuple #[.bool false])) w)
    (hMore : ∀ (s : Int) (b : Nat) (w' : World) (cnt' : Nat), look l s = some b → left s = true → RN P k w' m r l (fun t => left t && !(t == s)) cnt' → cnt' < cnt → w.grownBy w' (some r) → w'.heap.size = w.heap.size →
      (Instr.entry (.pointer (some ⟨r, 0, none⟩))).run P w' = .ok (.tuple #[.int .i64 s, .int .i64 (b : Int)]) w' → wpList P ops Q rest (a.put o.dst (.tuple #[.bool true, .int .i64 s, .int .i64 (b : Int)])) w') :
    wpList P ops Q (o :: rest) a w := by
  obtain ⟨D, lf, h1, h2, h3, h4, h5, h6, h7⟩ := h
  refine wpList_next_ranges (α := Int) (β := Nat) w hg it hop k (int_keyed hk) natR (fun s => .int .i64 s) nv ?_ ?_ m r _ D lf cnt hit h1 ?_ ?_
  · intro key kl hkey
    obtain ⟨x, rfl, _⟩ := Maps.keyOf_int_inv hk hkey
    exact ⟨x, rfl⟩
  · intro v y hv
    obtain ⟨o, rfl, _⟩ := natR_inv hv
    exact ⟨o, rfl⟩
  · intro _ hl
    exact hDone fun s => by rw [← h7]; exact hl _
  · intro s o' kl y w' cnt' hkey hl hy hat hrg hlt hgr hsz hen
    obtain ⟨s', hs', rfl, hsl⟩ := Maps.keyOf_int_inv hk hkey
    cases hs'
    have hat : ∀ zd, D.atKey (.int .i64 s) zd = y.1 := hat
    obtain ⟨o2, ho2, hy2⟩ := natR_inv hy
    have hlk : (look l s).getD 0 = o2 := by
      apply nd_inj
      rw [← h6 s]
      have := hat (nd 0)
      rw [hy2] at this
      exact this
    have hsome : (look l s).isSome = true := by
      rw [← h5 s]
      have hz : ∀ z, D.atKey (.int .i64 s) z = y.1 := hat
      exact has_true_of_atKey hz
    obtain ⟨b, hb⟩ := Option.isSome_iff_exists.1 hsome
    have heq : o' = b := by
      rw [hb] at hlk
      simp [nv] at ho2 hlk
      omega
    rw [heq] at hen ⊢
    refine hMore s b w' cnt' hb (by rw [← h7]; exact hl) ⟨D, _, hrg, h2, h3, h4, h5, h6, fun t => ?_⟩ hlt hgr hsz hen
    show (lf (.int .i64 t) && !(Lit.int .i64 t).sameKey (.int .i64 s)) = _
    rw [h7]
    by_cases e : t = s
    · subst e; rw [WideAt.sameKey_self (keyLit t)]; simp
    · rw [sameKey_ne (by simpa using e)]; simp [e]
end
end Go.Mx
