import Derived.Test.YtmcllcepoiakeaaGreatMK
import Derived.Maps.RangeWalk
import Derived.StringKeys
import Derived.Test.YtmcllcepoiakeaaGreatRows
import Derived.KernelRfl
set_option linter.unusedSimpArgs false
set_option linter.unusedVariables false
namespace Go.Mi
open Go.RowKit Go.Mx Go.Maps Go.MapKept Go.ChangeMaps
/-- how a pointer in a map reads: as its block's number -/
def ptrR (v : Value) : Option (DataW Unit × List MemPlace) := match v with
  | .pointer none => some (.lit (.int .i64 (-1)), [])
  | .pointer (some ⟨b, 0, none⟩) => some (.lit (.int .i64 (b : Int)), [])
  | _ => none
def pv : Option Nat → Value
  | none => .pointer none
  | some b => .pointer (some ⟨b, 0, none⟩)
def pd : Option Nat → DataW Unit
  | none => .lit (.int .i64 (-1))
  | some b => .lit (.int .i64 (b : Int))
theorem ptrR_pv (o : Option Nat) : ptrR (pv o) = some (pd o, []) := by cases o <;> rfl
theorem pd_inj {a b : Option Nat} (h : pd a = pd b) : a = b := by
  cases a <;> cases b <;> simp [pd] at h ⊢ <;> omega
theorem ptrR_inv {v : Value} {y : DataW Unit × List MemPlace} (h : ptrR v = some y) : ∃ o, v = pv o ∧ y = (pd o, []) := by
  unfold ptrR at h
  split at h
  · cases h; exact ⟨none, rfl, rfl⟩
  · rename_i b; cases h; exact ⟨some b, rfl, rfl⟩
  · cases h
abbrev PL := List (Int × Nat)
def look (l : PL) (s : Int) : Option Nat := (l.find? (fun p => p.1 == s)).map (·.2)
/-- a store at a key -/
def upd (l : PL) (s : Int) (b : Nat) : PL := if (look l s).isSome then l.map (fun p => if p.1 == s then (s, b) else p) else l ++ [(s, b)]
def del (l : PL) (s : Int) : PL := l.filter fun p => !(p.1 == s)
theorem look_cons (p : Int × Nat) (l : PL) (s : Int) : look (p :: l) s = if p.1 = s then some p.2 else look l s := by
  unfold look; rw [List.find?_cons]
  by_cases h : p.1 = s
  · simp [h]
  · rw [if_neg h, show (p.1 == s) = false by simpa using h]
theorem look_nil (s : Int) : look [] s = none := rfl
theorem look_none (l : PL) (s : Int) : look l s = none ↔ s ∉ l.map (·.1) := by
  induction l with
  | nil => simp [look_nil]
  | cons p l ih =>
    rw [look_cons]
    by_cases h : p.1 = s
    · rw [if_pos h]; simp [h]
    · rw [if_neg h, ih]; simp; intro _ e; exact h e.symm
theorem look_append (l m : PL) (s : Int) : look (l ++ m) s = (look l s).or (look m s) := by
  induction l with
  | nil => rw [look_nil, List.nil_append]; rfl
  | cons p l ih => rw [List.cons_append, look_cons, look_cons, ih]; split <;> rfl
theorem look_map (l : PL) (s t : Int) (b : Nat) : look (l.map (fun p => if p.1 == s then (s, b) else p)) t = if t = s then (look l s).map (fun _ => b) else look l t := by
  induction l with
  | nil => simp [look_nil]
  | cons p l ih =>
    rw [List.map_cons, look_cons, look_cons, look_cons, ih]
    by_cases h : p.1 = s
    · subst h
      by_cases h2 : t = p.1
      · subst h2; simp
      · simp [h2, Ne.symm h2]
    · by_cases h2 : t = s
      · subst h2; simp [h]
      · simp [h, h2]
theorem look_upd (l : PL) (s t : Int) (b : Nat) : look (upd l s b) t = if t = s then some b else look l t := by
  unfold upd
  cases h : look l s with
  | none =>
    simp only [Option.isSome_none, Bool.false_eq_true, if_false]
    rw [look_append, look_cons, look_nil]
    by_cases h2 : t = s
    · subst h2; rw [h]; simp
    · rw [if_neg h2, if_neg (Ne.symm h2)]; simp
  | some c =>
    simp only [Option.isSome_some, if_true]
    rw [look_map, h]; rfl
theorem look_del (l : PL) (s t : Int) : look (del l s) t = if t = s then none else look l t := by
  unfold del
  induction l with
  | nil => simp [look_nil]
  | cons p l ih =>
    rw [List.filter_cons, look_cons]
    by_cases h : p.1 = s
    · subst h
      simp only [beq_self_eq_true, Bool.not_true, Bool.false_eq_true, if_false]
      rw [ih]
      by_cases h2 : t = p.1
      · simp [h2]
      · simp [h2, Ne.symm h2]
    · rw [if_pos (by simp [h]), look_cons, ih]
      by_cases h2 : t = s
      · subst h2; simp [h]
      · simp [h2]
theorem upd_names (l : PL) (s : Int) (b : Nat) : (upd l s b).map (·.1) = if (look l s).isSome then l.map (·.1) else l.map (·.1) ++ [s] := by
  unfold upd
  split
  · rw [List.map_map]; apply List.map_congr_left; intro p _; simp only [Function.comp]; split
    · rename_i h; simpa using (beq_iff_eq.1 h).symm
    · rfl
  · simp
theorem upd_len (l : PL) (s : Int) (b : Nat) : (upd l s b).length = if (look l s).isSome then l.length else l.length + 1 := by
  have h := congrArg List.length (upd_names l s b)
  rw [List.length_map] at h
  rw [h]; split <;> simp
theorem del_names (l : PL) (s : Int) : (del l s).map (·.1) = (l.map (·.1)).filter fun t => !(t == s) := by
  unfold del; induction l with
  | nil => rfl
  | cons p l ih => simp only [List.filter_cons, List.map_cons]; split <;> simp [ih]
theorem del_len (l : PL) (s : Int) (hn : (l.map (·.1)).Nodup) : (del l s).length + (if (look l s).isSome then 1 else 0) = l.length := by
  induction l with
  | nil => rfl
  | cons p l ih =>
    rw [List.map_cons, List.nodup_cons] at hn
    have := ih hn.2
    unfold del at this ⊢
    rw [List.filter_cons, look_cons]
    by_cases h : p.1 = s
    · subst h
      have h1 := (look_none l p.1).2 hn.1
      rw [h1] at this
      simp at this ⊢; exact this
    · rw [if_pos (by simp [h]), if_neg h]
      simp only [List.length_cons]; omega
section
variable {P : Program} {t k e : TypeId} {w w' : World} {m : Nat} {l : PL}
/-- block m is a map that holds these keys' blocks -/
def PM (P : Program) (k : TypeId) (w : World) (m : Nat) (l : PL) : Prop :=
  ∃ D, w.ownsMap P k ptrR m l.length D ∧ Maps.size D = l.length ∧ (l.map (·.1)).Nodup ∧ (∀ p ∈ l, (Lit.int .i64 p.1).wf = true) ∧
    (∀ s : Int, Maps.has D (.int .i64 s) = (look l s).isSome) ∧ (∀ s : Int, D.atKey (.int .i64 s) (pd none) = pd (look l s))
theorem own_tight {n : Nat} {D : DataW Unit} (h : w.ownsMap P k ptrR m n D) : w.ownsMap P k ptrR m (Maps.size D) D := by
  obtain ⟨es, clock, h1, h2, h3, h4⟩ := h
  refine ⟨es, clock, h1, h2, ?_, h4⟩
  have := (⟨es, clock, h1, h2, Nat.le_refl _, h4⟩ : w.ownsMap P k ptrR m es.size D)
  subst h4
  simp [Maps.size, length_sorted]
theorem PM.made (w : World) : PM P k (w.alloc (.map #[] 0)) w.heap.size [] :=
  ⟨_, World.ownsMap_made w P k ptrR, rfl, by simp, by simp, fun s => rfl, fun s => rfl⟩
theorem PM.lt (h : PM P k w m l) : m < w.heap.size := by obtain ⟨D, h1, _⟩ := h; exact h1.lt
theorem PM.nodup (h : PM P k w m l) : (l.map (·.1)).Nodup := by obtain ⟨D, _, _, h1, _⟩ := h; exact h1
theorem PM.isMap (h : PM P k w m l) : ∃ es c, w.heap[m]? = some (.map es c) := by obtain ⟨D, ⟨es, c, h1, _⟩, _⟩ := h; exact ⟨es, c, h1⟩
theorem PM.block (h : PM P k w m l) (hb : w'.heap[m]? = w.heap[m]?) : PM P k w' m l := by
  obtain ⟨D, ⟨es, c, h1, hr⟩, hrest⟩ := h
  exact ⟨D, ⟨es, c, hb.trans h1, hr⟩, hrest⟩
theorem keyS (hk : P.underlying k = some (.int .i64)) (s : Int) (hs : (Lit.int .i64 s).wf = true) : keyOf P k (.int .i64 s) = some (.int .i64 s) := keyOf_int_mk hk hs
theorem keyLit (s : Int) : WideAt.IsKeyLit (.int .i64 s) := trivial
theorem PM.look (h : PM P k w m l) (hk : P.underlying k = some (.int .i64)) (ht : P.underlying t = some (.map k e)) (hz : ∀ w, (zeroValue e).run P w = .ok (.pointer none) w) (s : Int) (hs : (Lit.int .i64 s).wf = true) :
    (Instr.lookup t (.map (some m)) (.int .i64 s) false).run P w = .ok (pv (Mi.look l s)) w := by
  obtain ⟨D, h1, h2, h3, h4, h5, h6⟩ := h
  obtain ⟨v, ps, hrun, hv⟩ := h1.lookup (int_keyed hk) ht (hz w) (ptrR_pv none) (keyS hk s hs)
  obtain ⟨o, rfl, he⟩ := ptrR_inv hv
  rw [h6] at he
  rw [hrun, pd_inj (Prod.mk.inj he).1]
theorem PM.len (h : PM P k w m l) (ht : P.underlying t = some (.map k e)) (ty : TypeId) : (Builtin.len_ #[t] ty #[.map (some m)]).run P w = .ok (.int .i64 l.length) w := by
  obtain ⟨D, h1, h2, _⟩ := h
  have := h1.len ht ty
  rwa [h2] at this
theorem PM.upd (h : PM P k w m l) (hk : P.underlying k = some (.int .i64)) (ht : P.underlying t = some (.map k e)) (s : Int) (hs : (Lit.int .i64 s).wf = true) (b : Nat) (hl : l.length < maxLen) :
    ∃ w', (Instr.mapUpdate t (.map (some m)) (.int .i64 s) (.pointer (some ⟨b, 0, none⟩))).run P w = .ok () w' ∧ PM P k w' m (Mi.upd l s b) ∧ w.grownBy w' (some m) ∧ w'.heap.size = w.heap.size ∧ (∀ a, w'.frozen? a = w.frozen? a) := by
  obtain ⟨D, h1, h2, h3, h4, h5, h6⟩ := h
  obtain ⟨w', hrun, h7, h8⟩ := h1.store (int_keyed hk) ht hl (keyS hk s hs) (ptrR_pv (some b))
  have hg : w.grownBy w' (some m) := h8.grown
  have hsz : Maps.size (D.put (.int .i64 s) (pd (some b))) = (Mi.upd l s b).length := by
    rw [size_put (h1.tidy (int_keyed hk)), h5, h2, upd_len]
  have h9 := own_tight h7
  rw [hsz] at h9
  refine ⟨w', hrun, ⟨_, h9, hsz, ?_, ?_, fun t => ?_, fun t => ?_⟩, hg, ?_, fun a => h8.frozen a⟩
  · rw [upd_names]
    cases hlk : Mi.look l s with
    | none =>
      simp only [Option.isSome_none, Bool.false_eq_true, if_false]
      rw [List.nodup_append]
      exact ⟨h3, by simp, fun a ha b hb => by simp at hb; subst hb; intro e; subst e; exact (look_none l a).1 hlk ha⟩
    | some c => simpa using h3
  · intro p hp
    have hp2 : p.1 ∈ (Mi.upd l s b).map (·.1) := List.mem_map.2 ⟨p, hp, rfl⟩
    rw [upd_names] at hp2
    split at hp2
    · obtain ⟨q, hq, hq2⟩ := List.mem_map.1 hp2; rw [← hq2]; exact h4 q hq
    · rcases List.mem_append.1 hp2 with hp3 | hp3
      · obtain ⟨q, hq, hq2⟩ := List.mem_map.1 hp3; rw [← hq2]; exact h4 q hq
      · simp at hp3; rw [hp3]; exact hs
  · rw [look_upd]
    by_cases e : t = s
    · subst e; rw [has_put_same h1.isMap (keyLit t)]; simp
    · rw [has_put_other (by simpa using e), h5, if_neg e]
  · rw [look_upd]
    by_cases e : t = s
    · subst e; rw [atKey_put_same h1.isMap (keyLit t)]; simp
    · rw [atKey_put_other (by simpa using e), h6, if_neg e]
  · obtain ⟨es, c, es', c', _, rfl⟩ := h8; simp [setBlock]
theorem PM.del (h : PM P k w m l) (hk : P.underlying k = some (.int .i64)) (ht : P.underlying t = some (.map k e)) (s : Int) (hs : (Lit.int .i64 s).wf = true) (ty : TypeId) :
    ∃ w', (Builtin.delete_ #[t, k] ty #[.map (some m), .int .i64 s]).run P w = .ok (.tuple #[]) w' ∧ PM P k w' m (Mi.del l s) ∧ w.grownBy w' (some m) ∧ w'.heap.size = w.heap.size ∧ (∀ a, w'.frozen? a = w.frozen? a) := by
  obtain ⟨D, h1, h2, h3, h4, h5, h6⟩ := h
  obtain ⟨w', hrun, h7, h8⟩ := h1.drop (int_keyed hk) ht (keyS hk s hs) ty
  have hsz : Maps.size (D.del (.int .i64 s)) = (Mi.del l s).length := by
    have a1 := size_del (k := .int .i64 s) (h1.tidy (int_keyed hk))
    have a2 := del_len l s h3
    rw [h5, h2] at a1
    omega
  have h9 := own_tight h7
  rw [hsz] at h9
  refine ⟨w', hrun, ⟨_, h9, hsz, ?_, ?_, fun t => ?_, fun t => ?_⟩, h8.grown, ?_, fun a => h8.frozen a⟩
  · rw [del_names]; exact h3.filter _
  · intro p hp; unfold Mi.del at hp; exact h4 p (List.mem_filter.1 hp).1
  · rw [look_del]
    by_cases e : t = s
    · subst e; rw [has_del_same]; simp
    · rw [has_del_other (by simpa using e), h5, if_neg e]
  · rw [look_del]
    by_cases e : t = s
    · subst e; rw [atKey_del_same]; simp
    · rw [atKey_del_other (by simpa using e), h6, if_neg e]
  · obtain ⟨es, c, es', c', _, rfl⟩ := h8; simp [setBlock]
/-- a range over that map under way: which keys are still to come -/
def RG (P : Program) (k : TypeId) (w : World) (m r : Nat) (l : PL) (left : Int → Bool) (cnt : Nat) : Prop :=
  ∃ (D : DataW Unit) (lf : Lit → Bool), w.ranges P k ptrR m r l.length D lf cnt ∧ Maps.size D = l.length ∧ (l.map (·.1)).Nodup ∧ (∀ p ∈ l, (Lit.int .i64 p.1).wf = true) ∧
    (∀ s : Int, Maps.has D (.int .i64 s) = (look l s).isSome) ∧ (∀ s : Int, D.atKey (.int .i64 s) (pd none) = pd (look l s)) ∧ (∀ s : Int, lf (.int .i64 s) = left s)
theorem RG.pm {r cnt : Nat} {left : Int → Bool} (h : RG P k w m r l left cnt) : PM P k w m l := by
  obtain ⟨D, lf, h1, h2, h3, h4, h5, h6, _⟩ := h
  exact ⟨D, h1.owns, h2, h3, h4, h5, h6⟩
theorem RG.left_eq {r cnt : Nat} {left : Int → Bool} (h : RG P k w m r l left cnt) : w.rangeLeft m r = cnt := by obtain ⟨D, lf, h1, _⟩ := h; exact h1.left_eq
theorem RG.lt {r cnt : Nat} {left : Int → Bool} (h : RG P k w m r l left cnt) : r < w.heap.size := by obtain ⟨D, lf, h1, _⟩ := h; exact h1.lt
theorem RG.iter {r cnt : Nat} {left : Int → Bool} (h : RG P k w m r l left cnt) : ∃ a b c, w.heap[r]? = some (.mapIter (some m) a b c) := by
  obtain ⟨D, lf, ⟨_, _, a, b, c, _, _, _, _, h, _⟩, _⟩ := h; exact ⟨a, b, c, h⟩
theorem RG.blocks {r cnt : Nat} {left : Int → Bool} (h : RG P k w m r l left cnt) (h1 : w'.heap[m]? = w.heap[m]?) (h2 : w'.heap[r]? = w.heap[r]?) : RG P k w' m r l left cnt := by
  obtain ⟨D, lf, ⟨es, clock, since, seen, c0, g1, g2, g3, g4, g5, g6⟩, hrest⟩ := h
  exact ⟨D, lf, ⟨es, clock, since, seen, c0, h1.trans g1, g2, g3, g4, h2.trans g5, g6⟩, hrest⟩
end
section
variable {P : Program} (w : World) {ops : Array Oper} {rest : List Oper} {o : Oper} {a : Act} {Q : Exit → Act → World → Prop} {t k e : TypeId} {m : Nat} {l : PL}
theorem range_pm (hg : o.guard = none) (x : Operand) (hop : o.op = Op.range t x) (hk : P.underlying k = some (.int .i64)) (ht : P.underlying t = some (.map k e)) (hm : a.eval x = .map (some m)) (h : PM P k w m l)
    (hK : ∀ w', RG P k w' m w.heap.size l (fun s => (look l s).isSome) l.length → w.grownBy w' none → w'.heap.size = w.heap.size + 1 → wpList P ops Q rest (a.put o.dst (.pointer (some ⟨w.heap.size, 0, none⟩))) w') :
    wpList P ops Q (o :: rest) a w := by
  obtain ⟨D, h1, h2, h3, h4, h5, h6⟩ := h
  refine wpList_range_own w hg x t hop k e (int_keyed hk) ht ptrR m _ D hm h1 ?_
  intro w' g1 g2 g3
  rw [h2] at g1
  exact hK w' ⟨D, _, g1, h2, h3, h4, h5, h6, fun s => h5 s⟩ g2 g3
theorem next_pm (hg : o.guard = none) (it : Operand) (hop : o.op = Op.next it false) (hk : P.underlying k = some (.int .i64)) (r cnt : Nat) (left : Int → Bool) (hit : a.eval it = .pointer (some ⟨r, 0, none⟩)) (h : RG P k w m r l left cnt)
    (hDone : (∀ s, left s = false) → wpList P ops Q rest (a.put o.dst (.tuple #[.bool false])) w)
    (hMore : ∀ (s : Int) (b : Nat) (w' : World) (cnt' : Nat), look l s = some b → left s = true → RG P k w' m r l (fun t => left t && !(t == s)) cnt' → cnt' < cnt → w.grownBy w' (some r) → w'.heap.size = w.heap.size →
      (Instr.entry (.pointer (some ⟨r, 0, none⟩))).run P w' = .ok (.tuple #[.int .i64 s, .pointer (some ⟨b, 0, none⟩)]) w' → wpList P ops Q rest (a.put o.dst (.tuple #[.bool true, .int .i64 s, .pointer (some ⟨b, 0, none⟩)])) w') :
    wpList P ops Q (o :: rest) a w := by
  obtain ⟨D, lf, h1, h2, h3, h4, h5, h6, h7⟩ := h
  refine wpList_next_ranges (α := Int) (β := Option Nat) w hg it hop k (int_keyed hk) ptrR (fun s => .int .i64 s) pv ?_ ?_ m r _ D lf cnt hit h1 ?_ ?_
  · intro key kl hkey
    obtain ⟨x, rfl, _⟩ := Maps.keyOf_int_inv hk hkey
    exact ⟨x, rfl⟩
  · intro v y hv
    obtain ⟨o, rfl, _⟩ := ptrR_inv hv
    exact ⟨o, rfl⟩
  · intro _ hl
    exact hDone fun s => by rw [← h7]; exact hl _
  · intro s o' kl y w' cnt' hkey hl hy hat hrg hlt hgr hsz hen
    obtain ⟨s', hs', rfl, hsl⟩ := Maps.keyOf_int_inv hk hkey
    cases hs'
    have hat : ∀ zd, D.atKey (.int .i64 s) zd = y.1 := hat
    obtain ⟨o2, ho2, hy2⟩ := ptrR_inv hy
    have hlk : look l s = o2 := by
      apply pd_inj
      rw [← h6 s]
      have := hat (pd none)
      rw [hy2] at this
      exact this
    have hsome : (look l s).isSome = true := by
      rw [← h5 s]
      have hz : ∀ z, D.atKey (.int .i64 s) z = y.1 := hat
      exact has_true_of_atKey hz
    have heq : o' = look l s := by
      rw [hlk]
      cases o' <;> cases o2 <;> simp [pv] at ho2 ⊢
      exact ho2
    obtain ⟨b, hb⟩ := Option.isSome_iff_exists.1 hsome
    rw [heq, hb] at hen ⊢
    refine hMore s b w' cnt' hb (by rw [← h7]; exact hl) ⟨D, _, hrg, h2, h3, h4, h5, h6, fun t => ?_⟩ hlt hgr hsz hen
    show (lf (.int .i64 t) && !(Lit.int .i64 t).sameKey (.int .i64 s)) = _
    rw [h7]
    by_cases e : t = s
    · subst e; rw [WideAt.sameKey_self (keyLit t)]; simp
    · rw [sameKey_ne (by simpa using e)]; simp [e]
end
end Go.Mi
namespace Go.Lr
/-- what stands at a key -/
structure Pg where
  b : List UInt8
  dirty : Bool
  used : Nat
  after : List Int
instance : Inhabited Pg := ⟨⟨[], false, 0, []⟩⟩
structure En where
  k : Int
  pg : Pg
structure CM where
  room : Nat
  all : List En
  uses : Nat
def find (l : List En) (k : Int) : Option Pg := (l.find? fun e => e.k == k).map (·.pg)
def setE (l : List En) (k : Int) (g : Pg → Pg) : List En := l.map fun e => if e.k == k then { e with pg := g e.pg } else e
/-- what a key is after, and what is after it, ends -/
def loose (l : List En) (k : Int) : List En := l.map fun e => { e with pg := { e.pg with after := if e.k == k then [] else e.pg.after.filter fun f => !(f == k) } }
theorem find_none {l : List En} {k : Int} : find l k = none ↔ k ∉ l.map (·.k) := by
  unfold find
  rw [Option.map_eq_none_iff, List.find?_eq_none]
  constructor
  · intro h hk
    obtain ⟨e, he, hek⟩ := List.mem_map.1 hk
    exact h e he (by simp [hek])
  · intro h e he hek
    exact h (List.mem_map.2 ⟨e, he, by simpa using hek⟩)
/-- bytes laid at a key; room is not asked -/
def lay (c : CM) (k : Int) (b : List UInt8) (dirty : Bool) : CM := match find c.all k with
  | none => ⟨c.room, c.all ++ [⟨k, ⟨b, dirty, c.uses + 1, []⟩⟩], c.uses + 1⟩
  | some _ => ⟨c.room, setE c.all k fun p => { p with b := b, dirty := p.dirty || dirty, used := c.uses + 1 }, c.uses + 1⟩
end Go.Lr
namespace Go.Proofs.YtmcllcepoiakeaaGreat.Ux
open Go.RowKit Go.Mx Go.Mi Go.Lr
theorem set_get {α : Type} (l : List α) (i j : Nat) (x y : α) (hi : l[i]? = some y) : (l.set i x)[j]? = if j = i then some x else l[j]? := by
  rw [List.getElem?_set]
  by_cases e : i = j
  · subst e; rw [if_pos rfl, if_pos rfl]
    have := (List.getElem?_eq_some_iff.1 hi).1
    simp [this]
  · rw [if_neg e, if_neg (Ne.symm e)]
/-- how a page lies in memory -/
structure PR where
  en : En
  fb : Nat
  bv : Value
  av : Value
def plOf (fs : List PR) : PL := fs.map fun f => (f.en.k, f.fb)
abbrev pcells (f : PR) : Array Value := #[f.bv, .bool f.en.pg.dirty, .int .i64 f.en.pg.used, f.av]
abbrev ccells (c : CM) (m : Nat) : Array Value := #[.int .i64 c.room, .map (some m), .int .i64 c.uses]
abbrev cp (p : Nat) : Value := .pointer (some ⟨p, 0, none⟩)
/-- blocks that are not the cache's -/
def Free (p m : Nat) (fs : List PR) (k : Nat) : Prop := k ≠ p ∧ k ≠ m ∧ ∀ (i : Nat) (f : PR), fs[i]? = some f → k ≠ f.fb ∧ f.av.ownBlock ≠ some k
/-- a cache in memory; V: of which keys the list of what they are after is whole -/
structure CK (w : World) (base p m : Nat) (c : CM) (fs : List PR) (V : Nat → Prop) : Prop where
  all : c.all = fs.map (·.en)
  ck : w.heap[p]? = some (.cells (ccells c m) 307 (0, 0))
  hp : base ≤ p
  hm : base ≤ m
  mp : PM Tryz.prog 3 w m (plOf fs)
  fc : ∀ (i : Nat) (f : PR), fs[i]? = some f → w.heap[f.fb]? = some (.cells (pcells f) 387 (0, 0)) ∧ base ≤ f.fb
  ob : ∀ (i : Nat) (f : PR), fs[i]? = some f → OwnB w base 5 f.bv f.en.pg.b
  oa : ∀ (i : Nat) (f : PR), fs[i]? = some f → V i → OwnI w base f.av f.en.pg.after
  af : ∀ (i j : Nat) (f g : PR), fs[i]? = some f → fs[j]? = some g → i ≠ j → f.fb ≠ g.fb
  aa : ∀ (i j : Nat) (f g : PR), fs[i]? = some f → fs[j]? = some g → V i → V j → i ≠ j → ∀ k, f.av.ownBlock = some k → g.av.ownBlock ≠ some k
  sb : ∀ (i : Nat) (f : PR), fs[i]? = some f → ∃ oa n c, f.bv = .slice oa n c
  sa : ∀ (i : Nat) (f : PR), fs[i]? = some f → ∃ oa n c, f.av = .slice oa n c
abbrev All : Nat → Prop := fun _ => True
/-- a step of the cache: what is not its own stays, and stays not its own -/
structure Stp (base p m : Nat) (w : World) (fs : List PR) (w' : World) (fs' : List PR) : Prop where
  bel : Below base w w'
  kept : Kept w w' (Free p m fs)
  free : ∀ k, k < w.heap.size → Free p m fs k → Free p m fs' k
theorem Stp.refl (base p m : Nat) (w : World) (fs : List PR) : Stp base p m w fs w fs := ⟨Below.refl _ _, ⟨Nat.le_refl _, fun _ _ _ => rfl⟩, fun _ _ h => h⟩
theorem Stp.trans {base p m : Nat} {a b c : World} {fs gs hs : List PR} (h : Stp base p m a fs b gs) (k : Stp base p m b gs c hs) : Stp base p m a fs c hs :=
  ⟨h.bel.trans k.bel, ⟨Nat.le_trans h.kept.size k.kept.size, fun i hi hf => (k.kept.block i (Nat.lt_of_lt_of_le hi h.kept.size) (h.free i hi hf)).trans (h.kept.block i hi hf)⟩,
    fun i hi hf => k.free i (Nat.lt_of_lt_of_le hi h.kept.size) (h.free i hi hf)⟩
theorem Stp.of_below {base p m : Nat} {w w' : World} {fs : List PR} (h : Below w.heap.size w w') (hb : base ≤ w.heap.size) : Stp base p m w fs w' fs :=
  ⟨h.mono hb, .of_below h fun _ h _ => h, fun _ _ h => h⟩
section
variable {w w' : World} {base p m : Nat} {c : CM} {fs : List PR} {V : Nat → Prop}
theorem CK.plt (h : CK w base p m c fs V) : p < w.heap.size := blk_lt h.ck
theorem CK.base_le (h : CK w base p m c fs V) : base ≤ w.heap.size := by have := h.hp; have := h.plt; omega
theorem CK.cells (h : CK w base p m c fs V) : w.cell? ⟨p, 0, none⟩ = some (.int .i64 c.room) ∧ w.cell? ⟨p, 1, none⟩ = some (.map (some m)) ∧ w.cell? ⟨p, 2, none⟩ = some (.int .i64 c.uses) ∧ (∀ j, w.frozen? ⟨p, j, none⟩ = false) := by
  have h := h.ck
  refine ⟨?_, ?_, ?_, fun j => ?_⟩
  · simp [World.cell?, h]
  · simp [World.cell?, h]
  · simp [World.cell?, h]
  · simp [World.frozen?, h]
theorem CK.pcells (h : CK w base p m c fs V) {i : Nat} {f : PR} (hi : fs[i]? = some f) : w.cell? ⟨f.fb, 0, none⟩ = some f.bv ∧ w.cell? ⟨f.fb, 1, none⟩ = some (.bool f.en.pg.dirty) ∧ w.cell? ⟨f.fb, 2, none⟩ = some (.int .i64 f.en.pg.used) ∧ w.cell? ⟨f.fb, 3, none⟩ = some f.av ∧ (∀ j, w.frozen? ⟨f.fb, j, none⟩ = false) := by
  have h := (h.fc i f hi).1
  refine ⟨?_, ?_, ?_, ?_, fun j => ?_⟩
  · simp [World.cell?, h]
  · simp [World.cell?, h]
  · simp [World.cell?, h]
  · simp [World.cell?, h]
  · simp [World.frozen?, h]
theorem not_cells {o : Obj} {q : Nat} {w : World} (h : w.heap[q]? = some o) (ho : ∀ c t f, o ≠ .cells c t f) {b : Nat} {c : Array Value} {t : TypeId} {fr : Nat × Nat} (hb : w.heap[b]? = some (.cells c t fr)) : b ≠ q := by
  rintro rfl; rw [h] at hb; exact ho _ _ _ (Option.some.inj hb)
theorem CK.mapObj (h : CK w base p m c fs V) : ∃ o, w.heap[m]? = some o ∧ ∀ c t f, o ≠ .cells c t f := by
  obtain ⟨es, c, hm⟩ := h.mp.isMap
  exact ⟨_, hm, fun _ _ _ e => by cases e⟩
theorem ownI_type {w : World} {base : Nat} {v : Value} {l : List Int} (h : OwnI w base v l) : ∀ k, v.ownBlock = some k → ∃ c f, w.heap[k]? = some (.cells c 3 f) := by
  intro k hk
  rcases h.2 with ⟨rfl, _⟩ | ⟨g, cap, cur, rfl, _, hg, _⟩
  · cases hk
  · cases hk; exact ⟨_, _, hg⟩
theorem ownI_not {w : World} {base : Nat} {v : Value} {l : List Int} (h : OwnI w base v l) {q : Nat} {c : Array Value} {t : TypeId} {f : Nat × Nat} (hq : w.heap[q]? = some (.cells c t f)) (ht : t ≠ 3) : v.ownBlock ≠ some q := ownsRow_not h hq ht
theorem ownI_notMap {w : World} {base : Nat} {v : Value} {l : List Int} (h : OwnI w base v l) {q : Nat} {o : Obj} (hq : w.heap[q]? = some o) (ho : ∀ c t f, o ≠ .cells c t f) : v.ownBlock ≠ some q := by
  intro e
  obtain ⟨c, f, hc⟩ := ownI_type h q e
  rw [hq] at hc; exact ho _ _ _ (Option.some.inj hc)
theorem ownI_kept {w w' : World} {base : Nat} {v : Value} {l : List Int} (h : OwnI w base v l) {N : Nat → Prop} (hk : Kept w w' N) (hv : ∀ k, v.ownBlock = some k → N k) : OwnI w' base v l := ownsRow_kept h hk hv
theorem ownB_type {w : World} {base : Nat} {v : Value} {l : List UInt8} (h : OwnB w base 5 v l) : ∀ k, v.ownBlock = some k → ∃ c f, w.heap[k]? = some (.cells c 5 f) := by
  intro k hk
  rcases h.2 with ⟨rfl, _⟩ | ⟨g, cap, cur, rfl, _, hg, _⟩
  · cases hk
  · cases hk; exact ⟨_, _, hg⟩
/-- a step that leaves all of the cache's blocks as they were -/
theorem CK.keep (h : CK w base p m c fs V) {N : Nat → Prop} (hk : Kept w w' N) (hN : ∀ k, k < w.heap.size → N k) : CK w' base p m c fs V where
  all := h.all
  ck := (hk.block p h.plt (hN _ h.plt)).trans h.ck
  hp := h.hp
  hm := h.hm
  mp := h.mp.block (hk.block m h.mp.lt (hN _ h.mp.lt))
  fc := fun i f hi => ⟨(hk.block _ (blk_lt (h.fc i f hi).1) (hN _ (blk_lt (h.fc i f hi).1))).trans (h.fc i f hi).1, (h.fc i f hi).2⟩
  ob := fun i f hi => (h.ob i f hi).kept hk fun k e => hN k ((h.ob i f hi).lt k e)
  oa := fun i f hi hv => ownI_kept (h.oa i f hi hv) hk fun k e => hN k (OwnV.lt (h.oa i f hi hv) k e)
  af := h.af
  aa := h.aa
  sb := h.sb
  sa := h.sa
theorem CK.below (h : CK w base p m c fs V) (hb : Below w.heap.size w w') : CK w' base p m c fs V :=
  h.keep (N := fun _ => True) (.of_below hb fun _ h _ => h) fun _ _ => trivial
theorem plOf_names (fs : List PR) : (plOf fs).map (·.1) = fs.map (·.en.k) := by unfold plOf; rw [List.map_map]; rfl
/-- a page's place in the map -/
theorem CK.who (h : CK w base p m c fs V) (k : Int) : (Mi.look (plOf fs) k = none ∧ Lr.find c.all k = none) ∨ ∃ (i : Nat) (f : PR), fs[i]? = some f ∧ f.en.k = k ∧ Mi.look (plOf fs) k = some f.fb ∧ Lr.find c.all k = some f.en.pg := by
  rw [h.all]
  have key : ∀ l : List PR, (Mi.look (plOf l) k = none ∧ Lr.find (l.map (·.en)) k = none) ∨ ∃ (i : Nat) (f : PR), l[i]? = some f ∧ f.en.k = k ∧ Mi.look (plOf l) k = some f.fb ∧ Lr.find (l.map (·.en)) k = some f.en.pg := by
    intro l
    induction l with
    | nil => exact .inl ⟨rfl, rfl⟩
    | cons f l ih =>
      by_cases e : f.en.k = k
      · refine .inr ⟨0, f, rfl, e, ?_, ?_⟩
        · unfold plOf; rw [List.map_cons, look_cons, if_pos e]
        · unfold Lr.find; rw [List.map_cons, List.find?_cons]; simp [e]
      · have h1 : Mi.look (plOf (f :: l)) k = Mi.look (plOf l) k := by unfold plOf; rw [List.map_cons, look_cons, if_neg e]
        have h2 : Lr.find ((f :: l).map (·.en)) k = Lr.find (l.map (·.en)) k := by
          unfold Lr.find; rw [List.map_cons, List.find?_cons]
          rw [show (f.en.k == k) = false by simpa using e]
        rw [h1, h2]
        rcases ih with h3 | ⟨i, g, hi, hg⟩
        · exact .inl h3
        · exact .inr ⟨i + 1, g, by simpa using hi, hg⟩
  exact key fs
end
end Go.Proofs.YtmcllcepoiakeaaGreat.Ux
