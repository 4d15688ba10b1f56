import Derived.Test.YtmcllcepoiakeaaGreatMK
import Derived.Maps.RangeWalk
import Derived.StringKeys
set_option linter.unusedSimpArgs false
set_option linter.unusedVariables false
namespace Go.Mp
open Go.RowKit Go.Mx Go.Maps Go.MapKept Go.ChangeMaps
/-- how a pointer in a map reads: as its block's number -/
def ptrR (v : Value) : Option (DataW Unit × List MemPlace) := match v with
  | .pointer none => some (.lit (.int .i64 (-1)), [])
  | .pointer (some ⟨b, 0, none⟩) => some (.lit (.int .i64 (b : Int)), [])
  | _ => none
def pv : Option Nat → Value
  | none => .pointer none
  | some b => .pointer (some ⟨b, 0, none⟩)
def pd : Option Nat → DataW Unit
  | none => .lit (.int .i64 (-1))
  | some b => .lit (.int .i64 (b : Int))
theorem ptrR_pv (o : Option Nat) : ptrR (pv o) = some (pd o, []) := by cases o <;> rfl
theorem pd_inj {a b : Option Nat} (h : pd a = pd b) : a = b := by
  cases a <;> cases b <;> simp [pd] at h ⊢ <;> omega
theorem ptrR_inv {v : Value} {y : DataW Unit × List MemPlace} (h : ptrR v = some y) : ∃ o, v = pv o ∧ y = (pd o, []) := by
  unfold ptrR at h
  split at h
  · cases h; exact ⟨none, rfl, rfl⟩
  · rename_i b; cases h; exact ⟨some b, rfl, rfl⟩
  · cases h
abbrev PL := List (List UInt8 × Nat)
def look (l : PL) (s : List UInt8) : Option Nat := (l.find? (fun p => p.1 == s)).map (·.2)
/-- a store at a key -/
def upd (l : PL) (s : List UInt8) (b : Nat) : PL := if (look l s).isSome then l.map (fun p => if p.1 == s then (s, b) else p) else l ++ [(s, b)]
def del (l : PL) (s : List UInt8) : PL := l.filter fun p => !(p.1 == s)
theorem look_cons (p : List UInt8 × Nat) (l : PL) (s : List UInt8) : look (p :: l) s = if p.1 = s then some p.2 else look l s := by
  unfold look; rw [List.find?_cons]
  by_cases h : p.1 = s
  · simp [h]
  · rw [if_neg h, show (p.1 == s) = false by simpa using h]
theorem look_nil (s : List UInt8) : look [] s = none := rfl
theorem look_none (l : PL) (s : List UInt8) : look l s = none ↔ s ∉ l.map (·.1) := by
  induction l with
  | nil => simp [look_nil]
  | cons p l ih =>
    rw [look_cons]
    by_cases h : p.1 = s
    · rw [if_pos h]; simp [h]
    · rw [if_neg h, ih]; simp; intro _ e; exact h e.symm
theorem look_append (l m : PL) (s : List UInt8) : look (l ++ m) s = (look l s).or (look m s) := by
  induction l with
  | nil => rw [look_nil, List.nil_append]; rfl
  | cons p l ih => rw [List.cons_append, look_cons, look_cons, ih]; split <;> rfl
theorem look_map (l : PL) (s t : List UInt8) (b : Nat) : look (l.map (fun p => if p.1 == s then (s, b) else p)) t = if t = s then (look l s).map (fun _ => b) else look l t := by
  induction l with
  | nil => simp [look_nil]
  | cons p l ih =>
    rw [List.map_cons, look_cons, look_cons, look_cons, ih]
    by_cases h : p.1 = s
    · subst h
      by_cases h2 : t = p.1
      · subst h2; simp
      · simp [h2, Ne.symm h2]
    · by_cases h2 : t = s
      · subst h2; simp [h]
      · simp [h, h2]
theorem look_upd (l : PL) (s t : List UInt8) (b : Nat) : look (upd l s b) t = if t = s then some b else look l t := by
  unfold upd
  cases h : look l s with
  | none =>
    simp only [Option.isSome_none, Bool.false_eq_true, if_false]
    rw [look_append, look_cons, look_nil]
    by_cases h2 : t = s
    · subst h2; rw [h]; simp
    · rw [if_neg h2, if_neg (Ne.symm h2)]; simp
  | some c =>
    simp only [Option.isSome_some, if_true]
    rw [look_map, h]; rfl
theorem look_del (l : PL) (s t : List UInt8) : look (del l s) t = if t = s then none else look l t := by
  unfold del
  induction l with
  | nil => simp [look_nil]
  | cons p l ih =>
    rw [List.filter_cons, look_cons]
    by_cases h : p.1 = s
    · subst h
      simp only [beq_self_eq_true, Bool.not_true, Bool.false_eq_true, if_false]
      rw [ih]
      by_cases h2 : t = p.1
      · simp [h2]
      · simp [h2, Ne.symm h2]
    · rw [if_pos (by simp [h]), look_cons, ih]
      by_cases h2 : t = s
      · subst h2; simp [h]
      · simp [h2]
theorem upd_names (l : PL) (s : List UInt8) (b : Nat) : (upd l s b).map (·.1) = if (look l s).isSome then l.map (·.1) else l.map (·.1) ++ [s] := by
  unfold upd
  split
  · rw [List.map_map]; apply List.map_congr_left; intro p _; simp only [Function.comp]; split
    · rename_i h; simpa using (beq_iff_eq.1 h).symm
    · rfl
  · simp
theorem upd_len (l : PL) (s : List UInt8) (b : Nat) : (upd l s b).length = if (look l s).isSome then l.length else l.length + 1 := by
  have h := congrArg List.length (upd_names l s b)
  rw [List.length_map] at h
  rw [h]; split <;> simp
theorem del_names (l : PL) (s : List UInt8) : (del l s).map (·.1) = (l.map (·.1)).filter fun t => !(t == s) := by
  unfold del; induction l with
  | nil => rfl
  | cons p l ih => simp only [List.filter_cons, List.map_cons]; split <;> simp [ih]
theorem del_len (l : PL) (s : List UInt8) (hn : (l.map (·.1)).Nodup) : (del l s).length + (if (look l s).isSome then 1 else 0) = l.length := by
  induction l with
  | nil => rfl
  | cons p l ih =>
    rw [List.map_cons, List.nodup_cons] at hn
    have := ih hn.2
    unfold del at this ⊢
    rw [List.filter_cons, look_cons]
    by_cases h : p.1 = s
    · subst h
      have h1 := (look_none l p.1).2 hn.1
      rw [h1] at this
      simp at this ⊢; exact this
    · rw [if_pos (by simp [h]), if_neg h]
      simp only [List.length_cons]; omega
section
variable {P : Program} {t k e : TypeId} {w w' : World} {m : Nat} {l : PL}
/-- block m is a map that holds these keys' blocks -/
def PM (P : Program) (k : TypeId) (w : World) (m : Nat) (l : PL) : Prop :=
  ∃ D, w.ownsMap P k ptrR m l.length D ∧ Maps.size D = l.length ∧ (l.map (·.1)).Nodup ∧ (∀ p ∈ l, p.1.length ≤ maxLen) ∧
    (∀ s : List UInt8, Maps.has D (.string s) = (look l s).isSome) ∧ (∀ s : List UInt8, D.atKey (.string s) (pd none) = pd (look l s))
theorem own_tight {n : Nat} {D : DataW Unit} (h : w.ownsMap P k ptrR m n D) : w.ownsMap P k ptrR m (Maps.size D) D := by
  obtain ⟨es, clock, h1, h2, h3, h4⟩ := h
  refine ⟨es, clock, h1, h2, ?_, h4⟩
  have := (⟨es, clock, h1, h2, Nat.le_refl _, h4⟩ : w.ownsMap P k ptrR m es.size D)
  subst h4
  simp [Maps.size, length_sorted]
theorem PM.made (w : World) : PM P k (w.alloc (.map #[] 0)) w.heap.size [] :=
  ⟨_, World.ownsMap_made w P k ptrR, rfl, by simp, by simp, fun s => rfl, fun s => rfl⟩
theorem PM.lt (h : PM P k w m l) : m < w.heap.size := by obtain ⟨D, h1, _⟩ := h; exact h1.lt
theorem PM.nodup (h : PM P k w m l) : (l.map (·.1)).Nodup := by obtain ⟨D, _, _, h1, _⟩ := h; exact h1
theorem PM.isMap (h : PM P k w m l) : ∃ es c, w.heap[m]? = some (.map es c) := by obtain ⟨D, ⟨es, c, h1, _⟩, _⟩ := h; exact ⟨es, c, h1⟩
theorem PM.block (h : PM P k w m l) (hb : w'.heap[m]? = w.heap[m]?) : PM P k w' m l := by
  obtain ⟨D, ⟨es, c, h1, hr⟩, hrest⟩ := h
  exact ⟨D, ⟨es, c, hb.trans h1, hr⟩, hrest⟩
theorem keyS (hk : P.underlying k = some .string) (s : List UInt8) (hs : s.length ≤ maxLen) : keyOf P k (.string ⟨s.toArray⟩) = some (.string s) := by
  have := WideMaps.keyOf_string_mk (P := P) hk (s := ⟨s.toArray⟩) (by simpa [ByteArray.size] using hs)
  simpa using this
theorem keyLit (s : List UInt8) : WideAt.IsKeyLit (.string s) := trivial
theorem PM.look (h : PM P k w m l) (hk : P.underlying k = some .string) (ht : P.underlying t = some (.map k e)) (hz : ∀ w, (zeroValue e).run P w = .ok (.pointer none) w) (s : List UInt8) (hs : s.length ≤ maxLen) :
    (Instr.lookup t (.map (some m)) (.string ⟨s.toArray⟩) false).run P w = .ok (pv (Mp.look l s)) w := by
  obtain ⟨D, h1, h2, h3, h4, h5, h6⟩ := h
  obtain ⟨v, ps, hrun, hv⟩ := h1.lookup (string_keyed hk) ht (hz w) (ptrR_pv none) (keyS hk s hs)
  obtain ⟨o, rfl, he⟩ := ptrR_inv hv
  rw [h6] at he
  rw [hrun, pd_inj (Prod.mk.inj he).1]
theorem PM.len (h : PM P k w m l) (ht : P.underlying t = some (.map k e)) (ty : TypeId) : (Builtin.len_ #[t] ty #[.map (some m)]).run P w = .ok (.int .i64 l.length) w := by
  obtain ⟨D, h1, h2, _⟩ := h
  have := h1.len ht ty
  rwa [h2] at this
theorem PM.upd (h : PM P k w m l) (hk : P.underlying k = some .string) (ht : P.underlying t = some (.map k e)) (s : List UInt8) (hs : s.length ≤ maxLen) (b : Nat) (hl : l.length < maxLen) :
    ∃ w', (Instr.mapUpdate t (.map (some m)) (.string ⟨s.toArray⟩) (.pointer (some ⟨b, 0, none⟩))).run P w = .ok () w' ∧ PM P k w' m (Mp.upd l s b) ∧ w.grownBy w' (some m) ∧ w'.heap.size = w.heap.size ∧ (∀ a, w'.frozen? a = w.frozen? a) := by
  obtain ⟨D, h1, h2, h3, h4, h5, h6⟩ := h
  obtain ⟨w', hrun, h7, h8⟩ := h1.store (string_keyed hk) ht hl (keyS hk s hs) (ptrR_pv (some b))
  have hg : w.grownBy w' (some m) := h8.grown
  have hsz : Maps.size (D.put (.string s) (pd (some b))) = (Mp.upd l s b).length := by
    rw [size_put (h1.tidy (string_keyed hk)), h5, h2, upd_len]
  have h9 := own_tight h7
  rw [hsz] at h9
  refine ⟨w', hrun, ⟨_, h9, hsz, ?_, ?_, fun t => ?_, fun t => ?_⟩, hg, ?_, fun a => h8.frozen a⟩
  · rw [upd_names]
    cases hlk : Mp.look l s with
    | none =>
      simp only [Option.isSome_none, Bool.false_eq_true, if_false]
      rw [List.nodup_append]
      exact ⟨h3, by simp, fun a ha b hb => by simp at hb; subst hb; intro e; subst e; exact (look_none l a).1 hlk ha⟩
    | some c => simpa using h3
  · intro p hp
    have hp2 : p.1 ∈ (Mp.upd l s b).map (·.1) := List.mem_map.2 ⟨p, hp, rfl⟩
    rw [upd_names] at hp2
    split at hp2
    · obtain ⟨q, hq, hq2⟩ := List.mem_map.1 hp2; rw [← hq2]; exact h4 q hq
    · rcases List.mem_append.1 hp2 with hp3 | hp3
      · obtain ⟨q, hq, hq2⟩ := List.mem_map.1 hp3; rw [← hq2]; exact h4 q hq
      · simp at hp3; rw [hp3]; exact hs
  · rw [look_upd]
    by_cases e : t = s
    · subst e; rw [has_put_same h1.isMap (keyLit t)]; simp
    · rw [has_put_other (by simpa using e), h5, if_neg e]
  · rw [look_upd]
    by_cases e : t = s
    · subst e; rw [atKey_put_same h1.isMap (keyLit t)]; simp
    · rw [atKey_put_other (by simpa using e), h6, if_neg e]
  · obtain ⟨es, c, es', c', _, rfl⟩ := h8; simp [setBlock]
theorem PM.del (h : PM P k w m l) (hk : P.underlying k = some .string) (ht : P.underlying t = some (.map k e)) (s : List UInt8) (hs : s.length ≤ maxLen) (ty : TypeId) :
    ∃ w', (Builtin.delete_ #[t, k] ty #[.map (some m), .string ⟨s.toArray⟩]).run P w = .ok (.tuple #[]) w' ∧ PM P k w' m (Mp.del l s) ∧ w.grownBy w' (some m) ∧ w'.heap.size = w.heap.size ∧ (∀ a, w'.frozen? a = w.frozen? a) := by
  obtain ⟨D, h1, h2, h3, h4, h5, h6⟩ := h
  obtain ⟨w', hrun, h7, h8⟩ := h1.drop (string_keyed hk) ht (keyS hk s hs) ty
  have hsz : Maps.size (D.del (.string s)) = (Mp.del l s).length := by
    have a1 := size_del (k := .string s) (h1.tidy (string_keyed hk))
    have a2 := del_len l s h3
    rw [h5, h2] at a1
    omega
  have h9 := own_tight h7
  rw [hsz] at h9
  refine ⟨w', hrun, ⟨_, h9, hsz, ?_, ?_, fun t => ?_, fun t => ?_⟩, h8.grown, ?_, fun a => h8.frozen a⟩
  · rw [del_names]; exact h3.filter _
  · intro p hp; unfold Mp.del at hp; exact h4 p (List.mem_filter.1 hp).1
  · rw [look_del]
    by_cases e : t = s
    · subst e; rw [has_del_same]; simp
    · rw [has_del_other (by simpa using e), h5, if_neg e]
  · rw [look_del]
    by_cases e : t = s
    · subst e; rw [atKey_del_same]; simp
    · rw [atKey_del_other (by simpa using e), h6, if_neg e]
  · obtain ⟨es, c, es', c', _, rfl⟩ := h8; simp [setBlock]
/-- a range over that map under way: which keys are still to come -/
def RG (P : Program) (k : TypeId) (w : World) (m r : Nat) (l : PL) (left : List UInt8 → Bool) (cnt : Nat) : Prop :=
  ∃ (D : DataW Unit) (lf : Lit → Bool), w.ranges P k ptrR m r l.length D lf cnt ∧ Maps.size D = l.length ∧ (l.map (·.1)).Nodup ∧ (∀ p ∈ l, p.1.length ≤ maxLen) ∧
    (∀ s : List UInt8, Maps.has D (.string s) = (look l s).isSome) ∧ (∀ s : List UInt8, D.atKey (.string s) (pd none) = pd (look l s)) ∧ (∀ s : List UInt8, lf (.string s) = left s)
theorem RG.pm {r cnt : Nat} {left : List UInt8 → Bool} (h : RG P k w m r l left cnt) : PM P k w m l := by
  obtain ⟨D, lf, h1, h2, h3, h4, h5, h6, _⟩ := h
  exact ⟨D, h1.owns, h2, h3, h4, h5, h6⟩
theorem RG.left_eq {r cnt : Nat} {left : List UInt8 → Bool} (h : RG P k w m r l left cnt) : w.rangeLeft m r = cnt := by obtain ⟨D, lf, h1, _⟩ := h; exact h1.left_eq
theorem RG.lt {r cnt : Nat} {left : List UInt8 → Bool} (h : RG P k w m r l left cnt) : r < w.heap.size := by obtain ⟨D, lf, h1, _⟩ := h; exact h1.lt
theorem RG.iter {r cnt : Nat} {left : List UInt8 → Bool} (h : RG P k w m r l left cnt) : ∃ a b c, w.heap[r]? = some (.mapIter (some m) a b c) := by
  obtain ⟨D, lf, ⟨_, _, a, b, c, _, _, _, _, h, _⟩, _⟩ := h; exact ⟨a, b, c, h⟩
theorem RG.blocks {r cnt : Nat} {left : List UInt8 → Bool} (h : RG P k w m r l left cnt) (h1 : w'.heap[m]? = w.heap[m]?) (h2 : w'.heap[r]? = w.heap[r]?) : RG P k w' m r l left cnt := by
  obtain ⟨D, lf, ⟨es, clock, since, seen, c0, g1, g2, g3, g4, g5, g6⟩, hrest⟩ := h
  exact ⟨D, lf, ⟨es, clock, since, seen, c0, h1.trans g1, g2, g3, g4, h2.trans g5, g6⟩, hrest⟩
end
section
variable {P : Program} (w : World) {ops : Array Oper} {rest : List Oper} {o : Oper} {a : Act} {Q : Exit → Act → World → Prop} {t k e : TypeId} {m : Nat} {l : PL}
theorem range_pm (hg : o.guard = none) (x : Operand) (hop : o.op = Op.range t x) (hk : P.underlying k = some .string) (ht : P.underlying t = some (.map k e)) (hm : a.eval x = .map (some m)) (h : PM P k w m l)
    (hK : ∀ w', RG P k w' m w.heap.size l (fun s => (look l s).isSome) l.length → w.grownBy w' none → w'.heap.size = w.heap.size + 1 → wpList P ops Q rest (a.put o.dst (.pointer (some ⟨w.heap.size, 0, none⟩))) w') :
    wpList P ops Q (o :: rest) a w := by
  obtain ⟨D, h1, h2, h3, h4, h5, h6⟩ := h
  refine wpList_range_own w hg x t hop k e (string_keyed hk) ht ptrR m _ D hm h1 ?_
  intro w' g1 g2 g3
  rw [h2] at g1
  exact hK w' ⟨D, _, g1, h2, h3, h4, h5, h6, fun s => h5 s⟩ g2 g3
theorem next_pm (hg : o.guard = none) (it : Operand) (hop : o.op = Op.next it false) (hk : P.underlying k = some .string) (r cnt : Nat) (left : List UInt8 → Bool) (hit : a.eval it = .pointer (some ⟨r, 0, none⟩)) (h : RG P k w m r l left cnt)
    (hDone : (∀ s, left s = false) → wpList P ops Q rest (a.put o.dst (.tuple #[.bool false])) w)
    (hMore : ∀ (s : List UInt8) (b : Nat) (w' : World) (cnt' : Nat), look l s = some b → left s = true → RG P k w' m r l (fun t => left t && !(t == s)) cnt' → cnt' < cnt → w.grownBy w' (some r) → w'.heap.size = w.heap.size →
      (Instr.entry (.pointer (some ⟨r, 0, none⟩))).run P w' = .ok (.tuple #[.string ⟨s.toArray⟩, .pointer (some ⟨b, 0, none⟩)]) w' → wpList P ops Q rest (a.put o.dst (.tuple #[.bool true, .string ⟨s.toArray⟩, .pointer (some ⟨b, 0, none⟩)])) w') :
    wpList P ops Q (o :: rest) a w := by
  obtain ⟨D, lf, h1, h2, h3, h4, h5, h6, h7⟩ := h
  refine wpList_next_ranges (α := List UInt8) (β := Option Nat) w hg it hop k (string_keyed hk) ptrR (fun s => .string ⟨s.toArray⟩) pv ?_ ?_ m r _ D lf cnt hit h1 ?_ ?_
  · intro key kl hkey
    obtain ⟨s, rfl, _, _⟩ := WideMaps.string_of_keyOf hk hkey
    exact ⟨s.data.toList, by simp⟩
  · intro v y hv
    obtain ⟨o, rfl, _⟩ := ptrR_inv hv
    exact ⟨o, rfl⟩
  · intro _ hl
    exact hDone fun s => by rw [← h7]; exact hl _
  · intro s o' kl y w' cnt' hkey hl hy hat hrg hlt hgr hsz hen
    obtain ⟨s', hs', rfl, hsl⟩ := WideMaps.string_of_keyOf hk hkey
    cases hs'
    have e9 : (ByteArray.mk s.toArray).data.toList = s := rfl
    rw [e9] at hl hrg
    have hat : ∀ zd, D.atKey (.string s) zd = y.1 := hat
    obtain ⟨o2, ho2, hy2⟩ := ptrR_inv hy
    have hlk : look l s = o2 := by
      apply pd_inj
      rw [← h6 s]
      have := hat (pd none)
      rw [hy2] at this
      exact this
    have hsome : (look l s).isSome = true := by
      rw [← h5 s]
      have hz : ∀ z, D.atKey (.string s) z = y.1 := hat
      exact has_true_of_atKey hz
    have heq : o' = look l s := by
      rw [hlk]
      cases o' <;> cases o2 <;> simp [pv] at ho2 ⊢
      exact ho2
    obtain ⟨b, hb⟩ := Option.isSome_iff_exists.1 hsome
    rw [heq, hb] at hen ⊢
    refine hMore s b w' cnt' hb (by rw [← h7]; exact hl) ⟨D, _, hrg, h2, h3, h4, h5, h6, fun t => ?_⟩ hlt hgr hsz hen
    show (lf (.string t) && !(Lit.string t).sameKey (.string s)) = _
    rw [h7]
    by_cases e : t = s
    · subst e; rw [WideAt.sameKey_self (keyLit t)]; simp
    · rw [sameKey_ne (by simpa using e)]; simp [e]
end
end Go.Mp
namespace Go.Dk
/-- a sector -/
abbrev Sec := List UInt8
def zs : Sec := List.replicate 16 0
/-- a file: what stands in it, and what of it is kept -/
structure FM where
  name : List UInt8
  now : List Sec
  kept : List Sec
instance : Inhabited FM := ⟨⟨[], [], []⟩⟩
/-- a sector that was written, and not kept -/
structure RM where
  name : List UInt8
  at_ : Nat
  b : Sec
instance : Inhabited RM := ⟨⟨[], 0, []⟩⟩
structure DM where
  room : Nat
  files : List FM
  log : List RM
  left : Nat
  off : Bool
instance : Inhabited DM := ⟨⟨0, [], [], 0, false⟩⟩
def SecsOk (l : List Sec) : Prop := l.length ≤ 65536 ∧ ∀ s ∈ l, s.length = 16
/-- what any disk has -/
structure Ok (d : DM) : Prop where
  room : 1 ≤ d.room ∧ d.room ≤ 1048576
  names : (d.files.map (·.name)).Nodup
  flen : d.files.length ≤ 32
  nlen : ∀ f ∈ d.files, 1 ≤ f.name.length ∧ f.name.length ≤ 16
  now : ∀ f ∈ d.files, SecsOk f.now
  kept : ∀ f ∈ d.files, SecsOk f.kept
  log : ∀ r ∈ d.log, r.at_ < 65536 ∧ r.b.length = 16 ∧ r.name ∈ d.files.map (·.name)
  llen : d.log.length ≤ 1000000
  left : d.left ≤ 9223372036854775807
def find (fs : List FM) (nm : List UInt8) : Option FM := fs.find? fun f => f.name == nm
def isIn (fs : List FM) (nm : List UInt8) : Bool := fs.any fun f => f.name == nm
/-- files of which one is another one now -/
def setF (fs : List FM) (nm : List UInt8) (g : FM → FM) : List FM := fs.map fun f => if f.name == nm then g f else f
def forget (l : List RM) (nm : List UInt8) (k : Nat) : List RM := l.filter fun r => !(r.name == nm && decide (k ≤ r.at_))
/-- enough noughts for so many sectors -/
def grow (l : List Sec) (n : Nat) : List Sec := l ++ List.replicate (n - l.length) zs
def put (l : List Sec) (k : Nat) (s : Sec) : List Sec := (grow l (k + 1)).set k s
def used (fs : List FM) : Nat := (fs.map fun f => f.now.length).sum
theorem grow_len (l : List Sec) (n : Nat) : (grow l n).length = max l.length n := by simp [grow]; omega
theorem put_len (l : List Sec) (k : Nat) (s : Sec) : (put l k s).length = max l.length (k + 1) := by simp [put, grow_len]
theorem grow_self (l : List Sec) (n : Nat) (h : n ≤ l.length) : grow l n = l := by simp [grow, Nat.sub_eq_zero_of_le h]
theorem grow_snoc (l : List Sec) (n m : Nat) (h1 : l.length ≤ m) (h2 : m < n) : grow l m ++ [zs] = grow l (m + 1) := by
  unfold grow
  rw [List.append_assoc, ← List.replicate_succ', show m + 1 - l.length = m - l.length + 1 by omega]
theorem grow_ok {l : List Sec} (h : SecsOk l) (n : Nat) (hn : n ≤ 65536) : SecsOk (grow l n) := by
  refine ⟨by rw [grow_len]; have := h.1; omega, fun s hs => ?_⟩
  rcases List.mem_append.1 hs with hs | hs
  · exact h.2 s hs
  · rw [List.eq_of_mem_replicate hs]; rfl
theorem put_ok {l : List Sec} (h : SecsOk l) (k : Nat) (hk : k < 65536) (s : Sec) (hs : s.length = 16) : SecsOk (put l k s) := by
  have hg := grow_ok h (k + 1) (by omega)
  refine ⟨by unfold put; rw [List.length_set]; exact hg.1, fun t ht => ?_⟩
  rcases List.mem_or_eq_of_mem_set ht with h1 | h1
  · exact hg.2 t h1
  · rw [h1]; exact hs
/-- a record of a crash on the files -/
def play (fs : List FM) (r : RM) : List FM := setF fs r.name fun f => { f with now := put f.now r.at_ r.b }
def picked (picks : List Bool) (l : List RM) : List RM := (List.range l.length).filterMap fun i => if picks.getD i false then l[i]? else none
def crash (d : DM) (picks : List Bool) : DM :=
  let fs := (picked picks d.log).foldl play (d.files.map fun f => { f with now := f.kept })
  { d with files := fs.map fun f => { f with kept := f.now }, log := [], left := 0, off := false }
/-- one sector written -/
def one (d : DM) (nm : List UInt8) (k : Nat) (s : Sec) : DM × Bool :=
  if d.left = 1 then ({ d with left := 0, off := true }, false)
  else ({ d with left := d.left - 1, files := setF d.files nm fun f => { f with now := put f.now k s }, log := d.log ++ [⟨nm, k, s⟩] }, true)
/-- sectors written, one behind the other -/
def many (d : DM) (nm : List UInt8) (k : Nat) : List Sec → DM × Bool
  | [] => (d, true)
  | s :: l => match one d nm k s with
    | (d', false) => (d', false)
    | (d', true) => many d' nm (k + 1) l
theorem setF_names (fs : List FM) (nm : List UInt8) (g : FM → FM) (h : ∀ f, (g f).name = f.name) : (setF fs nm g).map (·.name) = fs.map (·.name) := by
  unfold setF; rw [List.map_map]; apply List.map_congr_left; intro f _; simp only [Function.comp]; split
  · exact h f
  · rfl
theorem setF_len (fs : List FM) (nm : List UInt8) (g : FM → FM) : (setF fs nm g).length = fs.length := by simp [setF]
theorem setF_mem {fs : List FM} {nm : List UInt8} {g : FM → FM} {f : FM} (h : f ∈ setF fs nm g) : ∃ f0 ∈ fs, f = f0 ∨ f = g f0 := by
  unfold setF at h
  obtain ⟨f0, h0, rfl⟩ := List.mem_map.1 h
  refine ⟨f0, h0, ?_⟩
  split
  · exact .inr rfl
  · exact .inl rfl
end Go.Dk
