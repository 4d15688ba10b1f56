import Derived.Test.YtmcllcepoiakeaaGreatMK
import Derived.Maps.RangeWalk
import Derived.Maps.OwnSet
import Derived.StringKeys
import Derived.Test.YtmcllcepoiakeaaGreatTB
set_option linter.unusedSimpArgs false
set_option linter.unusedVariables false
namespace Go.Mx
open Go.RowKit Go.Maps Go.MapKept Go.ChangeMaps
/-- a plain value as a datum -/
def enc : Value → Option (DataW Unit)
  | .pointer none => some (.agg [.lit (.int .i64 0)])
  | .pointer (some ⟨b, o, none⟩) => some (.agg [.lit (.int .i64 1), .lit (.int .i64 b), .lit (.int .i64 o)])
  | .slice none n c => some (.agg [.lit (.int .i64 2), .lit (.int .i64 n), .lit (.int .i64 c)])
  | .slice (some ⟨b, o, none⟩) n c => some (.agg [.lit (.int .i64 3), .lit (.int .i64 b), .lit (.int .i64 o), .lit (.int .i64 n), .lit (.int .i64 c)])
  | .map none => some (.agg [.lit (.int .i64 4)])
  | .map (some b) => some (.agg [.lit (.int .i64 5), .lit (.int .i64 b)])
  | .bool b => some (.lit (.bool b))
  | .int k n => some (.lit (.int k n))
  | .string s => some (.lit (.string s.data.toList))
  | .func (.func n) ⟨[.pointer (some ⟨b, 0, none⟩)]⟩ ⟨[]⟩ => some (.agg [.lit (.int .i64 6), .lit (.int .i64 n), .lit (.int .i64 b)])
  | .nilFunc => some (.agg [.lit (.int .i64 7)])
  | _ => none
theorem enc_inj {a b : Value} {d : DataW Unit} (ha : enc a = some d) (hb : enc b = some d) : a = b := by
  unfold enc at ha hb
  split at ha <;> split at hb <;> first
    | (cases ha; done)
    | (cases hb; done)
    | rfl
    | (rw [← hb] at ha; simp only [Option.some.injEq, DataW.agg.injEq, DataW.lit.injEq, Lit.int.injEq, Lit.bool.injEq, Lit.string.injEq, List.cons.injEq, true_and, and_true, Int.ofNat_inj] at ha <;> first | rfl | (rw [ha]; done) | (obtain ⟨rfl, rfl⟩ := ha; rfl) | (obtain ⟨rfl, rfl, rfl, rfl⟩ := ha; rfl) | (rename_i s _ t; cases s; cases t; simp only at ha; rw [Array.toList_inj.1 ha]; done) | (simp at ha; done))
def vR (v : Value) : Option (DataW Unit × List MemPlace) := (enc v).map fun d => (d, [])
theorem vR_inv {v : Value} {y : DataW Unit × List MemPlace} (h : vR v = some y) : enc v = some y.1 := by
  unfold vR at h
  cases he : enc v with
  | none => rw [he] at h; cases h
  | some d => rw [he] at h; cases h; rfl
theorem vR_of {v : Value} {d : DataW Unit} (h : enc v = some d) : vR v = some (d, []) := by unfold vR; rw [h]; rfl
/-- how keys lie -/
structure Emb (κ : Type) where
  val : κ → Value
  lit : κ → Lit
  ok : κ → Prop
structure KOK {κ : Type} (P : Program) (k : TypeId) (E : Emb κ) : Prop where
  keyed : Keyed P k
  key : ∀ s, E.ok s → keyOf P k (E.val s) = some (E.lit s)
  inv : ∀ v l, keyOf P k v = some l → ∃ s, v = E.val s ∧ l = E.lit s ∧ E.ok s
  inj : ∀ a b, E.lit a = E.lit b → a = b
  isLit : ∀ s, WideAt.IsKeyLit (E.lit s)
def EI : Emb Int := ⟨fun n => .int .i64 n, fun n => .int .i64 n, fun n => (Lit.int .i64 n).wf = true⟩
def ES : Emb (List UInt8) := ⟨fun s => .string ⟨s.toArray⟩, fun s => .string s, fun s => s.length ≤ maxLen⟩
theorem KOK.int {P : Program} {k : TypeId} (hk : P.underlying k = some (.int .i64)) : KOK P k EI where
  keyed := int_keyed hk
  key := fun s hs => keyOf_int_mk hk hs
  inv := fun v l h => by obtain ⟨x, rfl, rfl, hw⟩ := Maps.keyOf_int_inv hk h; exact ⟨x, rfl, rfl, hw⟩
  inj := fun a b h => by simpa [EI] using h
  isLit := fun s => trivial
theorem KOK.str {P : Program} {k : TypeId} (hk : P.underlying k = some .string) : KOK P k ES where
  keyed := string_keyed hk
  key := fun s hs => by
    have hs : s.length ≤ maxLen := hs
    have := WideMaps.keyOf_string_mk (P := P) hk (s := ⟨s.toArray⟩) (by simpa [ByteArray.size] using hs)
    simpa [ES] using this
  inv := fun v l h => by
    cases v <;> simp [keyOf, hk, mapKey] at h
    rename_i s
    obtain ⟨h1, rfl⟩ := h
    refine ⟨s.data.toList, by simp [ES], by simp [ES], ?_⟩
    show s.data.toList.length ≤ maxLen
    rw [Array.length_toList]; exact h1
  inj := fun a b h => by simpa [ES] using h
  isLit := fun s => trivial
section
variable {κ : Type} [DecidableEq κ]
abbrev ML (κ : Type) := List (κ × Value)
def look (l : ML κ) (s : κ) : Option Value := (l.find? (fun p => decide (p.1 = s))).map (·.2)
/-- a store at a key -/
def upd (l : ML κ) (s : κ) (b : Value) : ML κ := if (look l s).isSome then l.map (fun p => if p.1 = s then (s, b) else p) else l ++ [(s, b)]
def del (l : ML κ) (s : κ) : ML κ := l.filter fun p => !decide (p.1 = s)
theorem look_cons (p : κ × Value) (l : ML κ) (s : κ) : look (p :: l) s = if p.1 = s then some p.2 else look l s := by
  unfold look; rw [List.find?_cons]
  by_cases h : p.1 = s
  · simp [h]
  · rw [if_neg h, show decide (p.1 = s) = false by simpa using h]
theorem look_nil (s : κ) : look [] s = none := rfl
theorem look_none (l : ML κ) (s : κ) : look l s = none ↔ s ∉ l.map (·.1) := by
  induction l with
  | nil => simp [look_nil]
  | cons p l ih =>
    rw [look_cons]
    by_cases h : p.1 = s
    · rw [if_pos h]; simp [h]
    · rw [if_neg h, ih]; simp; intro _ e; exact h e.symm
theorem look_append (l m : ML κ) (s : κ) : look (l ++ m) s = (look l s).or (look m s) := by
  induction l with
  | nil => rw [look_nil, List.nil_append]; rfl
  | cons p l ih => rw [List.cons_append, look_cons, look_cons, ih]; split <;> rfl
theorem look_map (l : ML κ) (s t : κ) (b : Value) : look (l.map (fun p => if p.1 = s then (s, b) else p)) t = if t = s then (look l s).map (fun _ => b) else look l t := by
  induction l with
  | nil => simp [look_nil]
  | cons p l ih =>
    rw [List.map_cons, look_cons, look_cons, look_cons, ih]
    by_cases h : p.1 = s
    · subst h
      by_cases h2 : t = p.1
      · subst h2; simp
      · simp [h2, Ne.symm h2]
    · by_cases h2 : t = s
      · subst h2; simp [h]
      · simp [h, h2]
theorem look_upd (l : ML κ) (s t : κ) (b : Value) : look (upd l s b) t = if t = s then some b else look l t := by
  unfold upd
  cases h : look l s with
  | none =>
    simp only [Option.isSome_none, Bool.false_eq_true, if_false]
    rw [look_append, look_cons, look_nil]
    by_cases h2 : t = s
    · subst h2; rw [h]; simp
    · rw [if_neg h2, if_neg (Ne.symm h2)]; simp
  | some c =>
    simp only [Option.isSome_some, if_true]
    rw [look_map, h]; rfl
theorem look_del (l : ML κ) (s t : κ) : look (del l s) t = if t = s then none else look l t := by
  unfold del
  induction l with
  | nil => simp [look_nil]
  | cons p l ih =>
    rw [List.filter_cons, look_cons]
    by_cases h : p.1 = s
    · subst h
      simp only [decide_true, Bool.not_true, Bool.false_eq_true, if_false]
      rw [ih]
      by_cases h2 : t = p.1
      · simp [h2]
      · simp [h2, Ne.symm h2]
    · rw [if_pos (by simp [h]), look_cons, ih]
      by_cases h2 : t = s
      · subst h2; simp [h]
      · simp [h2]
theorem upd_names (l : ML κ) (s : κ) (b : Value) : (upd l s b).map (·.1) = if (look l s).isSome then l.map (·.1) else l.map (·.1) ++ [s] := by
  unfold upd
  split
  · rw [List.map_map]; apply List.map_congr_left; intro p _; simp only [Function.comp]; split
    · rename_i h; exact h.symm
    · rfl
  · simp
theorem upd_len (l : ML κ) (s : κ) (b : Value) : (upd l s b).length = if (look l s).isSome then l.length else l.length + 1 := by
  have h := congrArg List.length (upd_names l s b)
  rw [List.length_map] at h
  rw [h]; split <;> simp
theorem mem_upd {l : ML κ} {s : κ} {b : Value} {p : κ × Value} (h : p ∈ upd l s b) : p = (s, b) ∨ (p ∈ l ∧ p.1 ≠ s) := by
  unfold upd at h
  split at h
  · obtain ⟨q, hq, rfl⟩ := List.mem_map.1 h
    by_cases e : q.1 = s
    · rw [if_pos e]; exact .inl rfl
    · rw [if_neg e]; exact .inr ⟨hq, e⟩
  · rename_i hn
    rcases List.mem_append.1 h with h1 | h1
    · refine .inr ⟨h1, fun e => hn ?_⟩
      have := mt (look_none l s).1 (fun h => h (List.mem_map.2 ⟨p, h1, e⟩))
      cases hl : look l s with
      | none => exact absurd hl this
      | some _ => rfl
    · simp at h1; exact .inl h1
theorem mem_del {l : ML κ} {s : κ} {p : κ × Value} : p ∈ del l s ↔ p ∈ l ∧ p.1 ≠ s := by
  unfold del; rw [List.mem_filter]; simp
theorem del_names (l : ML κ) (s : κ) : (del l s).map (·.1) = (l.map (·.1)).filter fun t => !decide (t = s) := by
  unfold del; induction l with
  | nil => rfl
  | cons p l ih => simp only [List.filter_cons, List.map_cons]; split <;> simp [ih]
theorem del_len (l : ML κ) (s : κ) (hn : (l.map (·.1)).Nodup) : (del l s).length + (if (look l s).isSome then 1 else 0) = l.length := by
  induction l with
  | nil => rfl
  | cons p l ih =>
    rw [List.map_cons, List.nodup_cons] at hn
    have := ih hn.2
    unfold del at this ⊢
    rw [List.filter_cons, look_cons]
    by_cases h : p.1 = s
    · subst h
      have h1 := (look_none l p.1).2 hn.1
      rw [h1] at this
      simp at this ⊢; exact this
    · rw [if_pos (by simp [h]), if_neg h]
      simp only [List.length_cons]; omega
theorem look_mem {l : ML κ} {s : κ} {v : Value} (h : look l s = some v) : (s, v) ∈ l := by
  induction l with
  | nil => cases h
  | cons p l ih =>
    rw [look_cons] at h
    by_cases e : p.1 = s
    · rw [if_pos e] at h; cases h; rw [← e]; exact List.mem_cons_self
    · rw [if_neg e] at h; exact List.mem_cons_of_mem _ (ih h)
theorem look_of_mem {l : ML κ} (hn : (l.map (·.1)).Nodup) {s : κ} {v : Value} (h : (s, v) ∈ l) : look l s = some v := by
  induction l with
  | nil => cases h
  | cons p l ih =>
    rw [List.map_cons, List.nodup_cons] at hn
    rw [look_cons]
    rcases List.mem_cons.1 h with e | e
    · rw [← e]; simp
    · rw [if_neg (fun e2 => hn.1 (List.mem_map.2 ⟨_, e, e2.symm⟩))]; exact ih hn.2 e
theorem look_perm {l l' : ML κ} (hp : l.Perm l') (hn : (l.map (·.1)).Nodup) (s : κ) : look l s = look l' s := by
  have hn' : (l'.map (·.1)).Nodup := (hp.map (·.1)).nodup_iff.1 hn
  cases h1 : look l s with
  | some v => exact (look_of_mem hn' (hp.mem_iff.1 (look_mem h1))).symm
  | none =>
    cases h2 : look l' s with
    | none => rfl
    | some v => rw [look_of_mem hn (hp.mem_iff.2 (look_mem h2))] at h1; cases h1
variable {P : Program} {t k e : TypeId} {w w' : World} {m : Nat} {l : ML κ} {E : Emb κ} {z : Value}
/-- block m is a map that holds these keys' values; z: the element's zero -/
def GM (E : Emb κ) (P : Program) (k : TypeId) (w : World) (m : Nat) (l : ML κ) : Prop :=
  ∃ D, w.ownsMap P k vR m l.length D ∧ Maps.size D = l.length ∧ (l.map (·.1)).Nodup ∧ (∀ p ∈ l, E.ok p.1 ∧ ∃ d, enc p.2 = some d) ∧
    (∀ s : κ, Maps.has D (E.lit s) = (look l s).isSome) ∧ (∀ (s : κ) (v : Value), look l s = some v → ∀ zd, some (D.atKey (E.lit s) zd) = enc v)
theorem own_tight {n : Nat} {D : DataW Unit} {R : Value → Option (DataW Unit × List MemPlace)} (h : w.ownsMap P k R m n D) : w.ownsMap P k R m (Maps.size D) D := by
  obtain ⟨es, clock, h1, h2, h3, h4⟩ := h
  refine ⟨es, clock, h1, h2, ?_, h4⟩
  subst h4
  simp [Maps.size, length_sorted]
theorem GM.made (E : Emb κ) (P : Program) (k : TypeId) (w : World) : GM E P k (w.alloc (.map #[] 0)) w.heap.size [] :=
  ⟨_, World.ownsMap_made w P k vR, rfl, by simp, by simp, fun s => rfl, fun s v h => by cases h⟩
theorem GM.lt (h : GM E P k w m l) : m < w.heap.size := by obtain ⟨D, h1, _⟩ := h; exact h1.lt
theorem GM.nodup (h : GM E P k w m l) : (l.map (·.1)).Nodup := by obtain ⟨D, _, _, h1, _⟩ := h; exact h1
theorem GM.oks (h : GM E P k w m l) : ∀ p ∈ l, E.ok p.1 := by obtain ⟨D, _, _, _, h1, _⟩ := h; exact fun p hp => (h1 p hp).1
theorem GM.isMap (h : GM E P k w m l) : ∃ es c, w.heap[m]? = some (.map es c) := by obtain ⟨D, ⟨es, c, h1, _⟩, _⟩ := h; exact ⟨es, c, h1⟩
theorem GM.block (h : GM E P k w m l) (hb : w'.heap[m]? = w.heap[m]?) : GM E P k w' m l := by
  obtain ⟨D, ⟨es, c, h1, hr⟩, hrest⟩ := h
  exact ⟨D, ⟨es, c, hb.trans h1, hr⟩, hrest⟩
theorem GM.perm (h : GM E P k w m l) {l' : ML κ} (hp : l.Perm l') : GM E P k w m l' := by
  obtain ⟨D, h1, h2, h3, h4, h5, h6⟩ := h
  refine ⟨D, by rw [← hp.length_eq]; exact h1, by rw [← hp.length_eq]; exact h2, (hp.map (·.1)).nodup_iff.1 h3, fun p hp' => h4 p (hp.mem_iff.2 hp'), fun s => ?_, fun s v hv => ?_⟩
  · rw [← look_perm hp h3]; exact h5 s
  · rw [← look_perm hp h3] at hv; exact h6 s v hv
theorem GM.look (h : GM E P k w m l) (K : KOK P k E) (ht : P.underlying t = some (.map k e)) (hz : ∀ w, (zeroValue e).run P w = .ok z w) {zd : DataW Unit} (hze : enc z = some zd) (s : κ) (hs : E.ok s) :
    (Instr.lookup t (.map (some m)) (E.val s) false).run P w = .ok ((Mx.look l s).getD z) w := by
  obtain ⟨D, h1, h2, h3, h4, h5, h6⟩ := h
  obtain ⟨v, ps, hrun, hv⟩ := h1.lookup K.keyed ht (hz w) (vR_of hze) (K.key s hs)
  rw [hrun]
  have hv := vR_inv hv
  cases hl : Mx.look l s with
  | none =>
    have := h5 s
    rw [hl] at this
    rw [atKey_of_not_has this] at hv
    rw [enc_inj hv hze]; rfl
  | some u =>
    have := h6 s u hl zd
    rw [enc_inj hv this.symm]; rfl
theorem GM.lookOk (h : GM E P k w m l) (K : KOK P k E) (ht : P.underlying t = some (.map k e)) (hz : ∀ w, (zeroValue e).run P w = .ok z w) {zd : DataW Unit} (hze : enc z = some zd) (s : κ) (hs : E.ok s) :
    (Instr.lookup t (.map (some m)) (E.val s) true).run P w = .ok (.tuple #[(Mx.look l s).getD z, .bool (Mx.look l s).isSome]) w := by
  obtain ⟨D, h1, h2, h3, h4, h5, h6⟩ := h
  obtain ⟨v, ps, hrun, hv⟩ := h1.look_ok K.keyed ht (hz w) (vR_of hze) (K.key s hs)
  rw [hrun, h5]
  have hv := vR_inv hv
  cases hl : Mx.look l s with
  | none =>
    have := h5 s
    rw [hl] at this
    rw [atKey_of_not_has this] at hv
    rw [enc_inj hv hze]; rfl
  | some u =>
    have := h6 s u hl zd
    rw [enc_inj hv this.symm]; rfl
theorem GM.len (h : GM E P k w m l) (ht : P.underlying t = some (.map k e)) (ty : TypeId) : (Builtin.len_ #[t] ty #[.map (some m)]).run P w = .ok (.int .i64 l.length) w := by
  obtain ⟨D, h1, h2, _⟩ := h
  have := h1.len ht ty
  rwa [h2] at this
theorem GM.upd (h : GM E P k w m l) (K : KOK P k E) (ht : P.underlying t = some (.map k e)) (s : κ) (hs : E.ok s) (b : Value) {bd : DataW Unit} (hbd : enc b = some bd) (hl : l.length < maxLen) :
    ∃ w', (Instr.mapUpdate t (.map (some m)) (E.val s) b).run P w = .ok () w' ∧ GM E P k w' m (Mx.upd l s b) ∧ w.grownBy w' (some m) ∧ w'.heap.size = w.heap.size ∧ (∀ a, w'.frozen? a = w.frozen? a) := by
  obtain ⟨D, h1, h2, h3, h4, h5, h6⟩ := h
  obtain ⟨w', hrun, h7, h8⟩ := h1.store K.keyed ht hl (K.key s hs) (vR_of hbd)
  have hg : w.grownBy w' (some m) := h8.grown
  have hsz : Maps.size (D.put (E.lit s) bd) = (Mx.upd l s b).length := by
    rw [size_put (h1.tidy K.keyed), h5, h2, upd_len]
  have h9 := own_tight h7
  rw [hsz] at h9
  refine ⟨w', hrun, ⟨_, h9, hsz, ?_, ?_, fun t => ?_, fun t v hv => ?_⟩, hg, ?_, fun a => h8.frozen a⟩
  · rw [upd_names]
    cases hlk : Mx.look l s with
    | none =>
      simp only [Option.isSome_none, Bool.false_eq_true, if_false]
      rw [List.nodup_append]
      exact ⟨h3, by simp, fun a ha b hb => by simp at hb; subst hb; intro e; subst e; exact (look_none l a).1 hlk ha⟩
    | some c => simpa using h3
  · intro p hp
    rcases mem_upd hp with rfl | ⟨hp1, _⟩
    · exact ⟨hs, _, hbd⟩
    · exact h4 p hp1
  · rw [look_upd]
    by_cases e : t = s
    · subst e; rw [has_put_same h1.isMap (K.isLit t)]; simp
    · rw [has_put_other (fun e2 => e (K.inj _ _ e2)), h5, if_neg e]
  · intro zd
    rw [look_upd] at hv
    by_cases e : t = s
    · subst e; rw [atKey_put_same h1.isMap (K.isLit t)]; rw [if_pos rfl] at hv; cases hv; exact hbd.symm
    · rw [atKey_put_other (fun e2 => e (K.inj _ _ e2))]; rw [if_neg e] at hv; exact h6 t v hv zd
  · obtain ⟨es, c, es', c', _, rfl⟩ := h8; simp [setBlock]
theorem GM.del (h : GM E P k w m l) (K : KOK P k E) (ht : P.underlying t = some (.map k e)) (s : κ) (hs : E.ok s) (ty : TypeId) :
    ∃ w', (Builtin.delete_ #[t, k] ty #[.map (some m), E.val s]).run P w = .ok (.tuple #[]) w' ∧ GM E P k w' m (Mx.del l s) ∧ w.grownBy w' (some m) ∧ w'.heap.size = w.heap.size ∧ (∀ a, w'.frozen? a = w.frozen? a) := by
  obtain ⟨D, h1, h2, h3, h4, h5, h6⟩ := h
  obtain ⟨w', hrun, h7, h8⟩ := h1.drop K.keyed ht (K.key s hs) ty
  have hsz : Maps.size (D.del (E.lit s)) = (Mx.del l s).length := by
    have a1 := size_del (k := E.lit s) (h1.tidy K.keyed)
    have a2 := del_len l s h3
    rw [h5, h2] at a1
    omega
  have h9 := own_tight h7
  rw [hsz] at h9
  refine ⟨w', hrun, ⟨_, h9, hsz, ?_, ?_, fun t => ?_, fun t v hv => ?_⟩, h8.grown, ?_, fun a => h8.frozen a⟩
  · rw [del_names]; exact h3.filter _
  · intro p hp; exact h4 p (mem_del.1 hp).1
  · rw [look_del]
    by_cases e : t = s
    · subst e; rw [has_del_same]; simp
    · rw [has_del_other (fun e2 => e (K.inj _ _ e2)), h5, if_neg e]
  · intro zd
    rw [look_del] at hv
    by_cases e : t = s
    · rw [if_pos e] at hv; cases hv
    · rw [if_neg e] at hv; rw [atKey_del_other (fun e2 => e (K.inj _ _ e2))]; exact h6 t v hv zd
  · obtain ⟨es, c, es', c', _, rfl⟩ := h8; simp [setBlock]
/-- a range over that map under way: which keys are still to come -/
def RG (E : Emb κ) (P : Program) (k : TypeId) (w : World) (m r : Nat) (l : ML κ) (left : κ → Bool) (cnt : Nat) : Prop :=
  ∃ (D : DataW Unit) (lf : Lit → Bool), w.ranges P k vR m r l.length D lf cnt ∧ Maps.size D = l.length ∧ (l.map (·.1)).Nodup ∧ (∀ p ∈ l, E.ok p.1 ∧ ∃ d, enc p.2 = some d) ∧
    (∀ s : κ, Maps.has D (E.lit s) = (look l s).isSome) ∧ (∀ (s : κ) (v : Value), look l s = some v → ∀ zd, some (D.atKey (E.lit s) zd) = enc v) ∧ (∀ s : κ, lf (E.lit s) = left s)
theorem RG.gm {r cnt : Nat} {left : κ → Bool} (h : RG E P k w m r l left cnt) : GM E P k w m l := by
  obtain ⟨D, lf, h1, h2, h3, h4, h5, h6, _⟩ := h
  exact ⟨D, h1.owns, h2, h3, h4, h5, h6⟩
theorem RG.left_eq {r cnt : Nat} {left : κ → Bool} (h : RG E P k w m r l left cnt) : w.rangeLeft m r = cnt := by obtain ⟨D, lf, h1, _⟩ := h; exact h1.left_eq
theorem RG.lt {r cnt : Nat} {left : κ → Bool} (h : RG E P k w m r l left cnt) : r < w.heap.size := by obtain ⟨D, lf, h1, _⟩ := h; exact h1.lt
theorem RG.iter {r cnt : Nat} {left : κ → Bool} (h : RG E P k w m r l left cnt) : ∃ a b c, w.heap[r]? = some (.mapIter (some m) a b c) := by
  obtain ⟨D, lf, ⟨_, _, a, b, c, _, _, _, _, h, _⟩, _⟩ := h; exact ⟨a, b, c, h⟩
theorem RG.blocks {r cnt : Nat} {left : κ → Bool} (h : RG E P k w m r l left cnt) (h1 : w'.heap[m]? = w.heap[m]?) (h2 : w'.heap[r]? = w.heap[r]?) : RG E P k w' m r l left cnt := by
  obtain ⟨D, lf, ⟨es, clock, since, seen, c0, g1, g2, g3, g4, g5, g6⟩, hrest⟩ := h
  exact ⟨D, lf, ⟨es, clock, since, seen, c0, h1.trans g1, g2, g3, g4, h2.trans g5, g6⟩, hrest⟩
end
section
variable {κ : Type} [DecidableEq κ] {P : Program} (w : World) {ops : Array Oper} {rest : List Oper} {o : Oper} {a : Act} {Q : Exit → Act → World → Prop} {t k e : TypeId} {m : Nat} {l : ML κ} {E : Emb κ}
theorem range_gm (hg : o.guard = none) (x : Operand) (hop : o.op = Op.range t x) (K : KOK P k E) (ht : P.underlying t = some (.map k e)) (hm : a.eval x = .map (some m)) (h : GM E P k w m l)
    (hK : ∀ w', RG E P k w' m w.heap.size l (fun s => (look l s).isSome) l.length → w.grownBy w' none → w'.heap.size = w.heap.size + 1 → wpList P ops Q rest (a.put o.dst (.pointer (some ⟨w.heap.size, 0, none⟩))) w') :
    wpList P ops Q (o :: rest) a w := by
  obtain ⟨D, h1, h2, h3, h4, h5, h6⟩ := h
  refine wpList_range_own w hg x t hop k e K.keyed ht vR m _ D hm h1 ?_
  intro w' g1 g2 g3
  rw [h2] at g1
  exact hK w' ⟨D, _, g1, h2, h3, h4, h5, h6, fun s => h5 s⟩ g2 g3
theorem next_gm (hg : o.guard = none) (it : Operand) (hop : o.op = Op.next it false) (K : KOK P k E) (r cnt : Nat) (left : κ → Bool) (hit : a.eval it = .pointer (some ⟨r, 0, none⟩)) (h : RG E P k w m r l left cnt)
    (hDone : (∀ s, left s = false) → wpList P ops Q rest (a.put o.dst (.tuple #[.bool false])) w)
    (hMore : ∀ (s : κ) (b : Value) (w' : World) (cnt' : Nat), look l s = some b → left s = true → RG E P k w' m r l (fun t => left t && !decide (t = s)) cnt' → cnt' < cnt → w.grownBy w' (some r) → w'.heap.size = w.heap.size →
      (Instr.entry (.pointer (some ⟨r, 0, none⟩))).run P w' = .ok (.tuple #[E.val s, b]) w' → wpList P ops Q rest (a.put o.dst (.tuple #[.bool true, E.val s, b])) w') :
    wpList P ops Q (o :: rest) a w := by
  obtain ⟨D, lf, h1, h2, h3, h4, h5, h6, h7⟩ := h
  refine wpList_next_ranges (α := Value) (β := Value) w hg it hop k K.keyed vR id id (fun key _ _ => ⟨key, rfl⟩) (fun v _ _ => ⟨v, rfl⟩) m r _ D lf cnt hit h1 ?_ ?_
  · intro _ hl
    exact hDone fun s => by rw [← h7]; exact hl _
  · intro v o' kl y w' cnt' hkey hl hy hat hrg hlt hgr hsz hen
    obtain ⟨s, rfl, rfl, hok⟩ := K.inv _ _ hkey
    have hy := vR_inv hy
    have hsome : (look l s).isSome = true := by
      rw [← h5 s]
      have hz : ∀ z, D.atKey (E.lit s) z = y.1 := hat
      exact has_true_of_atKey hz
    obtain ⟨b, hb⟩ := Option.isSome_iff_exists.1 hsome
    have h8 := h6 s b hb y.1
    rw [hat] at h8
    obtain rfl : o' = b := enc_inj hy h8.symm
    refine hMore s o' w' cnt' hb (by rw [← h7]; exact hl) ⟨D, _, hrg, h2, h3, h4, h5, h6, fun t => ?_⟩ hlt hgr hsz hen
    show (lf (E.lit t) && !(E.lit t).sameKey (E.lit s)) = _
    rw [h7]
    by_cases e : t = s
    · subst e; rw [WideAt.sameKey_self (K.isLit t)]; simp
    · rw [sameKey_ne (fun e2 => e (K.inj _ _ e2))]; simp [e]
end
end Go.Mx
namespace Go.Proofs.YtmcllcepoiakeaaGreat
open Go.RowKit Go.Mx Go.Proofs.YtmcllcepoiakeaaGreat.Dx Go.Dk
section
variable {w w' : World} {base p m room L : Nat} {fl : FL}
theorem Dx.HD.kept {d : DM} (h : HD w base p m d) {N : Nat → Prop} (hk : Kept w w' N) (hN : ∀ k, ¬ Foreign m w k → N k) : HD w' base p m d := by
  obtain ⟨fs, lv, x, h⟩ := h
  exact ⟨fs, lv, x, h.keep hk (hN _ (not_foreign h.dk (.inl rfl))) (hN _ fun hf => hf.1 rfl)
    (fun k e => by obtain ⟨c, f, g⟩ := h.lg.type e; exact hN _ fun hf => (hf.2 _ _ _ g).2.2.2 rfl)
    (fun i f hi => hN _ (not_foreign (h.fc i f hi).1 (.inr (.inl rfl))))
    (fun i f b hi hv k e => by obtain ⟨c, f', g⟩ := (h.ow i f b hi hv).type e; exact hN _ fun hf => (hf.2 _ _ _ g).2.2.1 rfl)⟩
theorem Dx.HG.kept (h : HG w base p m room fl L) {N : Nat → Prop} (hk : Kept w w' N) (hN : ∀ k, ¬ Foreign m w k → N k) : HG w' base p m room fl L := by
  obtain ⟨d, h, g⟩ := h.hd; exact (h.kept hk hN).hg g
/-- what a disk's step keeps: foreign blocks, but for one -/
def KeptO (m : Nat) (o : Option Nat) (w w' : World) : Prop := Kept w w' fun k => Foreign m w k ∧ o ≠ some k
theorem KeptO.cells {o : Option Nat} (h : KeptO m o w w') {k : Nat} {c : Array Value} {t : TypeId} {fr : Nat × Nat} (hc : w.heap[k]? = some (.cells c t fr)) (hm : k ≠ m) (ht : t ≠ 64 ∧ t ≠ 68 ∧ t ≠ 131 ∧ t ≠ 280) (ho : o ≠ some k) : w'.heap[k]? = some (.cells c t fr) :=
  (Kept.block h k (blk_lt hc) ⟨⟨hm, fun c' t' fr' e => by rw [hc] at e; cases e; exact ht⟩, ho⟩).trans hc
theorem Dx.Fr.keptO (h : Fr base m w w') (o : Option Nat) : KeptO m o w w' := ⟨h.kept.size, fun k hk hf => h.kept.block k hk hf.1⟩
theorem not_map {w : World} {m k : Nat} {c : Array Value} {t : TypeId} {fr : Nat × Nat} (hm : ∃ es cc, w.heap[m]? = some (.map es cc)) (hc : w.heap[k]? = some (.cells c t fr)) : k ≠ m := by
  rintro rfl; obtain ⟨es, cc, h⟩ := hm; rw [h] at hc; cases hc
theorem ownB_foreign {b : Nat} {v : Value} {l : List UInt8} (h : OwnB w b 5 v l) (hm : ∃ es cc, w.heap[m]? = some (.map es cc)) : ∀ k, v.ownBlock = some k → Foreign m w k := by
  intro k hk
  rcases h.2 with ⟨rfl, _⟩ | ⟨g, cap, cur, rfl, _, hg, _⟩
  · cases hk
  · cases hk; exact ⟨not_map hm hg, fun c t fr e => by rw [hg] at e; cases e; exact ⟨by decide, by decide, by decide, by decide⟩⟩
theorem stab_own {b : Nat} {v : Value} {l : List UInt8} (h : OwnB w b 5 v l) (hm : ∃ es cc, w.heap[m]? = some (.map es cc)) : ∀ w', Fr base m w w' → SlB w' w'.heap.size v l := fun w' hf => (h.kept hf.kept (ownB_foreign h hm)).slB
/-- two sectors out of bytes -/
theorem two_secs (l : List UInt8) (h : l.length = 32) : ∃ ss : List Sec, ss.flatten = l ∧ (∀ s ∈ ss, s.length = 16) ∧ ss.length = 2 :=
  ⟨[l.take 16, l.drop 16], by simp, by intro s hs; simp at hs; rcases hs with rfl | rfl <;> simp <;> omega, rfl⟩
end
theorem keptO_trans {w w1 w2 : World} {base m : Nat} {o : Option Nat} (h : Kept w w1 (fun q => o ≠ some q)) (hf : Fr base m w1 w2) : KeptO m o w w2 :=
  ⟨Nat.le_trans h.size hf.size, fun k hk hF => (hf.kept.block k (Nat.lt_of_lt_of_le hk h.size) ⟨hF.1.1, fun c t fr e => hF.1.2 c t fr ((h.block k hk hF.2).symm.trans e)⟩).trans (h.block k hk hF.2)⟩
/-- an append whose run is known, in a drawn region -/
theorem step_append_run {P : Program} (w : World) {ops : Array Oper} {o : Oper} {a : Act} {K : Act → World → Prop} {Q : Exit → Act → World → Prop} {E : Prop} (hgd : o.guard = none) (s x : Operand) (t tn : TypeId)
    (ho : o.op = .call { callee := .builtin .append, args := #[s, x], argTypes := #[t, tn] }) (vs vx : Value) (hs : a.eval s = vs) (hx : a.eval x = vx)
    (v' : Value) (w' : World) (hr : (Builtin.append_ #[t, tn] o.type #[vs, vx]).run P w = .ok v' w') (h : K (a.put o.dst v') w') : if Region.wanted o (yielded ops a.tmps) = true then Oper.wp P o a w K Q else E := by
  have hw : Region.wanted o (yielded ops a.tmps) = true := by simp [Region.wanted, hgd]
  rw [if_pos hw]
  exact Lib.wp_append_run w s x t tn ho vs vx hs hx v' w' hr h
/-- the captured variables of the steps -/
def Bx5 (a5 a6 a26 a27 a28 p : Nat) (nm : List UInt8) (bv : Value) (W : World) : Prop :=
  W.cell? ⟨a5, 0, none⟩ = some (dp p) ∧ W.cell? ⟨a6, 0, none⟩ = some (nmv nm) ∧ W.cell? ⟨a26, 0, none⟩ = some (.int .i64 2) ∧ W.cell? ⟨a27, 0, none⟩ = some bv ∧ W.cell? ⟨a28, 0, none⟩ = some (.int .i64 2)
set_option maxRecDepth 100000 in
set_option maxHeartbeats 1000000 in
theorem step1_any (a5 a6 a26 a27 a28 base p m room L i : Nat) (fl : FL) (nm : List UInt8) (hnl : nm.length ≤ 16) (bv : Value) (bs : List UInt8) (b0 : Nat) (w : World)
    (h5 : w.heap[a5]? = some (.cells #[dp p] 22 (0, 0))) (h6 : w.heap[a6]? = some (.cells #[nmv nm] 9 (0, 0))) (h26 : w.heap[a26]? = some (.cells #[.int .i64 2] 3 (0, 0))) (h27 : w.heap[a27]? = some (.cells #[bv] 26 (0, 0))) (h28 : w.heap[a28]? = some (.cells #[.int .i64 2] 3 (0, 0)))
    (hb : OwnB w b0 5 bv bs) (hb0 : base ≤ b0) (hb1 : b0 ≤ w.heap.size) (hbl : bs.length = 21 ∨ bs.length = 22) (hd : HG w base p m room fl L) (hi : fl[i]? = some (nm, 0)) (hur : (fl.map (·.2)).sum + 4 ≤ room) (hroom : room ≤ 1048576) (hL : L ≤ 100000) :
    Calls Tryz.prog 126 #[dp a5, dp a6, dp a26, dp a27, dp a28] w fun e w' => e = .returned (.int .i64 0) ∧ HG w' base p m room (fl.set i (nm, 4)) (L + 2) ∧ KeptO m bv.ownBlock w w' ∧ Below base w w' := by
  have c5 := cell_of h5 0
  have c6 := cell_of h6 0
  have c26 := cell_of h26 0
  have c27 := cell_of h27 0
  have c28 := cell_of h28 0
  obtain ⟨k, hk, hkn⟩ : ∃ k : Nat, bs.length + k = 32 ∧ (k = 11 ∨ k = 10) := by rcases hbl with e | e; exact ⟨11, by omega, .inl rfl⟩; exact ⟨10, by omega, .inr rfl⟩
  have hmap := hd.facts.2.1
  obtain ⟨v', w1, hr, ho, hg⟩ := app_zeros w.drew b0 bv bs (hb.kept (Kept.drew w (fun _ => True)) fun _ _ => trivial) (by rintro rfl; simp at hbl) k (by omega) (by omega) (by simpa using hb1) 26
  have hk1 : Kept w w1 (fun q => bv.ownBlock ≠ some q) := ⟨hg.size, fun q hq hn => hg.block q hq fun e => hn e.symm⟩
  have hd1 := hd.kept hk1 fun q hq e => hq (ownB_foreign hb hmap q e)
  have hbel1 : Below base w w1 := ((Below.refl base w).drew).trans ((Below.refl base w.drew).grown hg (by have := hd.base_le; simpa using this) fun q hq => by have := (World.ownsRow.lt hb q hq).1; omega)
  obtain ⟨ss, hs1, hs2, hs3⟩ := two_secs (bs ++ List.replicate k 0) (by simp; omega)
  have HW := hid (write_L hd1 hi (by unfold maxLen; omega) 2 ss v' (by rw [hs1]; exact stab_own ho hd1.facts.2.1) hs2 (by omega) (by omega) (by omega) hroom (by omega) (by omega))
  rw [hs3] at HW
  have HK := hid (And.intro hk1 (And.intro hbel1 (fun q hq => ownB_foreign hb hmap q hq)))
  have hbb : ∀ {k : Nat} {t : TypeId} {c : Array Value}, w.heap[k]? = some (.cells c t (0, 0)) → t ≠ 5 → w1.heap[k]? = some (.cells c t (0, 0)) := fun {k t c} hk ht => (hk1.block k (blk_lt hk) (hb.not_block hk ht)).trans hk
  have HS0 : Hid (Bx5 a5 a6 a26 a27 a28 p nm bv w.drew) := hid ⟨by rw [World.cell?_drew]; exact c5, by rw [World.cell?_drew]; exact c6, by rw [World.cell?_drew]; exact c26, by rw [World.cell?_drew]; exact c27, by rw [World.cell?_drew]; exact c28⟩
  have HS1 : Hid (Bx5 a5 a6 a26 a27 a28 p nm bv w1) := hid ⟨cell_of (hbb h5 (by decide)) 0, cell_of (hbb h6 (by decide)) 0, cell_of (hbb h26 (by decide)) 0, cell_of (hbb h27 (by decide)) 0, cell_of (hbb h28 (by decide)) 0⟩
  have hbc : ∀ {k : Nat} {t : TypeId} {c : Array Value}, w1.heap[k]? = some (.cells c t (0, 0)) → (t ≠ 64 ∧ t ≠ 68 ∧ t ≠ 131 ∧ t ≠ 280) → ∀ w2, Fr base m w1 w2 → w2.heap[k]? = some (.cells c t (0, 0)) := fun {k t c} hk ht w2 hf => hf.cells hk (not_map hd1.facts.2.1 hk) ht
  have HF : Hid (∀ w2, Fr base m w1 w2 → Bx5 a5 a6 a26 a27 a28 p nm bv w2) := hid fun w2 hf => ⟨cell_of (hbc (hbb h5 (by decide)) (by decide) w2 hf) 0, cell_of (hbc (hbb h6 (by decide)) (by decide) w2 hf) 0, cell_of (hbc (hbb h26 (by decide)) (by decide) w2 hf) 0, cell_of (hbc (hbb h27 (by decide)) (by decide) w2 hf) 0, cell_of (hbc (hbb h28 (by decide)) (by decide) w2 hf) 0⟩
  have g5 : ∀ W, Bx5 a5 a6 a26 a27 a28 p nm bv W → W.cell? ⟨a5, 0, none⟩ = some (dp p) := fun W h => h.1
  have g6 : ∀ W, Bx5 a5 a6 a26 a27 a28 p nm bv W → W.cell? ⟨a6, 0, none⟩ = some (nmv nm) := fun W h => h.2.1
  have g26 : ∀ W, Bx5 a5 a6 a26 a27 a28 p nm bv W → W.cell? ⟨a26, 0, none⟩ = some (.int .i64 2) := fun W h => h.2.2.1
  have g27 : ∀ W, Bx5 a5 a6 a26 a27 a28 p nm bv W → W.cell? ⟨a27, 0, none⟩ = some bv := fun W h => h.2.2.2.1
  have g28 : ∀ W, Bx5 a5 a6 a26 a27 a28 p nm bv W → W.cell? ⟨a28, 0, none⟩ = some (.int .i64 2) := fun W h => h.2.2.2.2
  have hln := fun w' => len_own (P := Tryz.prog) (ty := 3) Tryz.underlying26 hb w'
  obtain ⟨va, vn, vc, rfl⟩ := slB_shape hb.slB
  have hsh := slB_shape ho.slB
  clear hbc hbb c5 c6 c26 c27 c28 h5 h6 h26 h27 h28 hb hd hd1 hk1 hbel1 ho hg hs1 hs2 hs3 hbl hi hur hmap
  obtain ⟨va', vn', vc', rfl⟩ := hsh
  rcases hkn with rfl | rfl
  · rw [show (bs.length : Int) = 21 by omega] at hln
    go_enter Tryz.func126, Tryz.ntmps126
    go_wp2_with fail
    go_region_held3 (fun w' => Bx5 a5 a6 a26 a27 a28 p nm (.slice va vn vc) w') (first | with_reducible exact HS0.out | with_reducible exact HS1.out | with_reducible assumption)
      (first
        | (refine step_append_run _ (by rfl) (.tmp 9) (.tmp 14) 26 3 (by rfl) _ _ (by rfl) (by rfl) _ _ hr ?_)
        | (go_at_call 127; refine HW.out.mono ?_; rintro e w2 ⟨hf2, rfl, hg2⟩; have hS2 := HF.out w2 hf2))
    have HE := hid (And.intro hg2 (And.intro (keptO_trans HK.out.1 hf2) (HK.out.2.1.trans hf2.bel)))
    clear hf2 hg2 hS2
    go_wp2
    go_ret
    exact ⟨rfl, HE.out.1, HE.out.2.1, HE.out.2.2⟩
  · rw [show (bs.length : Int) = 22 by omega] at hln
    go_enter Tryz.func126, Tryz.ntmps126
    go_wp2_with fail
    go_region_held3 (fun w' => Bx5 a5 a6 a26 a27 a28 p nm (.slice va vn vc) w') (first | with_reducible exact HS0.out | with_reducible exact HS1.out | with_reducible assumption)
      (first
        | (refine step_append_run _ (by rfl) (.tmp 9) (.tmp 14) 26 3 (by rfl) _ _ (by rfl) (by rfl) _ _ hr ?_)
        | (go_at_call 127; refine HW.out.mono ?_; rintro e w2 ⟨hf2, rfl, hg2⟩; have hS2 := HF.out w2 hf2))
    have HE := hid (And.intro hg2 (And.intro (keptO_trans HK.out.1 hf2) (HK.out.2.1.trans hf2.bel)))
    clear hf2 hg2 hS2
    go_wp2
    go_ret
    exact ⟨rfl, HE.out.1, HE.out.2.1, HE.out.2.2⟩
end Go.Proofs.YtmcllcepoiakeaaGreat
