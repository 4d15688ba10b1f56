import Derived.Test.YtmbfcpdflhjfnaaM3
import Derived.Test.YtmbfcpdflhjfnaaL3
import Derived.ChangeKeysEq
import Derived.WideKeyRuns
namespace Go.Mx
open Go.RowKit

abbrev k4 (a b c d : UInt8) : Value := .agg #[u8 a, u8 b, u8 c, u8 d]

section
variable {P : Program} {K e : TypeId} {i : TypeInfo} (hu : P.underlying K = some (.array 4 e)) (he : P.underlying e = some (.int .u8)) (hi : P.info? e = some i) (hc : P.cellsOf e = 1) (w : World)

include he in
theorem plain_u8 : P.plainKey e = true := by unfold Program.plainKey; simp [he]

include hu he hi hc in
theorem run_equal_k4 (a b c d a' b' c' d' : UInt8) : (Op.equal K (k4 a b c d) (k4 a' b' c' d')).run P w = .ok (decide (a = a' ∧ b = b' ∧ c = c' ∧ d = d')) w := by
  have hp := plain_u8 he
  have e1 : ∀ (xs : Array Value) (j : Nat) (v : UInt8), xs[j]? = some (u8 v) → (part e xs j).run P w = .ok (u8 v) w := fun xs j v h => run_part_plain w hp h
  have e2 : ∀ (x y : UInt8), (Op.equalIn 9999 e (u8 x) (u8 y)).run P w = .ok ((x.toNat : Int) == (y.toNat : Int)) w := fun x y => run_equalIn_int (P := P) w 9998 e .u8 .u8 _ _ he
  have e3 : ∀ (x y : UInt8), ((x.toNat : Int) == (y.toNat : Int)) = decide (x = y) := by
    intro x y
    rw [Bool.eq_iff_iff]
    simp
    constructor
    · intro h; exact UInt8.toNat_inj.1 (by omega)
    · rintro rfl; rfl
  show (Op.equalIn (9999 + 1) K _ _).run P w = _
  rw [run_equalIn_array w 9999 _ _ hu hi, hc]
  simp only [show List.range 4 = [0, 1, 2, 3] from rfl, Op.eqItems, Sem.run_bind, Nat.zero_mul, Nat.one_mul, Nat.mul_one]
  rw [e1 _ 0 a rfl, Result.andThen_ok, e1 _ 0 a' rfl, Result.andThen_ok, e2, Result.andThen_ok, e3]
  by_cases h0 : a = a'
  · simp only [h0, decide_true, Bool.not_true, Bool.false_eq_true, if_false, Sem.run_bind, true_and]
    rw [e1 _ 1 b rfl, Result.andThen_ok, e1 _ 1 b' rfl, Result.andThen_ok, e2, Result.andThen_ok, e3]
    by_cases h1 : b = b'
    · simp only [h1, decide_true, Bool.not_true, Bool.false_eq_true, if_false, Sem.run_bind, true_and]
      rw [e1 _ 2 c rfl, Result.andThen_ok, e1 _ 2 c' rfl, Result.andThen_ok, e2, Result.andThen_ok, e3]
      by_cases h2 : c = c'
      · simp only [h2, decide_true, Bool.not_true, Bool.false_eq_true, if_false, Sem.run_bind, true_and]
        rw [e1 _ 3 d rfl, Result.andThen_ok, e1 _ 3 d' rfl, Result.andThen_ok, e2, Result.andThen_ok, e3]
        by_cases h3 : d = d'
        · simp [h3]
        · simp [h3]
      · simp [h2]
    · simp [h1]
  · simp [h0]

include hu he hi hc in
theorem run_check_k4' (em : Bool) (n : Nat) (a b c d : UInt8) : (Instr.checkKey em (n + 1 + 1) K (k4 a b c d)).run P w = .ok () w := by
  have hp := plain_u8 he
  have e1 : ∀ (xs : Array Value) (j : Nat) (v : UInt8), xs[j]? = some (u8 v) → (part e xs j).run P w = .ok (u8 v) w := fun xs j v h => run_part_plain w hp h
  have e2 : ∀ (x : UInt8), (Instr.checkKey em (n + 1) e (u8 x)).run P w = .ok () w := by
    intro x
    simp [Instr.checkKey, run_underlying he]
  rw [Instr.checkKey]
  simp only [Sem.run_bind, run_underlying hu, Result.andThen_ok]
  simp only [Std.Legacy.Range.forIn_eq_forIn_range', Std.Legacy.Range.size, Nat.sub_zero, Nat.add_one_sub_one, Nat.div_one]
  simp only [show List.range' 0 4 = [0, 1, 2, 3] from rfl, List.forIn_cons, List.forIn_nil, Sem.run_bind, run_sizeOf w hi, hc, Result.andThen_ok, Nat.zero_mul, Nat.one_mul, Nat.mul_one]
  rw [e1 _ 0 a rfl]
  simp only [Result.andThen_ok, e2, Sem.run_pure, Sem.run_bind, run_sizeOf w hi, hc, Nat.one_mul]
  rw [e1 _ 1 b rfl]
  simp only [Result.andThen_ok, e2, Sem.run_pure, Sem.run_bind, run_sizeOf w hi, hc, Nat.mul_one]
  rw [e1 _ 2 c rfl]
  simp only [Result.andThen_ok, e2, Sem.run_pure, Sem.run_bind, run_sizeOf w hi, hc, Nat.mul_one]
  rw [e1 _ 3 d rfl]
  simp only [Result.andThen_ok, e2, Sem.run_pure, Sem.run_bind, run_sizeOf w hi, hc, Nat.mul_one]

include hu he hi hc in
theorem run_check_k4 (em : Bool) (a b c d : UInt8) : (Instr.checkKey em 10000 K (k4 a b c d)).run P w = .ok () w := run_check_k4' hu he hi hc w em 9998 a b c d
end

open Go.Lz

def kv (k : List UInt8) : Value := .agg (k.map u8).toArray

theorem four (k : List UInt8) (h : k.length = 4) : ∃ a b c d, k = [a, b, c, d] := by
  match k, h with
  | [a, b, c, d], _ => exact ⟨a, b, c, d, rfl⟩

def mloc : Mp → List UInt8 → Nat → Option (Nat × Nat)
  | [], _, _ => none
  | (k', v') :: r, k, i => if k' = k then some (i, v') else mloc r k (i+1)

theorem mloc_find : ∀ (m : Mp) k i, (mloc m k i).map (·.2) = mfind m k
  | [], _, _ => rfl
  | (k', v') :: r, k, i => by
    rw [mloc, mfind]
    split
    · rfl
    · exact mloc_find r k (i+1)

theorem mloc_upd : ∀ (m : Mp) k i v, mupd m k v = match mloc m k i with | none => m ++ [(k, v)] | some (j, _) => m.modify (j - i) (fun _ => (k, v))
  | [], _, _, _ => rfl
  | (k', v') :: r, k, i, v => by
    rw [mupd, mloc]
    split
    · simp
    · have := mloc_upd r k (i+1) v
      rw [this]
      cases h : mloc r k (i+1) with
      | none => simp
      | some p =>
        obtain ⟨j, u⟩ := p
        have hj : ∀ (m : Mp) i j u, mloc m k i = some (j, u) → i ≤ j := by
          intro m
          induction m with
          | nil => intro i j u h; simp [mloc] at h
          | cons x m ih =>
            intro i j u h
            rw [mloc] at h
            split at h
            · cases h; exact Nat.le_refl _
            · have := ih (i+1) j u h; omega
        have := hj r (i+1) j u h
        simp only
        rw [show j - i = (j - (i+1)) + 1 by omega, List.modify_succ_cons]

theorem mloc_get : ∀ (m : Mp) k i j u, mloc m k i = some (j, u) → i ≤ j ∧ m[j - i]? = some (k, u)
  | [], k, i, j, u, h => by simp [mloc] at h
  | (k', v') :: r, k, i, j, u, h => by
    rw [mloc] at h
    split at h
    · rename_i e; subst e; cases h; exact ⟨Nat.le_refl _, by simp⟩
    · have := mloc_get r k (i+1) j u h
      refine ⟨by omega, ?_⟩
      rw [show j - i = (j - (i+1)) + 1 by omega]
      simpa using this.2

def IsMap (w : World) (r : Nat) (m : Mp) : Prop :=
  ∃ es clock, w.heap[r]? = some (.map es clock) ∧ es.toList.map (fun e => (e.key, e.val)) = m.map (fun p => (kv p.1, Value.int .i64 p.2)) ∧ ∀ p ∈ m, p.1.length = 4

section
variable {P : Program} {T K V e : TypeId} {i : TypeInfo} (ht : P.underlying T = some (.map K V)) (hu : P.underlying K = some (.array 4 e)) (he : P.underlying e = some (.int .u8)) (hi : P.info? e = some i) (hc : P.cellsOf e = 1)
  {iv : TypeInfo} (hv : P.info? V = some iv) (hvz : iv.zero = some (.int .i64 0)) (w : World)

include hu he hi hc in
theorem run_find (k : List UInt8) (hk : k.length = 4) : ∀ (es : List MapEntry) (m : Mp) (j : Nat), es.map (fun e => (e.key, e.val)) = m.map (fun p => (kv p.1, Value.int .i64 p.2)) → (∀ p ∈ m, p.1.length = 4) →
    (Instr.findAsking K (kv k) es j).run P w = .ok ((mloc m k j).map (fun p => (p.1, Value.int .i64 p.2))) w
  | [], [], j, _, _ => by simp [Instr.findAsking, mloc]
  | [], _ :: _, j, h, _ => by simp at h
  | _ :: _, [], j, h, _ => by simp at h
  | x :: es, (k', v') :: m, j, h, hm => by
    simp only [List.map_cons, List.cons.injEq, Prod.mk.injEq] at h
    obtain ⟨⟨h1, h2⟩, h3⟩ := h
    obtain ⟨a, b, c, d, rfl⟩ := four k hk
    obtain ⟨a', b', c', d', rfl⟩ := four k' (hm (k', v') (by simp))
    simp only [Instr.findAsking, Sem.run_bind, h1]
    have := run_equal_k4 hu he hi hc w a b c d a' b' c' d'
    rw [show kv [a, b, c, d] = k4 a b c d from rfl, show kv [a', b', c', d'] = k4 a' b' c' d' from rfl, this]
    simp only [Result.andThen_ok]
    rw [mloc]
    by_cases heq : a = a' ∧ b = b' ∧ c = c' ∧ d = d'
    · obtain ⟨rfl, rfl, rfl, rfl⟩ := heq
      simp [h2]
    · rw [if_neg (by simpa using heq), if_neg (by intro h; simp at h; exact heq ⟨h.1.symm, h.2.1.symm, h.2.2.1.symm, h.2.2.2.symm⟩)]
      exact run_find [a, b, c, d] hk es m (j+1) h3 (fun p hp => hm p (by simp [hp]))

include ht hu he hi hc hv hvz in
theorem run_lookup_k (r : Nat) (m : Mp) (hm : IsMap w r m) (k : List UInt8) (hk : k.length = 4) :
    (Instr.lookup T (.map (some r)) (kv k) true).run P w = .ok (.tuple #[.int .i64 ((mfind m k).getD 0), .bool (mfind m k).isSome]) w := by
  obtain ⟨es, clock, h1, h2, h3⟩ := hm
  have hf := run_find hu he hi hc w k hk es.toList m 0 h2 h3
  have hwide : (match P.underlying K with | some (.array _ _) | some (.struct _) => true | _ => false) = true := by rw [hu]
  have hfk := (run_findKey_eq (P := P) w hwide (kv k) es.toList).trans hf
  obtain ⟨a, b, c, d, rfl⟩ := four k hk
  have hck := run_check_k4 hu he hi hc w es.isEmpty a b c d
  have hml := mloc_find m [a, b, c, d] 0
  unfold Instr.lookup
  simp only [Sem.run_bind, run_underlying ht, Result.andThen_ok]
  have hgo : (getObj r).run P w = .ok (.map es clock) w := by simp [getObj, Sem.run, h1]
  rw [show kv [a, b, c, d] = k4 a b c d from rfl] at hfk ⊢
  simp only [hgo, Result.andThen_ok, Sem.run_pure, Sem.run_bind, hck, hfk]
  rw [← hml]
  cases mloc m [a, b, c, d] 0 with
  | none =>
    have hz : (zeroValue V).run P w = .ok (.int .i64 0) w := by simp [zeroValue, typeInfo, hv, hvz]
    simp [hz]
  | some p => simp

include ht hu he hi hc in
theorem run_update_k (r : Nat) (m : Mp) (hm : IsMap w r m) (k : List UInt8) (hk : k.length = 4) (v : Nat) :
    ∃ w', (Instr.mapUpdate T (.map (some r)) (kv k) (.int .i64 v)).run P w = .ok () w' ∧ IsMap w' r (mupd m k v) ∧ w.grownBy w' (some r) := by
  obtain ⟨es, clock, h1, h2, h3⟩ := hm
  have hf := run_find hu he hi hc w k hk es.toList m 0 h2 h3
  have hwide : (match P.underlying K with | some (.array _ _) | some (.struct _) => true | _ => false) = true := by rw [hu]
  have hfk := (run_findKey_eq (P := P) w hwide (kv k) es.toList).trans hf
  have hck : (Instr.checkKey false 10000 K (kv k)).run P w = .ok () w := by
    obtain ⟨a, b, c, d, rfl⟩ := four k hk
    exact run_check_k4 hu he hi hc w false a b c d
  have hml := mloc_upd m k 0 v
  have hgo : (getObj r).run P w = .ok (.map es clock) w := by simp [getObj, Sem.run, h1]
  have hgrow : ∀ o, w.grownBy { w with heap := w.heap.setIfInBounds r o } (some r) := fun o =>
    ⟨rfl, rfl, rfl, by simp, fun i hi hr => by
      show (w.heap.setIfInBounds r o)[i]? = _
      rw [Array.getElem?_setIfInBounds_ne (by intro e; exact hr (by rw [e]))]⟩
  have hset : ∀ o, (setObj r o).run P w = .ok () { w with heap := w.heap.setIfInBounds r o } := fun o => by simp [setObj, Sem.run, h1]
  have hlt : r < w.heap.size := (Array.getElem?_eq_some_iff.1 h1).1
  have hat : ∀ o, (w.heap.setIfInBounds r o)[r]? = some o := fun o => by simp [hlt]
  have hkin : ∀ p ∈ mupd m k v, p.1.length = 4 := fun p hp => by
    rcases mupd_mem m k v p hp with e | e
    · rw [e]; exact hk
    · exact h3 p e
  unfold Instr.mapUpdate
  simp only [Sem.run_bind, run_underlying ht, Result.andThen_ok, hgo, hck, hfk]
  cases hl : mloc m k 0 with
  | none =>
    rw [hl] at hml
    simp only [Option.map_none]
    refine ⟨_, hset _, ⟨_, _, hat _, ?_, hkin⟩, hgrow _⟩
    rw [hml]
    simp [h2]
  | some p =>
    obtain ⟨j, u⟩ := p
    rw [hl] at hml
    simp only [Option.map_some, Sem.run_bind]
    obtain ⟨_, hget⟩ := mloc_get m k 0 j u hl
    have hej : (es[j]?).map (fun e => (e.key, e.val)) = some (kv k, .int .i64 u) := by
      have := congrArg (fun l => l[j]?) h2
      simp only [List.getElem?_map, Array.getElem?_toList] at this
      rw [Nat.sub_zero] at hget
      rw [this, hget]; rfl
    obtain ⟨ej, hej1, hej2⟩ := Option.map_eq_some_iff.1 hej
    simp only [Prod.mk.injEq] at hej2
    have hsame : ∀ k : List UInt8, Instr.sameBits 10000 (kv k) (kv k) = true := by
      intro k
      show Instr.sameBits (9999 + 1) (kv k) (kv k) = true
      unfold kv
      simp only [Instr.sameBits, beq_self_eq_true, Bool.true_and]
      rw [List.all_eq_true]
      intro x hx
      have := List.of_mem_zip hx
      have hxx : x.1 = x.2 := by
        obtain ⟨n, hn1, hn2⟩ := List.getElem_of_mem hx
        rw [List.getElem_zip] at hn2
        rw [← hn2]
      obtain ⟨x1, x2⟩ := x
      simp only at hxx
      subst hxx
      simp at this
      obtain ⟨b, _, rfl⟩ := this
      simp [Instr.sameBits]
    have hkey : (Instr.keyThatStays (((es[j]?).map (·.key)).getD (kv k)) (kv k)).run P w = .ok (kv k) w := by
      rw [hej1]
      simp only [Option.map_some, Option.getD_some, hej2.1, Instr.keyThatStays, hsame, if_true, Sem.run_pure]
    rw [hkey]
    simp only [Result.andThen_ok]
    refine ⟨_, hset _, ⟨_, _, hat _, ?_, hkin⟩, hgrow _⟩
    rw [hml]
    simp only [Nat.sub_zero, Array.toList_modify]
    apply List.ext_getElem?
    intro n
    have hn := congrArg (fun l => l[n]?) h2
    simp only [List.getElem?_map, List.getElem?_modify] at hn ⊢
    by_cases hjn : j = n
    · subst hjn
      simp only [if_true]
      cases h5 : es.toList[j]? with
      | none => rw [h5] at hn; cases h6 : m[j]? with
        | none => simp
        | some y => rw [h6] at hn; simp at hn
      | some x => rw [h5] at hn; cases h6 : m[j]? with
        | none => rw [h6] at hn; simp at hn
        | some y => simp
    · simp only [hjn, if_false, id]
      simpa using hn
end
theorem IsMap.below {w w' : World} {r B : Nat} {m : Mp} (h : IsMap w r m) (hb : Below B w w') (hr : r < B) : IsMap w' r m := by
  obtain ⟨es, clock, h1, h2, h3⟩ := h
  exact ⟨es, clock, by rw [hb.block r hr]; exact h1, h2, h3⟩

end Go.Mx
