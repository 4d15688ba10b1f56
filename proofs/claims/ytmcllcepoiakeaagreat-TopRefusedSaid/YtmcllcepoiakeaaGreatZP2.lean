import Derived.Test.YtmcllcepoiakeaaGreatMM
import Derived.Test.YtmcllcepoiakeaaGreatZL3
import Derived.ChangeKeysEq
import Derived.WideKeyRuns
import Derived.Test.YtmcllcepoiakeaaGreatRows
set_option linter.unusedSimpArgs false
set_option linter.unusedVariables false
namespace Go.Mx
open Go.RowKit
abbrev k4 (a b c d : UInt8) : Value := .agg #[u8 a, u8 b, u8 c, u8 d]
section
variable {P : Program} {K e : TypeId} {i : TypeInfo} (hu : P.underlying K = some (.array 4 e)) (he : P.underlying e = some (.int .u8)) (hi : P.info? e = some i) (hc : P.cellsOf e = 1) (w : World)
include he in
theorem plain_u8 : P.plainKey e = true := by unfold Program.plainKey; simp [he]
include hu he hi hc in
theorem run_equal_k4 (a b c d a' b' c' d' : UInt8) : (Op.equal K (k4 a b c d) (k4 a' b' c' d')).run P w = .ok (decide (a = a' ∧ b = b' ∧ c = c' ∧ d = d')) w := by
  have hp := plain_u8 he
  have e1 : ∀ (xs : Array Value) (j : Nat) (v : UInt8), xs[j]? = some (u8 v) → (part e xs j).run P w = .ok (u8 v) w := fun xs j v h => run_part_plain w hp h
  have e2 : ∀ (x y : UInt8), (Op.equalIn 9999 e (u8 x) (u8 y)).run P w = .ok ((x.toNat : Int) == (y.toNat : Int)) w := fun x y => run_equalIn_int (P := P) w 9998 e .u8 .u8 _ _ he
  have e3 : ∀ (x y : UInt8), ((x.toNat : Int) == (y.toNat : Int)) = decide (x = y) := by
    intro x y
    rw [Bool.eq_iff_iff]
    simp
    constructor
    · intro h; exact UInt8.toNat_inj.1 (by omega)
    · rintro rfl; rfl
  show (Op.equalIn (9999 + 1) K _ _).run P w = _
  rw [run_equalIn_array w 9999 _ _ hu hi, hc]
  simp only [show List.range 4 = [0, 1, 2, 3] from rfl, Op.eqItems, Sem.run_bind, Nat.zero_mul, Nat.one_mul, Nat.mul_one]
  rw [e1 _ 0 a rfl, Result.andThen_ok, e1 _ 0 a' rfl, Result.andThen_ok, e2, Result.andThen_ok, e3]
  by_cases h0 : a = a'
  · simp only [h0, decide_true, Bool.not_true, Bool.false_eq_true, if_false, Sem.run_bind, true_and]
    rw [e1 _ 1 b rfl, Result.andThen_ok, e1 _ 1 b' rfl, Result.andThen_ok, e2, Result.andThen_ok, e3]
    by_cases h1 : b = b'
    · simp only [h1, decide_true, Bool.not_true, Bool.false_eq_true, if_false, Sem.run_bind, true_and]
      rw [e1 _ 2 c rfl, Result.andThen_ok, e1 _ 2 c' rfl, Result.andThen_ok, e2, Result.andThen_ok, e3]
      by_cases h2 : c = c'
      · simp only [h2, decide_true, Bool.not_true, Bool.false_eq_true, if_false, Sem.run_bind, true_and]
        rw [e1 _ 3 d rfl, Result.andThen_ok, e1 _ 3 d' rfl, Result.andThen_ok, e2, Result.andThen_ok, e3]
        by_cases h3 : d = d'
        · simp [h3]
        · simp [h3]
      · simp [h2]
    · simp [h1]
  · simp [h0]
include hu he hi hc in
theorem run_check_k4' (em : Bool) (n : Nat) (a b c d : UInt8) : (Instr.checkKey em (n + 1 + 1) K (k4 a b c d)).run P w = .ok () w := by
  have hp := plain_u8 he
  have e1 : ∀ (xs : Array Value) (j : Nat) (v : UInt8), xs[j]? = some (u8 v) → (part e xs j).run P w = .ok (u8 v) w := fun xs j v h => run_part_plain w hp h
  have e2 : ∀ (x : UInt8), (Instr.checkKey em (n + 1) e (u8 x)).run P w = .ok () w := by
    intro x
    simp [Instr.checkKey, run_underlying he]
  rw [Instr.checkKey]
  simp only [Sem.run_bind, run_underlying hu, Result.andThen_ok]
  simp only [Std.Legacy.Range.forIn_eq_forIn_range', Std.Legacy.Range.size, Nat.sub_zero, Nat.add_one_sub_one, Nat.div_one]
  simp only [show List.range' 0 4 = [0, 1, 2, 3] from rfl, List.forIn_cons, List.forIn_nil, Sem.run_bind, run_sizeOf w hi, hc, Result.andThen_ok, Nat.zero_mul, Nat.one_mul, Nat.mul_one]
  rw [e1 _ 0 a rfl]
  simp only [Result.andThen_ok, e2, Sem.run_pure, Sem.run_bind, run_sizeOf w hi, hc, Nat.one_mul]
  rw [e1 _ 1 b rfl]
  simp only [Result.andThen_ok, e2, Sem.run_pure, Sem.run_bind, run_sizeOf w hi, hc, Nat.mul_one]
  rw [e1 _ 2 c rfl]
  simp only [Result.andThen_ok, e2, Sem.run_pure, Sem.run_bind, run_sizeOf w hi, hc, Nat.mul_one]
  rw [e1 _ 3 d rfl]
  simp only [Result.andThen_ok, e2, Sem.run_pure, Sem.run_bind, run_sizeOf w hi, hc, Nat.mul_one]
include hu he hi hc in
theorem run_check_k4 (em : Bool) (a b c d : UInt8) : (Instr.checkKey em 10000 K (k4 a b c d)).run P w = .ok () w := run_check_k4' hu he hi hc w em 9998 a b c d
end
open Go.Lz
def kv (k : List UInt8) : Value := .agg (k.map u8).toArray
theorem four (k : List UInt8) (h : k.length = 4) : ∃ a b c d, k = [a, b, c, d] := by
  match k, h with
  | [a, b, c, d], _ => exact ⟨a, b, c, d, rfl⟩
def mloc : Mp → List UInt8 → Nat → Option (Nat × Nat)
  | [], _, _ => none
  | (k', v') :: r, k, i => if k' = k then some (i, v') else mloc r k (i+1)
theorem mloc_find : ∀ (m : Mp) k i, (mloc m k i).map (·.2) = mfind m k
  | [], _, _ => rfl
  | (k', v') :: r, k, i => by
    rw [mloc, mfind]
    split
    · rfl
    · exact mloc_find r k (i+1)
theorem mloc_upd : ∀ (m : Mp) k i v, mupd m k v = match mloc m k i with | none => m ++ [(k, v)] | some (j, _) => m.modify (j - i) (fun _ => (k, v))
  | [], _, _, _ => rfl
  | (k', v') :: r, k, i, v => by
    rw [mupd, mloc]
    split
    · simp
    · have := mloc_upd r k (i+1) v
      rw [this]
      cases h : mloc r k (i+1) with
      | none => simp
      | some p =>
        obtain ⟨j, u⟩ := p
        have hj : ∀ (m : Mp) i j u, mloc m k i = some (j, u) → i ≤ j := by
          intro m
          induction m with
          | nil => intro i j u h; simp [mloc] at h
          | cons x m ih =>
            intro i j u h
            rw [mloc] at h
            split at h
            · cases h; exact Nat.le_refl _
            · have := ih (i+1) j u h; omega
        have := hj r (i+1) j u h
        simp only
        rw [show j - i = (j - (i+1)) + 1 by omega, List.modify_succ_cons]
theorem mloc_get : ∀ (m : Mp) k i j u, mloc m k i = some (j, u) → i ≤ j ∧ m[j - i]? = some (k, u)
  | [], k, i, j, u, h => by simp [mloc] at h
  | (k', v') :: r, k, i, j, u, h => by
    rw [mloc] at h
    split at h
    · rename_i e; subst e; cases h; exact ⟨Nat.le_refl _, by simp⟩
    · have := mloc_get r k (i+1) j u h
      refine ⟨by omega, ?_⟩
      rw [show j - i = (j - (i+1)) + 1 by omega]
      simpa using this.2
def IsMap (w : World) (r : Nat) (m : Mp) : Prop :=
  ∃ es clock, w.heap[r]? = some (.map es clock) ∧ es.toList.map (fun e => (e.key, e.val)) = m.map (fun p => (kv p.1, Value.int .i64 p.2)) ∧ ∀ p ∈ m, p.1.length = 4
section
variable {P : Program} {T K V e : TypeId} {i : TypeInfo} (ht : P.underlying T = some (.map K V)) (hu : P.underlying K = some (.array 4 e)) (he : P.underlying e = some (.int .u8)) (hi : P.info? e = some i) (hc : P.cellsOf e = 1)
  {iv : TypeInfo} (hv : P.info? V = some iv) (hvz : iv.zero = some (.int .i64 0)) (w : World)
include hu he hi hc in
theorem run_find (k : List UInt8) (hk : k.length = 4) : ∀ (es : List MapEntry) (m : Mp) (j : Nat), es.map (fun e => (e.key, e.val)) = m.map (fun p => (kv p.1, Value.int .i64 p.2)) → (∀ p ∈ m, p.1.length = 4) →
    (Instr.findAsking K (kv k) es j).run P w = .ok ((mloc m k j).map (fun p => (p.1, Value.int .i64 p.2))) w
  | [], [], j, _, _ => by simp [Instr.findAsking, mloc]
  | [], _ :: _, j, h, _ => by simp at h
  | _ :: _, [], j, h, _ => by simp at h
  | x :: es, (k', v') :: m, j, h, hm => by
    simp only [List.map_cons, List.cons.injEq, Prod.mk.injEq] at h
    obtain ⟨⟨h1, h2⟩, h3⟩ := h
    obtain ⟨a, b, c, d, rfl⟩ := four k hk
    obtain ⟨a', b', c', d', rfl⟩ := four k' (hm (k', v') (by simp))
    simp only [Instr.findAsking, Sem.run_bind, h1]
    have := run_equal_k4 hu he hi hc w a b c d a' b' c' d'
    rw [show kv [a, b, c, d] = k4 a b c d from rfl, show kv [a', b', c', d'] = k4 a' b' c' d' from rfl, this]
    simp only [Result.andThen_ok]
    rw [mloc]
    by_cases heq : a = a' ∧ b = b' ∧ c = c' ∧ d = d'
    · obtain ⟨rfl, rfl, rfl, rfl⟩ := heq
      simp [h2]
    · rw [if_neg (by simpa using heq), if_neg (by intro h; simp at h; exact heq ⟨h.1.symm, h.2.1.symm, h.2.2.1.symm, h.2.2.2.symm⟩)]
      exact run_find [a, b, c, d] hk es m (j+1) h3 (fun p hp => hm p (by simp [hp]))
include ht hu he hi hc hv hvz in
theorem run_lookup_k (r : Nat) (m : Mp) (hm : IsMap w r m) (k : List UInt8) (hk : k.length = 4) :
    (Instr.lookup T (.map (some r)) (kv k) true).run P w = .ok (.tuple #[.int .i64 ((mfind m k).getD 0), .bool (mfind m k).isSome]) w := by
  obtain ⟨es, clock, h1, h2, h3⟩ := hm
  have hf := run_find hu he hi hc w k hk es.toList m 0 h2 h3
  have hwide : (match P.underlying K with | some (.array _ _) | some (.struct _) => true | _ => false) = true := by rw [hu]
  have hfk := (run_findKey_eq (P := P) w hwide (kv k) es.toList).trans hf
  obtain ⟨a, b, c, d, rfl⟩ := four k hk
  have hck := run_check_k4 hu he hi hc w es.isEmpty a b c d
  have hml := mloc_find m [a, b, c, d] 0
  unfold Instr.lookup
  simp only [Sem.run_bind, run_underlying ht, Result.andThen_ok]
  have hgo : (getObj r).run P w = .ok (.map es clock) w := by simp [getObj, Sem.run, h1]
  rw [show kv [a, b, c, d] = k4 a b c d from rfl] at hfk ⊢
  simp only [hgo, Result.andThen_ok, Sem.run_pure, Sem.run_bind, hck, hfk]
  rw [← hml]
  cases mloc m [a, b, c, d] 0 with
  | none =>
    have hz : (zeroValue V).run P w = .ok (.int .i64 0) w := by simp [zeroValue, typeInfo, hv, hvz]
    simp [hz]
  | some p => simp
include ht hu he hi hc in
theorem run_update_k (r : Nat) (m : Mp) (hm : IsMap w r m) (k : List UInt8) (hk : k.length = 4) (v : Nat) :
    ∃ w', (Instr.mapUpdate T (.map (some r)) (kv k) (.int .i64 v)).run P w = .ok () w' ∧ IsMap w' r (mupd m k v) ∧ w.grownBy w' (some r) := by
  obtain ⟨es, clock, h1, h2, h3⟩ := hm
  have hf := run_find hu he hi hc w k hk es.toList m 0 h2 h3
  have hwide : (match P.underlying K with | some (.array _ _) | some (.struct _) => true | _ => false) = true := by rw [hu]
  have hfk := (run_findKey_eq (P := P) w hwide (kv k) es.toList).trans hf
  have hck : (Instr.checkKey false 10000 K (kv k)).run P w = .ok () w := by
    obtain ⟨a, b, c, d, rfl⟩ := four k hk
    exact run_check_k4 hu he hi hc w false a b c d
  have hml := mloc_upd m k 0 v
  have hgo : (getObj r).run P w = .ok (.map es clock) w := by simp [getObj, Sem.run, h1]
  have hgrow : ∀ o, w.grownBy { w with heap := w.heap.setIfInBounds r o } (some r) := fun o =>
    ⟨rfl, rfl, rfl, by simp, fun i hi hr => by
      show (w.heap.setIfInBounds r o)[i]? = _
      rw [Array.getElem?_setIfInBounds_ne (by intro e; exact hr (by rw [e]))]⟩
  have hset : ∀ o, (setObj r o).run P w = .ok () { w with heap := w.heap.setIfInBounds r o } := fun o => by simp [setObj, Sem.run, h1]
  have hlt : r < w.heap.size := (Array.getElem?_eq_some_iff.1 h1).1
  have hat : ∀ o, (w.heap.setIfInBounds r o)[r]? = some o := fun o => by simp [hlt]
  have hkin : ∀ p ∈ mupd m k v, p.1.length = 4 := fun p hp => by
    rcases mupd_mem m k v p hp with e | e
    · rw [e]; exact hk
    · exact h3 p e
  unfold Instr.mapUpdate
  simp only [Sem.run_bind, run_underlying ht, Result.andThen_ok, hgo, hck, hfk]
  cases hl : mloc m k 0 with
  | none =>
    rw [hl] at hml
    simp only [Option.map_none]
    refine ⟨_, hset _, ⟨_, _, hat _, ?_, hkin⟩, hgrow _⟩
    rw [hml]
    simp [h2]
  | some p =>
    obtain ⟨j, u⟩ := p
    rw [hl] at hml
    simp only [Option.map_some, Sem.run_bind]
    obtain ⟨_, hget⟩ := mloc_get m k 0 j u hl
    have hej : (es[j]?).map (fun e => (e.key, e.val)) = some (kv k, .int .i64 u) := by
      have := congrArg (fun l => l[j]?) h2
      simp only [List.getElem?_map, Array.getElem?_toList] at this
      rw [Nat.sub_zero] at hget
      rw [this, hget]; rfl
    obtain ⟨ej, hej1, hej2⟩ := Option.map_eq_some_iff.1 hej
    simp only [Prod.mk.injEq] at hej2
    have hsame : ∀ k : List UInt8, Instr.sameBits 10000 (kv k) (kv k) = true := by
      intro k
      show Instr.sameBits (9999 + 1) (kv k) (kv k) = true
      unfold kv
      simp only [Instr.sameBits, beq_self_eq_true, Bool.true_and]
      rw [List.all_eq_true]
      intro x hx
      have := List.of_mem_zip hx
      have hxx : x.1 = x.2 := by
        obtain ⟨n, hn1, hn2⟩ := List.getElem_of_mem hx
        rw [List.getElem_zip] at hn2
        rw [← hn2]
      obtain ⟨x1, x2⟩ := x
      simp only at hxx
      subst hxx
      simp at this
      obtain ⟨b, _, rfl⟩ := this
      simp [Instr.sameBits]
    have hkey : (Instr.keyThatStays (((es[j]?).map (·.key)).getD (kv k)) (kv k)).run P w = .ok (kv k) w := by
      rw [hej1]
      simp only [Option.map_some, Option.getD_some, hej2.1, Instr.keyThatStays, hsame, if_true, Sem.run_pure]
    rw [hkey]
    simp only [Result.andThen_ok]
    refine ⟨_, hset _, ⟨_, _, hat _, ?_, hkin⟩, hgrow _⟩
    rw [hml]
    simp only [Nat.sub_zero, Array.toList_modify]
    apply List.ext_getElem?
    intro n
    have hn := congrArg (fun l => l[n]?) h2
    simp only [List.getElem?_map, List.getElem?_modify] at hn ⊢
    by_cases hjn : j = n
    · subst hjn
      simp only [if_true]
      cases h5 : es.toList[j]? with
      | none => rw [h5] at hn; cases h6 : m[j]? with
        | none => simp
        | some y => rw [h6] at hn; simp at hn
      | some x => rw [h5] at hn; cases h6 : m[j]? with
        | none => rw [h6] at hn; simp at hn
        | some y => simp
    · simp only [hjn, if_false, id]
      simpa using hn
end
theorem IsMap.below {w w' : World} {r B : Nat} {m : Mp} (h : IsMap w r m) (hb : Below B w w') (hr : r < B) : IsMap w' r m := by
  obtain ⟨es, clock, h1, h2, h3⟩ := h
  exact ⟨es, clock, by rw [hb.block r hr]; exact h1, h2, h3⟩
end Go.Mx
namespace Go.Proofs.YtmcllcepoiakeaaGreat.Zx
open Go.RowKit Go.Mx Go.Lz
theorem added_rep (k q : Nat) (l : List UInt8) : l ++ [255] ++ (List.replicate k 255 ++ [UInt8.ofNat q]) = l ++ (List.replicate (k+1) 255 ++ [UInt8.ofNat q]) := by
  simp [List.replicate_succ]
theorem Tryz.info5 : (Tryz.prog.info? 5).map (fun i => (i.zero, i.size, i.bytes)) = some (some (.int .u8 0), 1, 1) := by kernel_rfl
set_option maxRecDepth 100000 in
theorem added_any (v : Value) (l : List UInt8) (n base : Nat) (w : World) (hown : OwnB w base 5 v l) (hB : base ≤ w.heap.size) (hl : l.length + n ≤ 100000000) :
    Calls Tryz.prog 307 #[v, .int .i64 n] w fun e w' => ∃ v', e = .returned v' ∧ OwnB w' base 5 v' (l ++ addedL n) ∧ Below base w w' := by
  by_cases hn : n < 15
  · have HA : Hid (l ++ addedL n = l) := by unfold Hid addedL; rw [if_pos hn]; simp
    go_enter Tryz.func307, Tryz.ntmps307
    go_wp2
    go_ret
    exact ⟨v, rfl, by rw [HA.out]; exact hown, Below.refl _ _⟩
  · have HA : Hid (l ++ addedL n = l ++ (List.replicate ((n - 15) / 255) 255 ++ [UInt8.ofNat ((n - 15) % 255)])) := by unfold Hid addedL; rw [if_neg hn]
    obtain ⟨T, hT⟩ : ∃ T, T = l ++ addedL n := ⟨_, rfl⟩
    rw [← hT] at HA ⊢
    clear hT
    go_enter Tryz.func307, Tryz.ntmps307
    go_wp2
    go_loopw [0, 1] (fun s m wr => ∃ (q : Nat) (l2 : List UInt8), OwnB wr base 5 s l2 ∧ m = .int .i64 q ∧ l2.length + q ≤ 100000000 ∧ Below base w wr ∧ Hid (T = l2 ++ (List.replicate (q / 255) 255 ++ [UInt8.ofNat (q % 255)])))
      (fun _ m _ => (intOf m).toNat)
    case atStart => exact ⟨n - 15, l, hown, by rw [show ((n - 15 : Nat) : Int) = (n : Int) - 15 by omega], by omega, Below.refl _ _, HA⟩
    case round =>
      obtain ⟨q, l2, ho, rfl, hl2, hb, HT⟩ := hrel
      have hz := hb.size
      by_cases hq : 255 ≤ q
      · go_wp2_with (at_builtin; refine append_byte _ rfl _ _ 26 5 rfl Tryz.underlying26 Tryz.info5 base _ l2 255 rfl (ho.alloc _) wr.heap.size 1 rfl (cell_alloc1 _ _ _) ?_ ?_ ?_)
        · omega
        · simp; omega
        intro v' w' ho' hbl
        have hb' := hb.trans (((Below.refl _ wr).alloc (by omega) _).trans hbl)
        clear hbl ho hb hz
        go_wp2
        go_roundw
        case rel => exact ⟨q - 255, _, ho', by rw [show ((q - 255 : Nat) : Int) = (q : Int) - 255 by omega], by simp; omega, hb', by
          rw [HT.out]; unfold Hid
          rw [added_rep, show (q - 255) / 255 + 1 = q / 255 by omega, show (q - 255) % 255 = q % 255 by omega]⟩
        case measure => simp [intOf]; omega
      · have HU : Hid (u8 (UInt8.ofNat q) = .int .u8 q) := by unfold Hid u8; congr 1; rw [UInt8.toNat_ofNat']; omega
        have hq2 : q / 255 = 0 := by omega
        have hq3 : q % 255 = q := by omega
        have hT := HT.out
        rw [hq2, hq3] at hT
        simp only [List.replicate_zero, List.nil_append] at hT
        have HT2 := hid hT
        clear hT HT hq2 hq3
        go_wp2_with (at_builtin; refine append_byte _ rfl _ _ 26 5 rfl Tryz.underlying26 Tryz.info5 base _ l2 (UInt8.ofNat q) rfl (ho.alloc _) wr.heap.size 1 rfl (by rw [HU.out]; exact cell_alloc1 _ _ _) ?_ ?_ ?_)
        · omega
        · simp; omega
        intro v' w' ho' hbl
        have hb' := hb.trans (((Below.refl _ wr).alloc (by omega) _).trans hbl)
        clear hbl ho hb hz
        go_wp2
        go_ret
        exact ⟨v', rfl, by rw [HT2.out]; exact ho', hb'⟩
theorem or16 (a b : Nat) (h1 : a < 16) (h2 : b < 16) : bits .or .i64 ((a : Int) * 16) (b : Int) = ((a * 16 + b : Nat) : Int) := by
  have e : ∀ n : Nat, n < 65536 → (BitVec.ofInt 64 (n:Int)).toNat = n := by
    intro n hn; simp [BitVec.toNat_ofInt]; omega
  have e2 : a * 16 ||| b = a * 16 + b := by
    have := Nat.shiftLeft_add_eq_or_of_lt (i := 4) (b := b) (by omega) a
    rw [Nat.shiftLeft_eq] at this
    exact this.symm
  rw [show (a : Int) * 16 = ((a * 16 : Nat) : Int) by simp]
  have e3 : (BitVec.ofInt 64 ((a * 16 : Nat) : Int) ||| BitVec.ofInt 64 (b : Int)).toNat = a * 16 + b := by
    rw [BitVec.toNat_or, e (a * 16) (by omega), e b (by omega), e2]
  show IntKind.i64.wrap ((BitVec.ofInt 64 ((a * 16 : Nat) : Int) ||| BitVec.ofInt 64 (b : Int)).toNat : Int) = _
  rw [e3]
  simp [IntKind.wrap, IntKind.bits, IntKind.signed]
  omega
theorem or_tok (X Y : Int) (l m : Nat) (hX : X = ((min l 15 : Nat) : Int) * 16) (hY : Y = ((min m 15 : Nat) : Int)) : bits .or .i64 X Y % 256 = ((tokL l m).toNat : Int) := by
  subst hX; subst hY
  rw [or16 _ _ (by omega) (by omega)]
  unfold tokL
  rw [UInt8.toNat_ofNat']
  omega
set_option maxRecDepth 100000 in
set_option maxHeartbeats 2000000 in
theorem seq_any (v pv : Value) (l plain : List UInt8) (far m base B : Nat) (w : World) (hown : OwnB w base 5 v l) (hp : SlB w B pv plain) (hBB : B ≤ base) (hB : base ≤ w.heap.size) (hl : l.length + plain.length + m ≤ 10000000) (hfar : far < 65536) :
    Calls Tryz.prog 298 #[v, pv, .int .i64 far, .int .i64 (m + 4 : Nat)] w fun e w' => ∃ v', e = .returned v' ∧ OwnB w' base 5 v' (l ++ seqL plain far m) ∧ Below base w w' := by
  have hlp := fun w => len_sl (P := Tryz.prog) Tryz.underlying26 (ty := 3) hp.choose_spec.choose_spec.1 w
  have hm0 : (((m : Int) + 4) == 0) = false := by rw [beq_eq_false_iff_ne]; omega
  rcases Nat.lt_or_ge 15 plain.length with h1 | h1 <;> rcases Nat.lt_or_ge 15 m with h2 | h2
  all_goals
    go_enter Tryz.func298, Tryz.ntmps298
    go_wp2_with (at_builtin; refine append_byte _ rfl _ _ 26 5 rfl Tryz.underlying26 Tryz.info5 base _ l (tokL plain.length m) rfl (hown.alloc _) w.heap.size 1 rfl (cell_u8 _ _ _ _ ?_) ?_ ?_ ?_)
    · exact or_tok _ _ _ _ (by omega) (by omega)
    · omega
    · simp; omega
    intro v1 w1 ho1 hbl1
    have hb1 := ((Below.refl base w).alloc hB _).trans hbl1
    have hz1 := hb1.size
    clear hbl1
    go_wp2_with fail
    refine (added_any v1 _ plain.length base _ ho1 (by omega) (by simp; omega)).mono ?_
    rintro e w2 ⟨v2, rfl, ho2, hbl2⟩
    have hb2 := hb1.trans hbl2
    have hz2 := hb2.size
    clear hbl2 ho1 hb1 hz1
    go_wp2_with (at_builtin; refine append_sl _ rfl _ _ 26 5 rfl Tryz.underlying26 Tryz.info5 base _ _ rfl ho2 _ plain B rfl (hp.below hb2 hBB) ?_ ?_ ?_)
    · simp [addedL_length]; split <;> omega
    · omega
    intro v3 w3 ho3 hbl3
    have hb3 := hb2.trans hbl3
    have hz3 := hb3.size
    clear hbl3 ho2 hb2 hz2
    go_wp2_with (at_builtin; refine append_sl _ rfl _ _ 26 5 rfl Tryz.underlying26 Tryz.info5 base _ _ rfl (ho3.alloc _) _ [UInt8.ofNat far, UInt8.ofNat (far / 256)] (w3.heap.size + 1) rfl (sl2 _ _ _ _ _ _ ?_ ?_) ?_ ?_ ?_)
    · rw [UInt8.toNat_ofNat']; omega
    · rw [UInt8.toNat_ofNat']; omega
    · simp [addedL_length]; split <;> omega
    · simp; omega
    intro v4 w4 ho4 hbl4
    have hb4 := (hb3.alloc (by omega) _).trans hbl4
    have hz4 := hb4.size
    clear hbl4 ho3 hb3 hz3
    go_wp2_with fail
    refine (added_any v4 _ m base _ ho4 (by omega) (by simp [addedL_length]; split <;> omega)).mono ?_
    rintro e w5 ⟨v5, rfl, ho5, hbl5⟩
    have hb5 := hb4.trans hbl5
    clear hbl5 ho4 hb4 hz4
    go_wp2
    go_ret
    exact ⟨v5, rfl, by simpa [seqL] using ho5, hb5⟩
set_option maxRecDepth 100000 in
set_option maxHeartbeats 2000000 in
theorem seq_end (v pv : Value) (l plain : List UInt8) (base B : Nat) (w : World) (hown : OwnB w base 5 v l) (hp : SlB w B pv plain) (hBB : B ≤ base) (hB : base ≤ w.heap.size) (hl : l.length + plain.length ≤ 10000000) :
    Calls Tryz.prog 298 #[v, pv, .int .i64 0, .int .i64 0] w fun e w' => ∃ v', e = .returned v' ∧ OwnB w' base 5 v' (l ++ tailL plain) ∧ Below base w w' := by
  have hlp := fun w => len_sl (P := Tryz.prog) Tryz.underlying26 (ty := 3) hp.choose_spec.choose_spec.1 w
  obtain ⟨tb, htb⟩ : ∃ tb, tb = UInt8.ofNat (min plain.length 15 * 16) := ⟨_, rfl⟩
  have HTB := hid htb
  clear htb
  rcases Nat.lt_or_ge 15 plain.length with h1 | h1
  all_goals
    go_enter Tryz.func298, Tryz.ntmps298
    go_wp2_with (at_builtin; refine append_byte _ rfl _ _ 26 5 rfl Tryz.underlying26 Tryz.info5 base _ l tb rfl (hown.alloc _) w.heap.size 1 rfl (cell_u8 _ _ _ _ ?_) ?_ ?_ ?_)
    · rw [HTB.out, UInt8.toNat_ofNat']; omega
    · omega
    · simp; omega
    intro v1 w1 ho1 hbl1
    have hb1 := ((Below.refl base w).alloc hB _).trans hbl1
    have hz1 := hb1.size
    clear hbl1
    go_wp2_with fail
    refine (added_any v1 _ plain.length base _ ho1 (by omega) (by simp; omega)).mono ?_
    rintro e w2 ⟨v2, rfl, ho2, hbl2⟩
    have hb2 := hb1.trans hbl2
    have hz2 := hb2.size
    clear hbl2 ho1 hb1 hz1
    go_wp2_with (at_builtin; refine append_sl _ rfl _ _ 26 5 rfl Tryz.underlying26 Tryz.info5 base _ _ rfl ho2 _ plain B rfl (hp.below hb2 hBB) ?_ ?_ ?_)
    · simp [addedL_length]; split <;> omega
    · omega
    intro v3 w3 ho3 hbl3
    have hb3 := hb2.trans hbl3
    clear hbl3 ho2 hb2 hz2
    have ho4 : OwnB w3 base 5 v3 (l ++ tailL plain) := by unfold tailL; rw [← HTB.out]; simpa only [List.append_assoc, List.cons_append, List.nil_append] using ho3
    clear ho3
    go_wp2
    go_ret
    exact ⟨v3, rfl, ho4, hb3⟩
end Go.Proofs.YtmcllcepoiakeaaGreat.Zx
