import Derived.Test.YtmcllcepoiakeaaGreatCA
import Derived.RangeFuncNested
import Derived.RangeFuncBound
import Derived.RangeFuncCalls
import Derived.RangeFuncLeaves
import Derived.Shelf.Abstract
import Derived.Shelf.RegionOpen
import Derived.WalkKit
import Derived.OwnWalkIn
import Derived.TacticsInMore
import Derived.LoopNIn
import Derived.LoopIn
import Derived.Maps.AppendAt
set_option linter.unusedSimpArgs false
set_option linter.unusedVariables false
namespace Go.Cnt
structure Ent where
  kind : Int
  start : Int
  count : Int
  size : Int
  sum : Int
deriving DecidableEq, Inhabited
def Ent.zero : Ent := ⟨0, 0, 0, 0, 0⟩
abbrev Tab := List (List Ent)
def getM (t : Tab) (i : Nat) : Ent := (t.getD (i / 8) []).getD (i % 8) Ent.zero
structure Lin where
  shot : Int
  cluster : Int
  e : Ent
deriving DecidableEq, Inhabited
def isR (e : Ent) : Bool := e.kind == 2 || e.kind == 3
/-- the lines of a table's first k places -/
def linesTo (sh : Int) (t : Tab) (k : Nat) : List Lin := ((List.range k).filter fun (i : Nat) => isR (getM t i)).map fun (i : Nat) => ⟨sh, (i : Int), getM t i⟩
def linesT (sh : Int) (t : Tab) : List Lin := linesTo sh t (t.length * 8)
theorem linesTo_hit (sh : Int) (t : Tab) (k : Nat) (h : isR (getM t k) = true) : linesTo sh t (k + 1) = linesTo sh t k ++ [⟨sh, (k : Int), getM t k⟩] := by
  unfold linesTo; rw [List.range_succ, List.filter_append, List.map_append]; simp [h]
theorem linesTo_miss (sh : Int) (t : Tab) (k : Nat) (h : isR (getM t k) = false) : linesTo sh t (k + 1) = linesTo sh t k := by
  unfold linesTo; rw [List.range_succ, List.filter_append, List.map_append]; simp [h]
theorem linesTo_len (sh : Int) (t : Tab) (k : Nat) : (linesTo sh t k).length ≤ k := by
  unfold linesTo; rw [List.length_map]
  exact Nat.le_trans (List.length_filter_le _ _) (by simp)
theorem linesTo_zero (sh : Int) (t : Tab) : linesTo sh t 0 = [] := rfl
theorem linesTo_prefix (sh : Int) (t : Tab) : ∀ d k, linesTo sh t k <+: linesTo sh t (k + d)
  | 0, k => List.prefix_refl _
  | d + 1, k => by
    refine (linesTo_prefix sh t d k).trans ?_
    cases h : isR (getM t (k + d))
    · rw [← Nat.add_assoc, linesTo_miss _ _ _ h]; exact List.prefix_refl _
    · rw [← Nat.add_assoc, linesTo_hit _ _ _ h]; exact List.prefix_append _ _
theorem linesT_len (sh : Int) (t : Tab) : (linesT sh t).length ≤ t.length * 8 := linesTo_len _ _ _
structure ShotM where
  name : List UInt8
  size : Int
  t : Tab
deriving Inhabited
def eachTo (t : Tab) (ss : List ShotM) (k : Nat) : List Lin := linesT (-1) t ++ (List.range k).flatMap fun (i : Nat) => linesT (i : Int) (ss.getD i default).t
def eachM (t : Tab) (ss : List ShotM) : List Lin := eachTo t ss ss.length
theorem eachTo_zero (t : Tab) (ss : List ShotM) : eachTo t ss 0 = linesT (-1) t := by unfold eachTo; simp
theorem eachTo_succ (t : Tab) (ss : List ShotM) (k : Nat) : eachTo t ss (k + 1) = eachTo t ss k ++ linesT (k : Int) (ss.getD k default).t := by
  unfold eachTo; rw [List.range_succ, List.flatMap_append, ← List.append_assoc]; simp
theorem eachTo_len (t : Tab) (ss : List ShotM) (M : Nat) (h0 : t.length ≤ M) (h : ∀ i, i < ss.length → (ss.getD i default).t.length ≤ M) : ∀ k, k ≤ ss.length → (eachTo t ss k).length ≤ (k + 1) * (M * 8)
  | 0, _ => by rw [eachTo_zero]; have := linesT_len (-1) t; omega
  | k + 1, hk => by
    rw [eachTo_succ, List.length_append]
    have h1 := eachTo_len t ss M h0 h k (by omega)
    have h2 := linesT_len (k : Int) (ss.getD k default).t
    have h3 := h k (by omega)
    have h4 : (k + 1 + 1) * (M * 8) = (k + 1) * (M * 8) + M * 8 := by rw [Nat.succ_mul]
    omega
/-- does an entry stand upon sector i? -/
def cov (e : Ent) (i : Nat) : Bool := decide (e.start ≤ (i : Int)) && decide ((i : Int) < e.start + e.count)
def cntK (ls : List Lin) (k i : Nat) : Int := (if i < 2 then 1 else 0) + (((ls.take k).filter fun x => cov x.e i).length : Int)
def cnt (ls : List Lin) (i : Nat) : Int := cntK ls ls.length i
def ofM (ls : List Lin) (size : Int) : List Int := if size < 0 ∨ size > 65536 then [] else (List.range size.toNat).map fun (i : Nat) => cnt ls i
theorem cntK_zero (ls : List Lin) (i : Nat) : cntK ls 0 i = if i < 2 then 1 else 0 := by unfold cntK; simp
theorem cntK_succ (ls : List Lin) (k i : Nat) (hk : k < ls.length) : cntK ls (k + 1) i = cntK ls k i + if cov (ls.getD k default).e i = true then 1 else 0 := by
  unfold cntK
  have e : ls.take (k + 1) = ls.take k ++ [ls.getD k default] := by
    rw [List.take_add_one, List.getElem?_eq_getElem hk, List.getD_eq_getElem?_getD, List.getElem?_eq_getElem hk]; rfl
  rw [e, List.filter_append, List.length_append]
  cases h : cov (ls.getD k default).e i
  · rw [List.filter_cons_of_neg (p := fun x : Lin => cov x.e i) (by rw [h]; decide)]; simp
  · rw [List.filter_cons_of_pos (p := fun x : Lin => cov x.e i) h]; simp; omega
theorem cntK_bd (ls : List Lin) (k i : Nat) : 0 ≤ cntK ls k i ∧ cntK ls k i ≤ 1 + ls.length := by
  unfold cntK
  have h := List.length_filter_le (fun x : Lin => cov x.e i) (ls.take k)
  have h2 : (ls.take k).length ≤ ls.length := by simp; omega
  split <;> omega
theorem cov_iff (e : Ent) (i : Nat) : cov e i = true ↔ e.start ≤ (i : Int) ∧ (i : Int) < e.start + e.count := by unfold cov; simp
theorem cov_nat (e : Ent) (s c i : Nat) (hs : e.start = s) (hc : e.count = c) : cov e i = true ↔ s ≤ i ∧ i < s + c := by rw [cov_iff, hs, hc]; omega
/-- l reads as f below n -/
def Reads (l : List Int) (n : Nat) (f : Nat → Int) : Prop := l.length = n ∧ ∀ i, i < n → l.getD i 0 = f i
theorem Reads.set {l : List Int} {n : Nat} {f g : Nat → Int} (h : Reads l n f) (j : Nat) (x : Int) (hx : g j = x) (hg : ∀ i, i < n → i ≠ j → g i = f i) : Reads (l.set j x) n g := by
  obtain ⟨h1, h2⟩ := h
  refine ⟨by simp [h1], fun i hi => ?_⟩
  by_cases e : j = i
  · subst e; rw [hx]; simp [List.getD_eq_getElem?_getD, List.getElem?_set_self (show j < l.length by omega)]
  · rw [hg i hi (fun h => e h.symm), ← h2 i hi]; simp [List.getD_eq_getElem?_getD, List.getElem?_set_ne e]
theorem Reads.mono {l : List Int} {n : Nat} {f g : Nat → Int} (h : Reads l n f) (hg : ∀ i, i < n → g i = f i) : Reads l n g := ⟨h.1, fun i hi => by rw [hg i hi]; exact h.2 i hi⟩
theorem Reads.eq {l : List Int} {n : Nat} {f : Nat → Int} (h : Reads l n f) : l = (List.range n).map fun i => f i := by
  apply List.ext_getElem
  · simp [h.1]
  · intro i h1 h2
    have := h.2 i (by rw [← h.1]; exact h1)
    rw [List.getD_eq_getElem?_getD, List.getElem?_eq_getElem h1] at this
    simpa using this
theorem Reads.noughts (n : Nat) : Reads (List.replicate n 0) n (fun _ => 0) := ⟨by simp, fun i hi => by simp [List.getD_eq_getElem?_getD, List.getElem?_replicate, hi]⟩
/-- an entry that a right table may hold -/
def GoodE (e : Ent) : Prop := 2 ≤ e.start ∧ 1 ≤ e.count ∧ e.start + e.count ≤ 65536
end Go.Cnt
namespace Go.Proofs.YtmcllcepoiakeaaGreat.Cx
open Go.RowKit Go.Mx Go.Cnt
def entC (e : Ent) : List Value := [.int .i64 e.kind, .int .i64 e.start, .int .i64 e.count, .int .i64 e.size, .int .u32 e.sum]
def entV (e : Ent) : Value := .agg #[.int .i64 e.kind, .int .i64 e.start, .int .i64 e.count, .int .i64 e.size, .int .u32 e.sum]
/-- a slice of entries -/
def SlE (w : World) (B : Nat) (v : Value) (l : List Ent) : Prop := SlG w B 5 v (l.map entC)
/-- a table's slice of leaves -/
def IsTab (w : World) (B : Nat) (tv : Value) (t : Tab) : Prop :=
  ∃ lvs : List Value, lvs.length = t.length ∧ SlG w B 1 tv (lvs.map fun v => [v]) ∧ ∀ i, i < t.length → SlE w B (lvs.getD i undef) (t.getD i [])
theorem IsTab.below {w w' : World} {B B' : Nat} {v : Value} {t : Tab} (h : IsTab w B v t) (hb : Below B' w w') (hB : B ≤ B') : IsTab w' B v t := by
  obtain ⟨lvs, h1, h2, h3⟩ := h
  exact ⟨lvs, h1, h2.below hb hB, fun i hi => SlG.below (h3 i hi) hb hB⟩
theorem IsTab.mono {w : World} {B B' : Nat} {v : Value} {t : Tab} (h : IsTab w B v t) (hB : B ≤ B') : IsTab w B' v t := by
  obtain ⟨lvs, h1, h2, h3⟩ := h
  exact ⟨lvs, h1, h2.mono hB, fun i hi => SlG.mono (h3 i hi) hB⟩
theorem sizeL (w : World) : (sizeOf 288).run Tryz.prog w = .ok 1 w := by kernel_rfl
theorem sizeE (w : World) : (sizeOf 187).run Tryz.prog w = .ok 5 w := by kernel_rfl
theorem IsTab.len {w : World} {B : Nat} {v : Value} {t : Tab} (h : IsTab w B v t) (w' : World) {ty : TypeId} : (Builtin.len_ #[88] ty #[v]).run Tryz.prog w' = .ok (.int .i64 t.length) w' := by
  obtain ⟨lvs, h1, h2, h3⟩ := h
  have := h2.len (P := Tryz.prog) (ty := ty) Tryz.underlying88 w'
  rwa [List.length_map, h1] at this
theorem IsTab.leaf {w : World} {B : Nat} {v : Value} {t : Tab} (h : IsTab w B v t) (i : Nat) (hi : i < t.length) :
    ∃ b o lv, b < B ∧ (∀ w' (k : IntKind), (Instr.indexAt 88 v (.int k (i : Int))).run Tryz.prog w' = .ok (.pointer (some ⟨b, o, none⟩)) w') ∧ w.cell? ⟨b, o, none⟩ = some lv ∧ SlE w B lv (t.getD i []) := by
  obtain ⟨lvs, h1, h2, h3⟩ := h
  obtain ⟨b, o, hb, hia, hc⟩ := h2.addr (P := Tryz.prog) Tryz.underlying88 sizeL i (by simpa [h1] using hi)
  refine ⟨b, o, lvs.getD i undef, hb, hia, ?_, h3 i hi⟩
  refine hc 0 _ ?_
  simp [List.getD_eq_getElem?_getD, List.getElem?_map, List.getElem?_eq_getElem (show i < lvs.length by omega)]
theorem SlE.len {w : World} {B : Nat} {v : Value} {l : List Ent} (h : SlE w B v l) (w' : World) {ty : TypeId} : (Builtin.len_ #[288] ty #[v]).run Tryz.prog w' = .ok (.int .i64 l.length) w' := by
  have := SlG.len (P := Tryz.prog) (ty := ty) h Tryz.underlying288 w'
  rwa [List.length_map] at this
theorem SlE.at {w : World} {B : Nat} {v : Value} {l : List Ent} (h : SlE w B v l) (i : Nat) (hi : i < l.length) :
    ∃ b o, b < B ∧ (∀ w' (k : IntKind), (Instr.indexAt 288 v (.int k (i : Int))).run Tryz.prog w' = .ok (.pointer (some ⟨b, o, none⟩)) w') ∧
      w.cell? ⟨b, o, none⟩ = some (.int .i64 (l.getD i .zero).kind) ∧ w.cell? ⟨b, o + 1, none⟩ = some (.int .i64 (l.getD i .zero).start) ∧ w.cell? ⟨b, o + 2, none⟩ = some (.int .i64 (l.getD i .zero).count) ∧
      w.cell? ⟨b, o + 3, none⟩ = some (.int .i64 (l.getD i .zero).size) ∧ w.cell? ⟨b, o + 4, none⟩ = some (.int .u32 (l.getD i .zero).sum) := by
  obtain ⟨b, o, hb, hia, hc⟩ := SlG.addr (P := Tryz.prog) h Tryz.underlying288 sizeE i (by simpa using hi)
  have e : (l.map entC).getD i [] = entC (l.getD i .zero) := by
    simp [List.getD_eq_getElem?_getD, List.getElem?_map, List.getElem?_eq_getElem hi]
  rw [e] at hc
  exact ⟨b, o, hb, hia, hc 0 _ rfl, hc 1 _ rfl, hc 2 _ rfl, hc 3 _ rfl, hc 4 _ rfl⟩
set_option maxRecDepth 100000 in
set_option maxHeartbeats 1000000 in
theorem get_any (t : Tab) (tv : Value) (i : Nat) (w : World) (ht : IsTab w w.heap.size tv t) (hi : i < t.length * 8) (hl : t.length ≤ 1000000) :
    Calls Tryz.prog 151 #[.agg #[tv], .int .i64 i] w fun e w' => e = .returned (entV (getM t i)) ∧ Below w.heap.size w w' := by
  have hlen := fun w' => ht.len w' (ty := 3)
  obtain ⟨b, o, lv, hb, hia, hc, hlv⟩ := ht.leaf (i / 8) (by omega)
  have hll := fun w' => hlv.len w' (ty := 3)
  obtain ⟨l, hL⟩ : ∃ l, l = t.getD (i / 8) [] := ⟨_, rfl⟩
  have HG : Hid (getM t i = l.getD (i % 8) .zero) := by unfold Hid getM; rw [hL]
  rw [← hL] at hlv hll
  clear hL
  rw [show ((i / 8 : Nat) : Int) = (i : Int) / 8 by omega] at hia
  have hi1 : 0 ≤ (i : Int) / 8 := by omega
  have hi2 : (i : Int) / 8 < (t.length : Int) := by omega
  have hd1 : decide ((i : Int) < 0) = false := by simp
  have hd2 : decide ((t.length : Int) ≤ (i : Int) / 8) = false := by simp; omega
  by_cases hk : i % 8 < l.length
  · obtain ⟨b2, o2, hb2, hia2, hc0, hc1, hc2, hc3, hc4⟩ := hlv.at (i % 8) hk
    rw [← HG.out] at hc0 hc1 hc2 hc3 hc4
    rw [show ((i % 8 : Nat) : Int) = (i : Int) % 8 by omega] at hia2
    have hd3 : decide ((l.length : Int) ≤ (i : Int) % 8) = false := by simp; omega
    obtain ⟨e, he⟩ : ∃ e, e = getM t i := ⟨_, rfl⟩
    rw [← he] at hc0 hc1 hc2 hc3 hc4 ⊢
    clear HG he
    go_enter Tryz.func151, Tryz.ntmps151
    go_wp2_with fail
    exact bodyPost_ret (v := entV e) (by simp [results, Tryz.results151, entV, go_sem]) rfl ⟨rfl, ((Below.refl _ _).alloc (Nat.le_refl _) _).alloc (by simp) _⟩
  · have hd3 : decide ((l.length : Int) ≤ (i : Int) % 8) = true := by simp; omega
    have HG2 : Hid (getM t i = .zero) := by unfold Hid; rw [HG.out, List.getD_eq_getElem?_getD, List.getElem?_eq_none (by omega)]; rfl
    go_enter Tryz.func151, Tryz.ntmps151
    go_wp2_with fail
    exact bodyPost_ret (v := entV (getM t i)) (by rw [HG2.out]; simp [results, Tryz.results151, entV, Ent.zero, go_sem]) rfl ⟨rfl, ((Below.refl _ _).alloc (Nat.le_refl _) _).alloc (by simp) _⟩
open Go.RowKit Go.Mx Go.Cnt Go.Shelf
attribute [local go_sem] Oper.semAt_some
def linV (x : Lin) : Value := .agg #[.int .i64 x.shot, .int .i64 x.cluster, .int .i64 x.e.kind, .int .i64 x.e.start, .int .i64 x.e.count, .int .i64 x.e.size, .int .u32 x.e.sum]
/-- what a round keeps: whatever lay below n₀, and these blocks -/
def KpA (n₀ : Nat) (bs : List Nat) (A B : World) : Prop := Below n₀ A B ∧ ∀ b ∈ bs, B.heap[b]? = A.heap[b]?
theorem KpA.refl (n₀ : Nat) (bs : List Nat) (A : World) : KpA n₀ bs A A := ⟨Below.refl _ _, fun _ _ => rfl⟩
theorem KpA.trans {n₀ : Nat} {bs : List Nat} {A B C : World} (h : KpA n₀ bs A B) (k : KpA n₀ bs B C) : KpA n₀ bs A C := ⟨h.1.trans k.1, fun b hb => (k.2 b hb).trans (h.2 b hb)⟩
theorem cell_heap {A B : World} {b o : Nat} (h : B.heap[b]? = A.heap[b]?) : B.cell? ⟨b, o, none⟩ = A.cell? ⟨b, o, none⟩ := by unfold World.cell?; simp only [h]
theorem KpA.of_below {n₀ n₁ : Nat} {bs : List Nat} {A B : World} (h : Below n₁ A B) (hn : n₀ ≤ n₁) (hb : ∀ b ∈ bs, b < n₁) : KpA n₀ bs A B := ⟨h.mono hn, fun b hm => h.block b (hb b hm)⟩
theorem grown_of_below {w w' : World} (h : Below w.heap.size w w') : w.grownBy w' none := ⟨h.os, h.tape, h.output, h.size, fun i hi _ => h.block i hi⟩
set_option maxRecDepth 100000 in
set_option maxHeartbeats 2000000 in
theorem one1_in (n : Nat) (hn : 1 ≤ n) (l Bt Bs n₀ : Nat) (sh : Int) (tv : Value) (t : Tab) (J Jx : List Lin → World → Prop) (hl : t.length ≤ 1000000)
    (hY : ∀ pre x W, J pre W → pre.length < t.length * 8 → YieldAt Fence.wide (n - 1) Tryz.prog l #[linV x] W fun e W' =>
      (e = .returned (.bool true) ∧ J (pre ++ [x]) W' ∧ KpA n₀ [Bt, Bs] W W') ∨ (e = .returned (.bool false) ∧ Jx (pre ++ [x]) W'))
    (W : World) (hJ : AbidesFrom W.heap.size J) (hBt : W.cell? ⟨Bt, 0, none⟩ = some tv) (hBs : W.cell? ⟨Bs, 0, none⟩ = some (.int .i64 sh)) (hbt : Bt < W.heap.size) (hbs : Bs < W.heap.size) (hn₀ : n₀ ≤ W.heap.size) (ht : IsTab W n₀ tv t) (h0 : J [] W) :
    CallsIn Fence.wide n Tryz.prog 245 #[.func (.yield l) #[] #[], .pointer (some ⟨Bt, 0, none⟩), .pointer (some ⟨Bs, 0, none⟩)] W fun e W' => (∃ v, e = .returned v) ∧
      ((∃ ys, ys = linesT sh t ∧ J ys W') ∨ (∃ pre, pre <+: linesT sh t ∧ Jx pre W')) := by
  have hlen := fun w' => ht.len w' (ty := 3)
  refine callsIn_of_wp Tryz.func245 rfl trivial ?_ rfl
  simp only [Tryz.ntmps245, List.size_toArray, List.length_cons, List.length_nil, Nat.reduceAdd, Nat.reduceSub, Array.replicate_succ, Array.replicate_zero, List.push_toArray, List.append_toArray, List.nil_append, List.cons_append]
  gi_wp2
  gi_loopw [10] (fun i wr => ∃ k : Nat, k ≤ t.length * 8 ∧ i = .int .i64 k ∧ J (linesTo sh t k) wr ∧ KpA n₀ [Bt, Bs] W wr ∧ W.heap.size ≤ wr.heap.size)
    (fun i _ => t.length * 8 - (intOf i).toNat)
  case atStart => exact ⟨0, Nat.zero_le _, rfl, h0, KpA.refl _ _ _, Nat.le_refl _⟩
  case round =>
    obtain ⟨k, hk, rfl, hJs, hbel, hsz⟩ := hrel
    have hBt' : wr.cell? ⟨Bt, 0, none⟩ = some tv := (cell_heap (hbel.2 Bt (by simp))).trans hBt
    have hBs' : wr.cell? ⟨Bs, 0, none⟩ = some (.int .i64 sh) := (cell_heap (hbel.2 Bs (by simp))).trans hBs
    by_cases hlt : k < t.length * 8
    · have ht' := (ht.below hbel.1 (Nat.le_refl _)).mono (show n₀ ≤ wr.heap.size by omega)
      clear hlen
      have hget := get_any t tv k wr ht' hlt hl
      have hhit' := linesTo_hit sh t k
      have hmiss' := linesTo_miss sh t k
      have hpre := hid (show linesTo sh t (k + 1) <+: linesT sh t by
        unfold linesT; have := linesTo_prefix sh t (t.length * 8 - (k + 1)) (k + 1); rwa [show k + 1 + (t.length * 8 - (k + 1)) = t.length * 8 by omega] at this)
      have hplen : (linesTo sh t k).length < t.length * 8 := by have := linesTo_len sh t k; omega
      obtain ⟨E, hE⟩ : ∃ E, E = getM t k := ⟨_, rfl⟩
      rw [← hE] at hget hhit' hmiss'
      have HG := hid hget
      have HBS := hid hBs'
      clear hE hget hBs' ht'
      have hg : ∀ w', Below wr.heap.size wr w' → J (linesTo sh t k) w' := fun w' h => hJ _ wr w' none hJs (grown_of_below h) (fun r e => by cases e)
      by_cases h2 : E.kind = 2
      · have hk2 : (E.kind == 2) = true := by simp [h2]
        have hhit := hid (hhit' (by unfold isR; rw [hk2]; rfl))
        clear h2 hhit' hmiss'
        gi_wp2_with fail
        refine ⟨trivial, ?_⟩
        gi_at_call 151
        refine (callsIn_wide.2 HG.out).mono ?_
        rintro e w40 ⟨rfl, hb40⟩
        simp only [entV]
        have hz40 := hb40.size
        have hbs2 : Bs < w40.heap.size := by omega
        have hBs40 := (hb40.cell (p := ⟨Bs, 0, none⟩) (show Bs < wr.heap.size by omega)).trans HBS.out
        have hb41 := hb40.alloc hz40 (.cells #[.int .i64 E.kind, .int .i64 E.start, .int .i64 E.count, .int .i64 E.size, .int .u32 E.sum] 187)
        obtain ⟨fn, tmps, assign, body, hy, hR2⟩ := hY _ (⟨sh, (k : Int), E⟩ : Lin) _ (hg _ hb41) hplen
        simp only [linV] at hy
        gi_wp2
        refine hR2.mono ?_
        rintro e W3 (⟨rfl, hJ3, hk3⟩ | ⟨rfl, hJx3⟩)
        · have hsz3 := hk3.1.size
          rw [World.size_alloc] at hsz3
          gi_wp2
          go_roundw
          case rel => exact ⟨k + 1, by omega, by go_num, by rw [hhit.out]; exact hJ3, (hbel.trans (KpA.of_below hb41 (by omega) (by simp; omega))).trans hk3, by omega⟩
          case measure => simp [intOf]; omega
        · gi_wp2
          refine bodyPost_ret (results_none rfl _ _ _) rfl ?_
          exact ⟨⟨_, rfl⟩, .inr ⟨_, by rw [← hhit.out]; exact hpre.out, hJx3⟩⟩
      have hk2 : (E.kind == 2) = false := by simp [h2]
      by_cases h3 : E.kind = 3
      · have hk3 : (E.kind == 3) = true := by simp [h3]
        have hhit := hid (hhit' (by unfold isR; rw [hk3]; simp))
        clear h2 h3 hhit' hmiss'
        gi_wp2_with fail
        refine ⟨trivial, ?_⟩
        gi_at_call 151
        refine (callsIn_wide.2 HG.out).mono ?_
        rintro e w40 ⟨rfl, hb40⟩
        simp only [entV]
        have hz40 := hb40.size
        have hbs2 : Bs < w40.heap.size := by omega
        have hBs40 := (hb40.cell (p := ⟨Bs, 0, none⟩) (show Bs < wr.heap.size by omega)).trans HBS.out
        have hb41 := hb40.alloc hz40 (.cells #[.int .i64 E.kind, .int .i64 E.start, .int .i64 E.count, .int .i64 E.size, .int .u32 E.sum] 187)
        obtain ⟨fn, tmps, assign, body, hy, hR2⟩ := hY _ (⟨sh, (k : Int), E⟩ : Lin) _ (hg _ hb41) hplen
        simp only [linV] at hy
        gi_wp2
        refine hR2.mono ?_
        rintro e W3 (⟨rfl, hJ3, hk3⟩ | ⟨rfl, hJx3⟩)
        · have hsz3 := hk3.1.size
          rw [World.size_alloc] at hsz3
          gi_wp2
          go_roundw
          case rel => exact ⟨k + 1, by omega, by go_num, by rw [hhit.out]; exact hJ3, (hbel.trans (KpA.of_below hb41 (by omega) (by simp; omega))).trans hk3, by omega⟩
          case measure => simp [intOf]; omega
        · gi_wp2
          refine bodyPost_ret (results_none rfl _ _ _) rfl ?_
          exact ⟨⟨_, rfl⟩, .inr ⟨_, by rw [← hhit.out]; exact hpre.out, hJx3⟩⟩
      · have hk3 : (E.kind == 3) = false := by simp [h3]
        have hmiss := hid (hmiss' (by unfold isR; rw [hk2, hk3]; rfl))
        clear h2 h3 hhit' hmiss'
        gi_wp2_with fail
        refine ⟨trivial, ?_⟩
        gi_at_call 151
        refine (callsIn_wide.2 HG.out).mono ?_
        rintro e w40 ⟨rfl, hb40⟩
        simp only [entV]
        have hz40 := hb40.size
        have hb41 := hb40.alloc hz40 (.cells #[.int .i64 E.kind, .int .i64 E.start, .int .i64 E.count, .int .i64 E.size, .int .u32 E.sum] 187)
        gi_wp2
        refine ⟨fun _ h => (by cases h), ?_⟩
        gi_wp2
        go_roundw
        case rel => exact ⟨k + 1, by omega, by go_num, by rw [hmiss.out]; exact hg _ hb41, hbel.trans (KpA.of_below hb41 (by omega) (by simp; omega)), by simp; omega⟩
        case measure => simp [intOf]; omega
    · obtain rfl : k = t.length * 8 := by omega
      gi_wp2
      go_end0
      exact ⟨⟨_, rfl⟩, .inl ⟨_, rfl, hJs⟩⟩
open Go.RowKit Go.Mx Go.Cnt Go.Shelf
attribute [local go_sem] Oper.semAt_some
def linC (x : Lin) : List Value := [.int .i64 x.shot, .int .i64 x.cluster, .int .i64 x.e.kind, .int .i64 x.e.start, .int .i64 x.e.count, .int .i64 x.e.size, .int .u32 x.e.sum]
theorem Tryz.info219 : (Tryz.prog.info? 219).map (fun i => (i.zero, i.size, i.bytes)) = some (some (.agg #[.int .i64 0, .int .i64 0, .int .i64 0, .int .i64 0, .int .i64 0, .int .i64 0, .int .u32 0]), 7, 56) := by kernel_rfl
/-- these blocks hold cells of another type than lines -/
def Other (bs : List Nat) (w : World) : Prop := ∀ b ∈ bs, ∃ c t fr, w.heap[b]? = some (.cells c t fr) ∧ t ≠ 219
theorem Other.lt {bs : List Nat} {w : World} (h : Other bs w) : ∀ b ∈ bs, b < w.heap.size := fun b hb => by
  obtain ⟨c, t, fr, hc, _⟩ := h b hb
  exact (Array.getElem?_eq_some_iff.1 hc).1
theorem Other.not_row {bs : List Nat} {w : World} (h : Other bs w) {base size k : Nat} {v : Value} {xs : List Value} (hr : w.ownsRow base 219 size v k xs) : ∀ b ∈ bs, some b ≠ v.ownBlock := by
  intro b hb
  obtain ⟨c, t, fr, hc, ht⟩ := h b hb
  rcases hr.2 with ⟨rfl, _⟩ | ⟨g, cap, cur, rfl, _, hgb, _⟩
  · simp [Value.ownBlock]
  · intro e'
    obtain rfl : b = g := by simpa [Value.ownBlock] using e'
    rw [hc] at hgb
    simp at hgb
    exact ht hgb.2.1
/-- the blocks lie as they lay: it abides -/
theorem ownFrom_heap {β : Type} {B : Nat} {w₀ : World} {bs : List Nat} (hb : ∀ b ∈ bs, b < B ∧ b < w₀.heap.size) : OwnFrom B (fun (_ : β) W => ∀ b ∈ bs, W.heap[b]? = w₀.heap[b]?) := by
  intro s X Y row hs hg hr b hm
  have h1 := hs b hm
  have hlt : b < X.heap.size := by
    have := (hb b hm).2
    rw [Array.getElem?_eq_getElem this] at h1
    exact (Array.getElem?_eq_some_iff.1 h1).1
  refine (hg.block b hlt (fun e => ?_)).trans h1
  have := (hr b e.symm).1
  have := (hb b hm).1
  omega
theorem KpA.putObj {n₀ : Nat} {bs : List Nat} {w : World} (hn : n₀ ≤ w.heap.size) (hb : ∀ b ∈ bs, b < w.heap.size) (W : World) (l : Nat) (o o' : Obj) (hl : w.heap.size ≤ l) (h : W.heap[l]? = some o) (h1 : o.isCells = false) (h2 : o.isWalk = false) : KpA n₀ bs W (W.putObj l o') :=
  ⟨belowK_b hn W l o o' hl h h1 h2, fun b hm => World.putObj_heap_other (by have := hb b hm; omega)⟩
set_option maxRecDepth 100000 in
set_option maxHeartbeats 4000000 in
theorem appendSeq_in (n : Nat) (hn : 3 ≤ n) (bs : List Nat) (base n₀ : Nat) (hnb : n₀ ≤ base) (gf : Nat) (lb : Array Value) (eg : ∀ args w, (callFunc gf args).run Tryz.prog w = .ok (.enter gf args) w)
    (S : List Lin → Prop) (Sp : List Lin → Prop) (N K : Nat) (hN : (K + N) * 56 ≤ 140737488355328) (sv : Value) (xs : List Value) (w : World) (hrow : w.ownsRow base 219 7 sv K xs) (hob : Other bs w) (hbw : base ≤ w.heap.size)
    (hseq : SeqStopsK Fence.wide (n - 1) Tryz.prog gf lb (fun x : Lin => #[linV x]) (KpA n₀ bs) S Sp N w) :
    CallsIn Fence.wide n Tryz.prog 202 #[sv, .func (.func gf) #[] lb] w fun e w' => ∃ (v : Value) (ys : List Lin), e = .returned v ∧ S ys ∧ w'.ownsRow base 219 7 v (K + ys.length) (xs ++ ys.flatMap linC) ∧ Below base w w' := by
  have h1 : 1 ≤ n := by omega
  obtain ⟨i0, hi, hz0, hz1, hz2⟩ := info_parts Tryz.info219
  obtain ⟨sa, sn, sc, rfl⟩ : ∃ sa sn sc, sv = .slice sa sn sc := by
    rcases hrow.2 with ⟨rfl, _⟩ | ⟨g, cap, cur, rfl, _⟩ <;> exact ⟨_, _, _, rfl⟩
  refine callsIn_of_wp_marks Tryz.func202 rfl trivial ?_ rfl
  simp only [Tryz.ntmps202, List.size_toArray, List.length_cons, List.length_nil, Nat.reduceAdd, Nat.reduceSub, Array.replicate_succ, Array.replicate_zero, List.push_toArray, List.append_toArray, List.nil_append, List.cons_append]
  gi_wp2
  have bO := Boxed.new w 216 (.slice sa sn sc)
  have hB0 : Below base w (w.alloc (.cells #[.slice sa sn sc] 216)) := (Below.refl _ w).alloc hbw _
  have hrow0 := hrow.alloc (.cells #[.slice sa sn sc] 216)
  have hlt := hob.lt
  have hk0 : ∀ b ∈ bs, (w.alloc (.cells #[.slice sa sn sc] 216)).heap[b]? = w.heap[b]? := fun b hb => Below.heap_alloc w _ b (hlt b hb)
  have hs0 : (w.alloc (.cells #[.slice sa sn sc] 216)).heap.size = w.heap.size + 1 := by simp
  obtain ⟨w0, hw0⟩ : ∃ w0, w.alloc (.cells #[.slice sa sn sc] 216) = w0 := ⟨_, rfl⟩
  rw [hw0] at bO hB0 hrow0 hk0 hs0 ⊢
  have hbb : Below w.heap.size w w0 := by rw [← hw0]; exact (Below.refl _ w).alloc (Nat.le_refl _) _
  clear hw0
  refine wpIn_rangeFunc_ownH rfl h1 (gf := gf) (lb := lb) rfl trivial eg hseq KpA.trans (KpA.putObj (by omega) (fun b hb => by have := hlt b hb; omega)) hbb (fun _ => rfl)
    (fun pre W => (∃ v, Boxed W w.heap.size 216 v ∧ W.ownsRow base 219 7 v (K + pre.length) (xs ++ pre.flatMap linC) ∧ True) ∧ (∀ b ∈ bs, W.heap[b]? = w.heap[b]?) ∧ Below base w W)
    (fun _ _ _ => False)
    (OwnFrom.and (Own.from (holdsRow_own base w.heap.size 216 219 7 (fun pre : List Lin => K + pre.length) (fun pre => xs ++ pre.flatMap linC) (fun _ _ => True)) _) (OwnFrom.and (ownFrom_heap (fun b hb => ⟨by have := hlt b hb; omega, hlt b hb⟩)) (ownFrom_below hbw (by omega))))
    (fun _ _ _ _ _ hs _ _ => hs)
    ⟨⟨_, bO, by simpa using hrow0, trivial⟩, hk0, hB0⟩
    (fun x a' W => ∃ Bx, W.heap[Bx]? = some (.cells (linC x).toArray 219 (0, 0)) ∧ a' = { tmps := #[.slice sa sn sc, .func (.func gf) #[] lb, .pointer (some ⟨w.heap.size, 0, none⟩), undef, .slice none 0 0, .pointer (some ⟨Bx, 0, none⟩), .func (.func gf) #[] lb, linV x, undef, undef, undef, undef, undef], defers := [] })
    (fun x a' _ X Y row hs hg hr => by
      obtain ⟨Bx, h2, h3⟩ := hs
      refine ⟨Bx, (hg.block Bx (Array.getElem?_eq_some_iff.1 h2).1 (fun e => ?_)).trans h2, h3⟩
      obtain ⟨_, o, ho, hc⟩ := hr Bx e.symm
      rw [h2] at ho; cases ho; cases hc)
    ?assign ?body ?done ?stop
  case assign =>
    rintro l pre x W K' ⟨⟨v, hv, hr, _⟩, hk, hB⟩ hK
    simp only [linV]
    gi_wp2
    have hz := hB.size
    exact hK _ _ ((KeepsOthers.alloc _ _).from _) ⟨(Below.refl n₀ W).alloc (by omega) _, fun b hb => Below.heap_alloc W _ b (by have := hlt b hb; omega)⟩
      ⟨⟨_, hv.alloc _, hr.alloc _, trivial⟩, fun b hb => (Below.heap_alloc W _ b (by have := hlt b hb; omega)).trans (hk b hb), hB.alloc (by omega) _⟩ ⟨W.heap.size, World.alloc_heap_new W _, rfl⟩
  case body =>
    rintro l pre x a' W hl ⟨r, hr⟩ ⟨⟨v, hv, hrw, _⟩, hk, hB⟩ ⟨Bx, bX, rfl⟩ hlt2
    have hc := hv.cell
    obtain ⟨va, vn, vc, rfl⟩ : ∃ sa sn sc, v = .slice sa sn sc := by
      rcases hrw.2 with ⟨rfl, _⟩ | ⟨g, cap, cur, rfl, _⟩ <;> exact ⟨_, _, _, rfl⟩
    have hx : ∀ j u, (linC x)[j]? = some u → W.cell? ⟨Bx, j, none⟩ = some u := by
      intro j u hu; unfold World.cell?; simp only [bX]; simpa using hu
    have x0 := hx 0 _ rfl
    have x1 := hx 1 _ rfl
    have x2 := hx 2 _ rfl
    have x3 := hx 3 _ rfl
    have x4 := hx 4 _ rfl
    have x5 := hx 5 _ rfl
    have x6 := hx 6 _ rfl
    have HB := hid bX
    clear hx bX
    have hz := hB.size
    have hcn : ∀ j u, (linC x)[j]? = some u → (W.alloc (.cells #[.int .i64 x.shot, .int .i64 x.cluster, .int .i64 x.e.kind, .int .i64 x.e.start, .int .i64 x.e.count, .int .i64 x.e.size, .int .u32 x.e.sum] 219)).cell? ((⟨W.heap.size, 0, none⟩ : Addr).add j) = some u := by
      intro j u hu
      rw [show ((⟨W.heap.size, 0, none⟩ : Addr).add j) = ⟨W.heap.size, j, none⟩ by unfold Addr.add; split <;> simp_all]
      rw [World.cell?_alloc_at _ _ _ _ rfl]
      simpa [linC] using hu
    have HCN := hid hcn
    have hone : ∀ u ∈ linC x, u.oneCell' = true := by intro u hu; simp [linC] at hu; rcases hu with rfl | rfl | rfl | rfl | rfl | rfl | rfl <;> rfl
    have HON := hid hone
    clear hcn hone
    gi_wp2_with (gi_at_builtin; refine wpListIn_append_own _ rfl _ _ 216 rfl base 219 i0 _ 7 56 Tryz.underlying216 hi hz0 hz1 hz2 rfl (by decide) _ _ _ rfl (hrw.alloc _) ⟨W.heap.size, 0, none⟩ 1 1 (linC x) rfl rfl HCN.out HON.out ?c3 ?c4 ?c5 ?_)
    case c3 => unfold maxLen; omega
    case c4 => omega
    case c5 => simp; omega
    intro v' w1 hown' hgrow _
    obtain ⟨g', cap', rfl⟩ := ownsRow_succ (k := K + pre.length) hown'
    obtain ⟨hv1, hv2, hr2, hk2, hb2⟩ := hv.appended (by decide) hrw (by omega) (by omega) hown' hgrow
    have hc1 := hv1.cell
    have hf1 := hv1.frozen
    have hkk : ∀ b ∈ bs, (w1.setCell ⟨w.heap.size, 0, none⟩ (.slice (some ⟨g', 0, none⟩) (K + pre.length + 1) cap')).heap[b]? = W.heap[b]? := fun b hb => by
      have hlb := hlt b hb
      have hob' : Other bs W := fun b hb => by obtain ⟨c, t, fr, h, ht⟩ := hob b hb; exact ⟨c, t, fr, (hk b hb).trans h, ht⟩
      exact (Below.heap_setCell _ _ _ b (show b ≠ w.heap.size by omega)).trans ((hgrow.block b (by simp; omega) (hob'.not_row hrw b hb)).trans (Below.heap_alloc W _ b (by omega)))
    have HKK := hid hkk
    clear hkk
    gi_wp2
    exact ⟨hk2.from _, ⟨hb2.mono hnb, HKK.out⟩, ⟨_, hv2, by simpa [Nat.add_assoc] using hr2, trivial⟩, fun b hb => (HKK.out b hb).trans (hk b hb), hB.trans hb2⟩
  case done =>
    rintro D zs W hD hS ⟨⟨v, hv, hrw, _⟩, hk, hB⟩ hK
    have hc := hv.cell
    obtain ⟨va, vn, vc, rfl⟩ : ∃ sa sn sc, v = .slice sa sn sc := by
      rcases hrw.2 with ⟨rfl, _⟩ | ⟨g, cap, cur, rfl, _⟩ <;> exact ⟨_, _, _, rfl⟩
    gi_wp2
    refine ⟨by simp, .inl ⟨_, _, rfl, run_takeDeferred hK, ?_⟩⟩
    exact ⟨_, results_tmp rfl _ _ _, _, zs, rfl, hS, ownsRow_putObj hrw _ hK rfl, hB.trans (belowK_b (w := w) hbw W D _ _ (by omega) hK rfl rfl)⟩
  case stop =>
    rintro D c pre W _ _ h _
    exact h.elim
end Go.Proofs.YtmcllcepoiakeaaGreat.Cx
