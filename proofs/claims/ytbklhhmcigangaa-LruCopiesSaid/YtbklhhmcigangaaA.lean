import Derived.Test.YtbklhhmcigangaaRows
import Derived.Test.YtbklhhmcigangaaMP
import Derived.Test.YtbklhhmcigangaaL
import Derived.KernelRfl
namespace Go.Proofs.Ytbklhhmcigangaa
open Go.RowKit Go.Mx Go.Lr
set_option linter.unusedVariables false
set_option linter.unusedSimpArgs false
theorem set_get {α : Type} (l : List α) (i j : Nat) (x y : α) (hi : l[i]? = some y) : (l.set i x)[j]? = if j = i then some x else l[j]? := by
  rw [List.getElem?_set]
  by_cases e : i = j
  · subst e; rw [if_pos rfl, if_pos rfl]
    have := (List.getElem?_eq_some_iff.1 hi).1
    simp [this]
  · rw [if_neg e, if_neg (Ne.symm e)]
/-- how a page lies in memory -/
structure PR where
  en : En
  fb : Nat
  bv : Value
  av : Value
def plOf (fs : List PR) : PL := fs.map fun f => (f.en.k, f.fb)
abbrev pcells (f : PR) : Array Value := #[f.bv, .bool f.en.pg.dirty, .int .i64 f.en.pg.used, f.av]
abbrev ccells (c : CM) (m : Nat) : Array Value := #[.int .i64 c.room, .map (some m), .int .i64 c.uses]
abbrev cp (p : Nat) : Value := .pointer (some ⟨p, 0, none⟩)
/-- blocks that are not the cache's -/
def Free (p m : Nat) (fs : List PR) (k : Nat) : Prop := k ≠ p ∧ k ≠ m ∧ ∀ (i : Nat) (f : PR), fs[i]? = some f → k ≠ f.fb ∧ f.av.ownBlock ≠ some k
/-- a cache in memory; V: of which keys the list of what they are after is whole -/
structure CK (w : World) (base p m : Nat) (c : CM) (fs : List PR) (V : Nat → Prop) : Prop where
  all : c.all = fs.map (·.en)
  ck : w.heap[p]? = some (.cells (ccells c m) 63 (0, 0))
  hp : base ≤ p
  hm : base ≤ m
  mp : PM Try.prog 3 w m (plOf fs)
  fc : ∀ (i : Nat) (f : PR), fs[i]? = some f → w.heap[f.fb]? = some (.cells (pcells f) 66 (0, 0)) ∧ base ≤ f.fb
  ob : ∀ (i : Nat) (f : PR), fs[i]? = some f → OwnB w base 5 f.bv f.en.pg.b
  oa : ∀ (i : Nat) (f : PR), fs[i]? = some f → V i → OwnI w base f.av f.en.pg.after
  af : ∀ (i j : Nat) (f g : PR), fs[i]? = some f → fs[j]? = some g → i ≠ j → f.fb ≠ g.fb
  aa : ∀ (i j : Nat) (f g : PR), fs[i]? = some f → fs[j]? = some g → V i → V j → i ≠ j → ∀ k, f.av.ownBlock = some k → g.av.ownBlock ≠ some k
  sb : ∀ (i : Nat) (f : PR), fs[i]? = some f → ∃ oa n c, f.bv = .slice oa n c
  sa : ∀ (i : Nat) (f : PR), fs[i]? = some f → ∃ oa n c, f.av = .slice oa n c
abbrev All : Nat → Prop := fun _ => True
/-- a step of the cache: what is not its own stays, and stays not its own -/
structure Stp (base p m : Nat) (w : World) (fs : List PR) (w' : World) (fs' : List PR) : Prop where
  bel : Below base w w'
  kept : Kept w w' (Free p m fs)
  free : ∀ k, k < w.heap.size → Free p m fs k → Free p m fs' k
theorem Stp.refl (base p m : Nat) (w : World) (fs : List PR) : Stp base p m w fs w fs := ⟨Below.refl _ _, ⟨Nat.le_refl _, fun _ _ _ => rfl⟩, fun _ _ h => h⟩
theorem Stp.trans {base p m : Nat} {a b c : World} {fs gs hs : List PR} (h : Stp base p m a fs b gs) (k : Stp base p m b gs c hs) : Stp base p m a fs c hs :=
  ⟨h.bel.trans k.bel, ⟨Nat.le_trans h.kept.size k.kept.size, fun i hi hf => (k.kept.block i (Nat.lt_of_lt_of_le hi h.kept.size) (h.free i hi hf)).trans (h.kept.block i hi hf)⟩,
    fun i hi hf => k.free i (Nat.lt_of_lt_of_le hi h.kept.size) (h.free i hi hf)⟩
theorem Stp.of_below {base p m : Nat} {w w' : World} {fs : List PR} (h : Below w.heap.size w w') (hb : base ≤ w.heap.size) : Stp base p m w fs w' fs :=
  ⟨h.mono hb, .of_below h fun _ h _ => h, fun _ _ h => h⟩
section
variable {w w' : World} {base p m : Nat} {c : CM} {fs : List PR} {V : Nat → Prop}
theorem CK.plt (h : CK w base p m c fs V) : p < w.heap.size := blk_lt h.ck
theorem CK.base_le (h : CK w base p m c fs V) : base ≤ w.heap.size := by have := h.hp; have := h.plt; omega
theorem CK.cells (h : CK w base p m c fs V) : w.cell? ⟨p, 0, none⟩ = some (.int .i64 c.room) ∧ w.cell? ⟨p, 1, none⟩ = some (.map (some m)) ∧ w.cell? ⟨p, 2, none⟩ = some (.int .i64 c.uses) ∧ (∀ j, w.frozen? ⟨p, j, none⟩ = false) := by
  have h := h.ck
  refine ⟨?_, ?_, ?_, fun j => ?_⟩
  · simp [World.cell?, h]
  · simp [World.cell?, h]
  · simp [World.cell?, h]
  · simp [World.frozen?, h]
theorem CK.pcells (h : CK w base p m c fs V) {i : Nat} {f : PR} (hi : fs[i]? = some f) : w.cell? ⟨f.fb, 0, none⟩ = some f.bv ∧ w.cell? ⟨f.fb, 1, none⟩ = some (.bool f.en.pg.dirty) ∧ w.cell? ⟨f.fb, 2, none⟩ = some (.int .i64 f.en.pg.used) ∧ w.cell? ⟨f.fb, 3, none⟩ = some f.av ∧ (∀ j, w.frozen? ⟨f.fb, j, none⟩ = false) := by
  have h := (h.fc i f hi).1
  refine ⟨?_, ?_, ?_, ?_, fun j => ?_⟩
  · simp [World.cell?, h]
  · simp [World.cell?, h]
  · simp [World.cell?, h]
  · simp [World.cell?, h]
  · simp [World.frozen?, h]
theorem not_cells {o : Obj} {q : Nat} {w : World} (h : w.heap[q]? = some o) (ho : ∀ c t f, o ≠ .cells c t f) {b : Nat} {c : Array Value} {t : TypeId} {fr : Nat × Nat} (hb : w.heap[b]? = some (.cells c t fr)) : b ≠ q := by
  rintro rfl; rw [h] at hb; exact ho _ _ _ (Option.some.inj hb)
theorem CK.mapObj (h : CK w base p m c fs V) : ∃ o, w.heap[m]? = some o ∧ ∀ c t f, o ≠ .cells c t f := by
  obtain ⟨es, c, hm⟩ := h.mp.isMap
  exact ⟨_, hm, fun _ _ _ e => by cases e⟩
theorem ownI_type {w : World} {base : Nat} {v : Value} {l : List Int} (h : OwnI w base v l) : ∀ k, v.ownBlock = some k → ∃ c f, w.heap[k]? = some (.cells c 3 f) := by
  intro k hk
  rcases h.2 with ⟨rfl, _⟩ | ⟨g, cap, cur, rfl, _, hg, _⟩
  · cases hk
  · cases hk; exact ⟨_, _, hg⟩
theorem ownI_not {w : World} {base : Nat} {v : Value} {l : List Int} (h : OwnI w base v l) {q : Nat} {c : Array Value} {t : TypeId} {f : Nat × Nat} (hq : w.heap[q]? = some (.cells c t f)) (ht : t ≠ 3) : v.ownBlock ≠ some q := ownsRow_not h hq ht
theorem ownI_notMap {w : World} {base : Nat} {v : Value} {l : List Int} (h : OwnI w base v l) {q : Nat} {o : Obj} (hq : w.heap[q]? = some o) (ho : ∀ c t f, o ≠ .cells c t f) : v.ownBlock ≠ some q := by
  intro e
  obtain ⟨c, f, hc⟩ := ownI_type h q e
  rw [hq] at hc; exact ho _ _ _ (Option.some.inj hc)
theorem ownI_kept {w w' : World} {base : Nat} {v : Value} {l : List Int} (h : OwnI w base v l) {N : Nat → Prop} (hk : Kept w w' N) (hv : ∀ k, v.ownBlock = some k → N k) : OwnI w' base v l := ownsRow_kept h hk hv
theorem ownB_type {w : World} {base : Nat} {v : Value} {l : List UInt8} (h : OwnB w base 5 v l) : ∀ k, v.ownBlock = some k → ∃ c f, w.heap[k]? = some (.cells c 5 f) := by
  intro k hk
  rcases h.2 with ⟨rfl, _⟩ | ⟨g, cap, cur, rfl, _, hg, _⟩
  · cases hk
  · cases hk; exact ⟨_, _, hg⟩
/-- a step that leaves all of the cache's blocks as they were -/
theorem CK.keep (h : CK w base p m c fs V) {N : Nat → Prop} (hk : Kept w w' N) (hN : ∀ k, k < w.heap.size → N k) : CK w' base p m c fs V where
  all := h.all
  ck := (hk.block p h.plt (hN _ h.plt)).trans h.ck
  hp := h.hp
  hm := h.hm
  mp := h.mp.block (hk.block m h.mp.lt (hN _ h.mp.lt))
  fc := fun i f hi => ⟨(hk.block _ (blk_lt (h.fc i f hi).1) (hN _ (blk_lt (h.fc i f hi).1))).trans (h.fc i f hi).1, (h.fc i f hi).2⟩
  ob := fun i f hi => (h.ob i f hi).kept hk fun k e => hN k ((h.ob i f hi).lt k e)
  oa := fun i f hi hv => ownI_kept (h.oa i f hi hv) hk fun k e => hN k (OwnV.lt (h.oa i f hi hv) k e)
  af := h.af
  aa := h.aa
  sb := h.sb
  sa := h.sa
theorem CK.below (h : CK w base p m c fs V) (hb : Below w.heap.size w w') : CK w' base p m c fs V :=
  h.keep (N := fun _ => True) (.of_below hb fun _ h _ => h) fun _ _ => trivial
theorem plOf_names (fs : List PR) : (plOf fs).map (·.1) = fs.map (·.en.k) := by unfold plOf; rw [List.map_map]; rfl
/-- a page's place in the map -/
theorem CK.who (h : CK w base p m c fs V) (k : Int) : (Mx.look (plOf fs) k = none ∧ Lr.find c.all k = none) ∨ ∃ (i : Nat) (f : PR), fs[i]? = some f ∧ f.en.k = k ∧ Mx.look (plOf fs) k = some f.fb ∧ Lr.find c.all k = some f.en.pg := by
  rw [h.all]
  have key : ∀ l : List PR, (Mx.look (plOf l) k = none ∧ Lr.find (l.map (·.en)) k = none) ∨ ∃ (i : Nat) (f : PR), l[i]? = some f ∧ f.en.k = k ∧ Mx.look (plOf l) k = some f.fb ∧ Lr.find (l.map (·.en)) k = some f.en.pg := by
    intro l
    induction l with
    | nil => exact .inl ⟨rfl, rfl⟩
    | cons f l ih =>
      by_cases e : f.en.k = k
      · refine .inr ⟨0, f, rfl, e, ?_, ?_⟩
        · unfold plOf; rw [List.map_cons, look_cons, if_pos e]
        · unfold Lr.find; rw [List.map_cons, List.find?_cons]; simp [e]
      · have h1 : Mx.look (plOf (f :: l)) k = Mx.look (plOf l) k := by unfold plOf; rw [List.map_cons, look_cons, if_neg e]
        have h2 : Lr.find ((f :: l).map (·.en)) k = Lr.find (l.map (·.en)) k := by
          unfold Lr.find; rw [List.map_cons, List.find?_cons]
          rw [show (f.en.k == k) = false by simpa using e]
        rw [h1, h2]
        rcases ih with h3 | ⟨i, g, hi, hg⟩
        · exact .inl h3
        · exact .inr ⟨i + 1, g, by simpa using hi, hg⟩
  exact key fs
end
end Go.Proofs.Ytbklhhmcigangaa
