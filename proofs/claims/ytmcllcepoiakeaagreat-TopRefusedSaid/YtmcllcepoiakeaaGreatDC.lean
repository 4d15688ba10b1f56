import Derived.Test.YtmcllcepoiakeaaGreatRows
import Derived.Test.YtmcllcepoiakeaaGreatDL
import Derived.KernelRfl
import Derived.BigQuiet
import Derived.IntWalk
import Derived.Deep.MidRow
set_option linter.unusedSimpArgs false
set_option linter.unusedVariables false
namespace Go.Mx
open Go.RowKit
theorem set_get {α : Type} (l : List α) (i j : Nat) (x y : α) (hi : l[i]? = some y) : (l.set i x)[j]? = if j = i then some x else l[j]? := by
  rw [List.getElem?_set]
  by_cases e : i = j
  · subst e; rw [if_pos rfl, if_pos rfl]
    have := (List.getElem?_eq_some_iff.1 hi).1
    simp [this]
  · rw [if_neg e, if_neg (Ne.symm e)]
theorem OwnG.not {w : World} {base : Nat} {e t : TypeId} {s : Nat} {v : Value} {rows : List (List Value)} (h : OwnG w base e s v rows) {q : Nat} {c : Array Value} {f : Nat × Nat} (hq : w.heap[q]? = some (.cells c t f)) (ht : t ≠ e) : v.ownBlock ≠ some q := ownsRow_not h.1 hq ht
theorem OwnG.notMap {w : World} {base : Nat} {e : TypeId} {s : Nat} {v : Value} {rows : List (List Value)} (h : OwnG w base e s v rows) {q : Nat} {o : Obj} (hq : w.heap[q]? = some o) (ho : ∀ c t f, o ≠ .cells c t f) : v.ownBlock ≠ some q := by
  intro hv
  rcases h.1.2 with ⟨rfl, _⟩ | ⟨g, cap, cur, rfl, hbg, hgg, rest⟩
  · cases hv
  · cases hv
    rw [hgg] at hq
    exact ho _ _ _ (Option.some.inj hq).symm
theorem OwnG.apart {w : World} {b1 b2 s1 s2 : Nat} {e1 e2 : TypeId} {v1 v2 : Value} {r1 r2 : List (List Value)} (h1 : OwnG w b1 e1 s1 v1 r1) (h2 : OwnG w b2 e2 s2 v2 r2) (ht : e1 ≠ e2) : ∀ k, v1.ownBlock = some k → v2.ownBlock ≠ some k := ownsRow_apart h1.1 h2.1 ht
theorem OwnG.type {w : World} {base : Nat} {e : TypeId} {s : Nat} {v : Value} {rows : List (List Value)} (h : OwnG w base e s v rows) {q : Nat} (hv : v.ownBlock = some q) : ∃ c f, w.heap[q]? = some (.cells c e f) := by
  rcases h.1.2 with ⟨rfl, _⟩ | ⟨g, cap, cur, rfl, hbg, hgg, rest⟩
  · cases hv
  · cases hv; exact ⟨_, _, hgg⟩
theorem OwnG.sliceOf {w : World} {base : Nat} {e : TypeId} {s : Nat} {v : Value} {rows : List (List Value)} (h : OwnG w base e s v rows) : ∃ oa n c, v = .slice oa n c := by
  rcases h.shape with ⟨rfl, _⟩ | ⟨g, c, rfl, _⟩
  · exact ⟨_, _, _, rfl⟩
  · exact ⟨_, _, _, rfl⟩
end Go.Mx
namespace Go.Proofs.YtmcllcepoiakeaaGreat.Dx
open Go.RowKit Go.Mx Go.Mp Go.Dk
/-- how a file lies in memory -/
structure FR where
  fm : FM
  fb : Nat
  nv : Value
  kv : Value
def sl (f : FR) (b : Bool) : Value := if b then f.nv else f.kv
def rws (f : FR) (b : Bool) : List Sec := if b then f.fm.now else f.fm.kept
def srow (s : Sec) : List Value := s.map Mx.u8
def lrow (r : RM) : List Value := .string ⟨r.name.toArray⟩ :: .int .i64 r.at_ :: srow r.b
def plOf (fs : List FR) : PL := fs.map fun f => (f.fm.name, f.fb)
def dcells (d : DM) (m : Nat) (lv : Value) (x : Int) : Array Value := #[.int .i64 d.room, .map (some m), lv, .int .i64 d.left, .bool d.off, .int .i64 x]
/-- blocks that this disk may not have (m: its map) -/
def Foreign (m : Nat) (w : World) (k : Nat) : Prop := k ≠ m ∧ ∀ c t fr, w.heap[k]? = some (.cells c t fr) → t ≠ 64 ∧ t ≠ 68 ∧ t ≠ 131 ∧ t ≠ 280
structure Fr (base m : Nat) (w w' : World) : Prop where
  bel : Below base w w'
  kept : Kept w w' (Foreign m w)
section
variable {base m : Nat} {w w' : World}
theorem Fr.refl (base m : Nat) (w : World) : Fr base m w w := ⟨Below.refl _ _, ⟨Nat.le_refl _, fun _ _ _ => rfl⟩⟩
theorem Fr.trans {a b c : World} (h : Fr base m a b) (k : Fr base m b c) : Fr base m a c :=
  ⟨h.bel.trans k.bel, ⟨Nat.le_trans h.kept.size k.kept.size, fun i hi hf => by
    have h1 := h.kept.block i hi hf
    exact (k.kept.block i (Nat.lt_of_lt_of_le hi h.kept.size) ⟨hf.1, fun c t fr e => hf.2 c t fr (h1.symm.trans e)⟩).trans h1⟩⟩
theorem Fr.of_below (h : Below w.heap.size w w') (hb : base ≤ w.heap.size) : Fr base m w w' := ⟨h.mono hb, .of_below h fun _ h _ => h⟩
theorem Fr.foreign (h : Fr base m w w') {k : Nat} (hk : k < w.heap.size) (hf : Foreign m w k) : w'.heap[k]? = w.heap[k]? := h.kept.block k hk hf
theorem Fr.cells (h : Fr base m w w') {k : Nat} {c : Array Value} {t : TypeId} {fr : Nat × Nat} (hc : w.heap[k]? = some (.cells c t fr)) (hm : k ≠ m) (ht : t ≠ 64 ∧ t ≠ 68 ∧ t ≠ 131 ∧ t ≠ 280) : w'.heap[k]? = some (.cells c t fr) :=
  (h.kept.block k (blk_lt hc) ⟨hm, fun c' t' fr' e => by rw [hc] at e; cases e; exact ht⟩).trans hc
theorem Fr.size (h : Fr base m w w') : w.heap.size ≤ w'.heap.size := h.kept.size
/-- what is written lies in one block of a disk's kind -/
theorem Fr.of_kept {q : Nat} (h : Below base w w') (hk : Kept w w' (· ≠ q)) (hq : ¬ Foreign m w q) : Fr base m w w' :=
  ⟨h, ⟨hk.size, fun k hk' hf => hk.block k hk' fun e => hq (e ▸ hf)⟩⟩
theorem not_foreign {q : Nat} {c : Array Value} {t : TypeId} {fr : Nat × Nat} (h : w.heap[q]? = some (.cells c t fr)) (ht : t = 64 ∨ t = 68 ∨ t = 131 ∨ t = 280) : ¬ Foreign m w q := by
  rintro ⟨_, hf⟩
  obtain ⟨h1, h2, h3, h4⟩ := hf _ _ _ h
  rcases ht with rfl | rfl | rfl | rfl
  · exact h1 rfl
  · exact h2 rfl
  · exact h3 rfl
  · exact h4 rfl
end
/-- a disk in memory; V: which slices are right (the one of what stands there: true; of what is kept: false) -/
structure DK (w : World) (base p : Nat) (d : DM) (fs : List FR) (m : Nat) (lv : Value) (x : Int) (V : Nat → Bool → Prop) : Prop where
  files : d.files = fs.map (·.fm)
  dk : w.heap[p]? = some (.cells (dcells d m lv x) 64 (0, 0))
  hp : base ≤ p
  hm : base ≤ m
  mp : PM Tryz.prog 9 w m (plOf fs)
  lg : OwnG w base 280 18 lv (d.log.map lrow)
  fc : ∀ (i : Nat) (f : FR), fs[i]? = some f → w.heap[f.fb]? = some (.cells #[f.nv, f.kv] 68 (0, 0)) ∧ base ≤ f.fb
  ow : ∀ (i : Nat) (f : FR) (b : Bool), fs[i]? = some f → V i b → OwnG w base 131 16 (sl f b) ((rws f b).map srow)
  af : ∀ (i j : Nat) (f g : FR), fs[i]? = some f → fs[j]? = some g → i ≠ j → f.fb ≠ g.fb
  as_ : ∀ (i j : Nat) (a b : Bool) (f g : FR), fs[i]? = some f → fs[j]? = some g → V i a → V j b → (i ≠ j ∨ a ≠ b) → ∀ k, (sl f a).ownBlock = some k → (sl g b).ownBlock ≠ some k
  sh : ∀ (i : Nat) (f : FR) (b : Bool), fs[i]? = some f → ∃ oa n c, sl f b = .slice oa n c
def IsDisk (w : World) (base p : Nat) (d : DM) : Prop := ∃ fs m lv x, DK w base p d fs m lv x fun _ _ => True
section
variable {w w' : World} {base p : Nat} {d : DM} {fs : List FR} {m : Nat} {lv : Value} {x : Int} {V : Nat → Bool → Prop}
theorem DK.plt (h : DK w base p d fs m lv x V) : p < w.heap.size := blk_lt h.dk
theorem DK.cells (h : DK w base p d fs m lv x V) : w.cell? ⟨p, 0, none⟩ = some (.int .i64 d.room) ∧ w.cell? ⟨p, 1, none⟩ = some (.map (some m)) ∧ w.cell? ⟨p, 2, none⟩ = some lv ∧ w.cell? ⟨p, 3, none⟩ = some (.int .i64 d.left) ∧ w.cell? ⟨p, 4, none⟩ = some (.bool d.off) ∧ w.cell? ⟨p, 5, none⟩ = some (.int .i64 x) := by
  have h := h.dk
  refine ⟨?_, ?_, ?_, ?_, ?_, ?_⟩ <;> simp [World.cell?, h, dcells]
theorem DK.fz (h : DK w base p d fs m lv x V) (i : Nat) : w.frozen? ⟨p, i, none⟩ = false := by
  have h := h.dk
  simp [World.frozen?, h]
theorem DK.fcells (h : DK w base p d fs m lv x V) {i : Nat} {f : FR} (hi : fs[i]? = some f) : w.cell? ⟨f.fb, 0, none⟩ = some f.nv ∧ w.cell? ⟨f.fb, 1, none⟩ = some f.kv ∧ (∀ j, w.frozen? ⟨f.fb, j, none⟩ = false) := by
  have h := (h.fc i f hi).1
  refine ⟨?_, ?_, fun j => ?_⟩
  · simp [World.cell?, h]
  · simp [World.cell?, h]
  · simp [World.frozen?, h]
theorem DK.mapObj (h : DK w base p d fs m lv x V) : ∃ o, w.heap[m]? = some o ∧ ∀ c t f, o ≠ .cells c t f := by
  obtain ⟨es, c, hm⟩ := h.mp.isMap
  exact ⟨_, hm, fun _ _ _ e => by cases e⟩
theorem not_cells {o : Obj} {q : Nat} (h : w.heap[q]? = some o) (ho : ∀ c t f, o ≠ .cells c t f) {b : Nat} {c : Array Value} {t : TypeId} {fr : Nat × Nat} (hb : w.heap[b]? = some (.cells c t fr)) : b ≠ q := by
  rintro rfl; rw [h] at hb; exact ho _ _ _ (Option.some.inj hb)
/-- a step that leaves the disk's blocks as they were -/
theorem DK.keep (h : DK w base p d fs m lv x V) {N : Nat → Prop} (hk : Kept w w' N) (h1 : N p) (h2 : N m) (h3 : ∀ k, lv.ownBlock = some k → N k) (h4 : ∀ (i : Nat) (f : FR), fs[i]? = some f → N f.fb) (h5 : ∀ (i : Nat) (f : FR) (b : Bool), fs[i]? = some f → V i b → ∀ k, (sl f b).ownBlock = some k → N k) : DK w' base p d fs m lv x V where
  files := h.files
  dk := (hk.block p h.plt h1).trans h.dk
  hp := h.hp
  hm := h.hm
  mp := h.mp.block (hk.block m h.mp.lt h2)
  lg := h.lg.kept hk h3
  fc := fun i f hi => ⟨(hk.block _ (blk_lt (h.fc i f hi).1) (h4 i f hi)).trans (h.fc i f hi).1, (h.fc i f hi).2⟩
  ow := fun i f b hi hv => (h.ow i f b hi hv).kept hk (h5 i f b hi hv)
  af := h.af
  as_ := h.as_
  sh := h.sh
theorem DK.below (h : DK w base p d fs m lv x V) (hb : Below w.heap.size w w') : DK w' base p d fs m lv x V :=
  h.keep (N := fun _ => True) (.of_below hb fun _ h _ => h) trivial trivial (fun _ _ => trivial) (fun _ _ _ => trivial) (fun _ _ _ _ _ _ _ => trivial)
theorem DK.weaken (h : DK w base p d fs m lv x V) {V' : Nat → Bool → Prop} (hv : ∀ i b, V' i b → V i b) : DK w base p d fs m lv x V' :=
  { h with ow := fun i f b hi h' => h.ow i f b hi (hv _ _ h'), as_ := fun i j a b f g hi hj ha hb => h.as_ i j a b f g hi hj (hv _ _ ha) (hv _ _ hb) }
/-- the disk's own cells alone turn -/
theorem DK.disk (h : DK w base p d fs m lv x V) (hk : Kept w w' (· ≠ p)) (d' : DM) (x' : Int) (hd : w'.heap[p]? = some (.cells (dcells d' m lv x') 64 (0, 0))) (h1 : d'.files = d.files) (h2 : d'.log = d.log) : DK w' base p d' fs m lv x' V := by
  obtain ⟨o, hm, ho⟩ := h.mapObj
  exact { files := h1.trans h.files, dk := hd, hp := h.hp, hm := h.hm, mp := h.mp.block (hk.block m h.mp.lt (not_cells hm ho h.dk).symm),
          lg := by rw [h2]; exact h.lg.kept hk fun k e => by rintro rfl; exact h.lg.not h.dk (by decide) e
          fc := fun i f hi => ⟨(hk.block _ (blk_lt (h.fc i f hi).1) (blk_ne (h.fc i f hi).1 h.dk (by decide))).trans (h.fc i f hi).1, (h.fc i f hi).2⟩
          ow := fun i f b hi hv => (h.ow i f b hi hv).kept hk fun k e => by rintro rfl; exact (h.ow i f b hi hv).not h.dk (by decide) e
          af := h.af, as_ := h.as_, sh := h.sh }
/-- the log alone turns -/
theorem DK.log (h : DK w base p d fs m lv x V) {N : Nat → Prop} (hk : Kept w w' N) (hN : ∀ k, k ≠ p → lv.ownBlock ≠ some k → N k) (lv' : Value) (l' : List RM) (hd : w'.heap[p]? = some (.cells (dcells { d with log := l' } m lv' x) 64 (0, 0))) (hl : OwnG w' base 280 18 lv' (l'.map lrow)) :
    DK w' base p { d with log := l' } fs m lv' x V := by
  obtain ⟨o, hm, ho⟩ := h.mapObj
  exact { files := h.files, dk := hd, hp := h.hp, hm := h.hm, mp := h.mp.block (hk.block m h.mp.lt (hN _ (not_cells hm ho h.dk).symm (h.lg.notMap hm ho))), lg := hl
          fc := fun i f hi => ⟨(hk.block _ (blk_lt (h.fc i f hi).1) (hN _ (blk_ne (h.fc i f hi).1 h.dk (by decide)) (h.lg.not (h.fc i f hi).1 (by decide)))).trans (h.fc i f hi).1, (h.fc i f hi).2⟩
          ow := fun i f b hi hv => (h.ow i f b hi hv).kept hk fun k e => hN k (by rintro rfl; exact (h.ow i f b hi hv).not h.dk (by decide) e) (fun e2 => (h.lg.apart (h.ow i f b hi hv) (by decide) k e2) e)
          af := h.af, as_ := h.as_, sh := h.sh }
/-- one file alone turns -/
theorem DK.file (h : DK w base p d fs m lv x V) {i : Nat} {f : FR} (hi : fs[i]? = some f) (f' : FR) (hn : f'.fm.name = f.fm.name) (hb : f'.fb = f.fb) {N : Nat → Prop} (hk : Kept w w' N)
    (hN : ∀ k, k ≠ f.fb → (∀ b, V i b → (sl f b).ownBlock ≠ some k) → N k) (hc : w'.heap[f.fb]? = some (.cells #[f'.nv, f'.kv] 68 (0, 0))) (V' : Nat → Bool → Prop) (hV : ∀ j b, j ≠ i → V' j b → V j b)
    (how : ∀ b, V' i b → OwnG w' base 131 16 (sl f' b) ((rws f' b).map srow))
    (hnew : ∀ b, V' i b → ∀ k, (sl f' b).ownBlock = some k → (∃ a, V i a ∧ (sl f a).ownBlock = some k) ∨ w.heap.size ≤ k)
    (hap : V' i true → V' i false → ∀ k, f'.nv.ownBlock = some k → f'.kv.ownBlock ≠ some k) (hsh : ∀ b, ∃ oa n c, sl f' b = .slice oa n c) :
    DK w' base p { d with files := (fs.set i f').map (·.fm) } (fs.set i f') m lv x V' := by
  obtain ⟨o, hm, ho⟩ := h.mapObj
  have hg := fun j => set_get fs i j f' f hi
  have hfc := (h.fc i f hi).1
  have npl : plOf (fs.set i f') = plOf fs := by
    unfold plOf
    apply List.ext_getElem?
    intro j
    rw [List.getElem?_map, List.getElem?_map, hg j]
    by_cases e : j = i
    · subst e; rw [if_pos rfl, hi]; simp [hn, hb]
    · rw [if_neg e]
  have nsl : ∀ b, V i b → ∀ q c t fr, w.heap[q]? = some (.cells c t fr) → t ≠ 131 → (sl f b).ownBlock ≠ some q := fun b hv q c t fr hq ht => (h.ow i f b hi hv).not hq ht
  have keptOther : ∀ j g b, fs[j]? = some g → j ≠ i → V j b → OwnG w' base 131 16 (sl g b) ((rws g b).map srow) := fun j g b hj hji hv =>
    (h.ow j g b hj hv).kept hk fun k e => hN k (by rintro rfl; exact (h.ow j g b hj hv).not hfc (by decide) e) fun a ha e2 => h.as_ i j a b f g hi hj ha hv (.inl (Ne.symm hji)) k e2 e
  refine { files := rfl, dk := ?_, hp := h.hp, hm := h.hm, mp := ?_, lg := ?_, fc := ?_, ow := ?_, af := ?_, as_ := ?_, sh := ?_ }
  · exact (hk.block p h.plt (hN p (blk_ne h.dk hfc (by decide)) fun b hv => nsl b hv p _ _ _ h.dk (by decide))).trans h.dk
  · rw [npl]
    refine h.mp.block (hk.block m h.mp.lt (hN m (not_cells hm ho hfc).symm fun b hv => (h.ow i f b hi hv).notMap hm ho))
  · exact h.lg.kept hk fun k e => hN k (by rintro rfl; exact h.lg.not hfc (by decide) e) fun b hv e2 => (h.lg.apart (h.ow i f b hi hv) (by decide) k e) e2
  · intro j g hj
    rw [hg j] at hj
    by_cases e : j = i
    · rw [if_pos e] at hj; cases hj
      rw [hb]; exact ⟨hc, (h.fc i f hi).2⟩
    · rw [if_neg e] at hj
      refine ⟨(hk.block _ (blk_lt (h.fc j g hj).1) (hN _ (h.af j i g f hj hi e) fun b hv => nsl b hv _ _ _ _ (h.fc j g hj).1 (by decide))).trans (h.fc j g hj).1, (h.fc j g hj).2⟩
  · intro j g b hj hv
    rw [hg j] at hj
    by_cases e : j = i
    · subst e; rw [if_pos rfl] at hj; cases hj; exact how b hv
    · rw [if_neg e] at hj; exact keptOther j g b hj e (hV j b e hv)
  · intro j j' g g' hj hj' hne
    rw [hg] at hj hj'
    by_cases e : j = i
    · subst e
      rw [if_pos rfl] at hj; cases hj
      rw [if_neg (Ne.symm hne)] at hj'
      rw [hb]; exact h.af j j' f g' hi hj' hne
    · rw [if_neg e] at hj
      by_cases e' : j' = i
      · subst e'; rw [if_pos rfl] at hj'; cases hj'
        rw [hb]; exact h.af j j' g f hj hi hne
      · rw [if_neg e'] at hj'; exact h.af j j' g g' hj hj' hne
  · intro j j' a b g g' hj hj' ha hb' hne k hka hkb
    rw [hg] at hj hj'
    have lt_of : ∀ j g b, fs[j]? = some g → V j b → (sl g b).ownBlock = some k → k < w.heap.size := fun j g b hj hv e => (h.ow j g b hj hv).lt k e
    by_cases e : j = i
    · subst e
      rw [if_pos rfl] at hj; cases hj
      by_cases e' : j' = j
      · subst e'; rw [if_pos rfl] at hj'; cases hj'
        have hab : a ≠ b := hne.resolve_left (fun h => h rfl)
        cases a <;> cases b
        · exact hab rfl
        · exact hap hb' ha k hkb hka
        · exact hap ha hb' k hka hkb
        · exact hab rfl
      · rw [if_neg e'] at hj'
        rcases hnew a ha k hka with ⟨a', ha', hk'⟩ | hge
        · exact h.as_ j j' a' b f g' hi hj' ha' (hV _ _ e' hb') (.inl (Ne.symm e')) k hk' hkb
        · have := lt_of j' g' b hj' (hV _ _ e' hb') hkb; omega
    · rw [if_neg e] at hj
      by_cases e' : j' = i
      · subst e'; rw [if_pos rfl] at hj'; cases hj'
        rcases hnew b hb' k hkb with ⟨b', hb2, hk'⟩ | hge
        · exact h.as_ j j' a b' g f hj hi (hV _ _ e ha) hb2 (.inl e) k hka hk'
        · have := lt_of j g a hj (hV _ _ e ha) hka; omega
      · rw [if_neg e'] at hj'
        exact h.as_ j j' a b g g' hj hj' (hV _ _ e ha) (hV _ _ e' hb') hne k hka hkb
  · intro j g b hj
    rw [hg] at hj
    by_cases e : j = i
    · rw [if_pos e] at hj; cases hj; exact hsh b
    · rw [if_neg e] at hj; exact h.sh j g b hj
end
abbrev dp (p : Nat) : Value := .pointer (some ⟨p, 0, none⟩)
abbrev nmv (s : List UInt8) : Value := .string ⟨s.toArray⟩
theorem zero65 (w : World) : (zeroValue 65).run Tryz.prog w = .ok (.pointer none) w := by kernel_rfl
theorem size131 : ∀ w, (sizeOf 131).run Tryz.prog w = .ok 16 w := fun w => by kernel_rfl
theorem size280 : ∀ w, (sizeOf 280).run Tryz.prog w = .ok 18 w := fun w => by kernel_rfl
def zsec : Value := .agg #[.int .u8 0, .int .u8 0, .int .u8 0, .int .u8 0, .int .u8 0, .int .u8 0, .int .u8 0, .int .u8 0, .int .u8 0, .int .u8 0, .int .u8 0, .int .u8 0, .int .u8 0, .int .u8 0, .int .u8 0, .int .u8 0]
theorem Tryz.info131 : (Tryz.prog.info? 131).map (fun i => (i.zero, i.size, i.bytes)) = some (some zsec, 16, 16) := by kernel_rfl
section
variable {w : World} {base p : Nat} {d : DM} {fs : List FR} {m : Nat} {lv : Value} {x : Int} {V : Nat → Bool → Prop}
theorem DK.look (h : DK w base p d fs m lv x V) (nm : List UInt8) (hn : nm.length ≤ maxLen) : (Instr.lookup 61 (.map (some m)) (nmv nm) false).run Tryz.prog w = .ok (pv (Mp.look (plOf fs) nm)) w :=
  h.mp.look Tryz.underlying9 Tryz.underlying61 zero65 nm hn
theorem num_any (n : Int) (w : World) : Calls Tryz.prog 7 #[.int .i64 n] w fun e w' => e = .returned (.int .i64 n) ∧ w = w' := by
  go_enter Tryz.func7, Tryz.ntmps7
  go_wp2
  go_ret
  exact ⟨rfl, rfl⟩
theorem up_any (h : DK w base p d fs m lv x V) : Calls Tryz.prog 118 #[dp p] w fun e w' => e = .returned (.int .i64 (if d.off then 8 else 0)) ∧ w = w' := by
  obtain ⟨c0, c1, c2, c3, c4, c5⟩ := h.cells
  cases ho : d.off <;> rw [ho] at c4 <;> clear h ho
  · go_enter Tryz.func118, Tryz.ntmps118
    go_wp2
    go_ret
    exact ⟨rfl, rfl⟩
  · go_enter Tryz.func118, Tryz.ntmps118
    go_wp2
    go_ret
    exact ⟨rfl, rfl⟩
def hasV (d : DM) (fs : List FR) (nm : List UInt8) : Option Nat := if d.off then none else Mp.look (plOf fs) nm
def hasE0 (d : DM) (fs : List FR) (nm : List UInt8) : Int := if d.off then 8 else if (Mp.look (plOf fs) nm).isSome then 0 else 4
set_option maxRecDepth 100000 in
theorem has_any (h : DK w base p d fs m lv x V) (nm : List UInt8) (hn : nm.length ≤ maxLen) : Calls Tryz.prog 59 #[dp p, nmv nm] w fun e w' => e = .returned (.tuple #[pv (hasV d fs nm), .int .i64 (hasE0 d fs nm)]) ∧ w = w' := by
  obtain ⟨c0, c1, c2, c3, c4, c5⟩ := h.cells
  have HU := hid (up_any h)
  have hlk := h.look nm hn
  unfold hasV hasE0
  cases ho : d.off
  · rw [ho] at HU
    clear ho h c0 c2 c3 c4 c5
    cases hl : Mp.look (plOf fs) nm with
    | none =>
      rw [hl] at hlk
      clear hl
      go_enter Tryz.func59, Tryz.ntmps59
      go_wp2_with fail
      refine HU.out.mono ?_
      rintro e w' ⟨rfl, rfl⟩
      have hlk' : (Instr.lookup 61 (.map (some m)) (nmv nm) false).run Tryz.prog w = .ok (.pointer none) w := hlk
      clear hlk
      go_wp2
      go_ret2
      exact ⟨rfl, rfl⟩
    | some b =>
      rw [hl] at hlk
      clear hl
      go_enter Tryz.func59, Tryz.ntmps59
      go_wp2_with fail
      refine HU.out.mono ?_
      rintro e w' ⟨rfl, rfl⟩
      have hlk' : (Instr.lookup 61 (.map (some m)) (nmv nm) false).run Tryz.prog w = .ok (.pointer (some ⟨b, 0, none⟩)) w := hlk
      clear hlk
      go_wp2
      go_ret2
      exact ⟨rfl, rfl⟩
  · rw [ho] at HU
    clear ho h hlk
    go_enter Tryz.func59, Tryz.ntmps59
    go_wp2_with fail
    refine HU.out.mono ?_
    rintro e w' ⟨rfl, rfl⟩
    go_wp2
    go_ret2
    exact ⟨rfl, rfl⟩
theorem dcells_set3 (d : DM) (m : Nat) (lv : Value) (x : Int) (n : Nat) : (dcells d m lv x).setIfInBounds 3 (.int .i64 n) = dcells { d with left := n } m lv x := rfl
theorem dcells_set4 (d : DM) (m : Nat) (lv : Value) (x : Int) (b : Bool) : (dcells d m lv x).setIfInBounds 4 (.bool b) = dcells { d with off := b } m lv x := rfl
theorem dcells_set2 (d : DM) (m : Nat) (lv lv' : Value) (x : Int) : (dcells d m lv x).setIfInBounds 2 lv' = dcells d m lv' x := rfl
theorem dcells_set5 (d : DM) (m : Nat) (lv : Value) (x y : Int) : (dcells d m lv x).setIfInBounds 5 (.int .i64 y) = dcells d m lv y := rfl
theorem DK.setLeft (h : DK w base p d fs m lv x V) (n : Nat) : DK (w.setCell ⟨p, 3, none⟩ (.int .i64 n)) base p { d with left := n } fs m lv x V :=
  h.disk (Kept.set w p 3 _ fun hn => hn rfl) _ x ((heap_setCell_at' w p 3 _ _ 64 (0, 0) h.dk).trans (by rw [dcells_set3])) rfl rfl
theorem DK.setOff (h : DK w base p d fs m lv x V) (b : Bool) : DK (w.setCell ⟨p, 4, none⟩ (.bool b)) base p { d with off := b } fs m lv x V :=
  h.disk (Kept.set w p 4 _ fun hn => hn rfl) _ x ((heap_setCell_at' w p 4 _ _ 64 (0, 0) h.dk).trans (by rw [dcells_set4])) rfl rfl
theorem DK.setX (h : DK w base p d fs m lv x V) (y : Int) : DK (w.setCell ⟨p, 5, none⟩ (.int .i64 y)) base p d fs m lv y V :=
  h.disk (Kept.set w p 5 _ fun hn => hn rfl) _ y ((heap_setCell_at' w p 5 _ _ 64 (0, 0) h.dk).trans (by rw [dcells_set5])) rfl rfl
theorem DK.frP (h : DK w base p d fs m lv x V) (i : Nat) (v : Value) : Fr base m w (w.setCell ⟨p, i, none⟩ v) :=
  .of_kept (q := p) ((Below.refl base w).setCell (p := ⟨p, i, none⟩) h.hp v) (Kept.set w p i v fun hn => hn rfl) (not_foreign h.dk (.inl rfl))
end
theorem new_dk (w : World) (r : Nat) : DK ((w.alloc (.map #[] 0)).alloc (.cells #[.int .i64 r, .map (some w.heap.size), .slice none 0 0, .int .i64 0, .bool false, .int .i64 0] 64)) w.heap.size (w.heap.size + 1) ⟨r, [], [], 0, false⟩ [] w.heap.size (.slice none 0 0) 0 (fun _ _ => True) := by
  have hz : (w.alloc (.map #[] 0)).heap.size = w.heap.size + 1 := by simp
  refine { files := rfl, dk := ?_, hp := by omega, hm := Nat.le_refl _, mp := ?_, lg := OwnG.nil _ _ _ _, fc := fun i f h => by simp at h, ow := fun i f b h => by simp at h, af := fun i j f g h => by simp at h, as_ := fun i j a b f g h => by simp at h, sh := fun i f b h => by simp at h }
  · have := alloc_new (w.alloc (.map #[] 0)) (.cells #[.int .i64 r, .map (some w.heap.size), .slice none 0 0, .int .i64 0, .bool false, .int .i64 0] 64)
    rw [hz] at this
    exact this
  · refine (PM.made (P := Tryz.prog) (k := 9) w).block ?_
    exact ((Below.refl (w.alloc (.map #[] 0)).heap.size (w.alloc (.map #[] 0))).alloc (Nat.le_refl _) _).block _ (by omega)
theorem new_any (room : Int) (w : World) (h : 1 ≤ room ∧ room ≤ 1048576) : Calls Tryz.prog 10 #[.int .i64 room] w fun e w' => e = .returned (.tuple #[dp (w.heap.size + 1), .int .i64 0]) ∧ DK w' w.heap.size (w.heap.size + 1) ⟨room.toNat, [], [], 0, false⟩ [] w.heap.size (.slice none 0 0) 0 (fun _ _ => True) ∧ Below w.heap.size w w' := by
  obtain ⟨r, rfl⟩ := Int.eq_ofNat_of_zero_le (show 0 ≤ room by omega)
  have HD := hid (new_dk w r)
  have hmm := @run_makeMap Tryz.prog
  go_enter Tryz.func10, Tryz.ntmps10
  go_wp2
  go_ret2
  exact ⟨rfl, HD.out, ((Below.refl _ _).alloc (Nat.le_refl _) _).alloc (by simp) _⟩
section
variable {w : World} {base p : Nat} {d : DM} {fs : List FR} {m : Nat} {lv : Value} {x : Int} {V : Nat → Bool → Prop}
/-- the file of a name -/
theorem DK.who (h : DK w base p d fs m lv x V) (nm : List UInt8) : (Mp.look (plOf fs) nm = none ∧ Dk.find d.files nm = none) ∨ ∃ (i : Nat) (f : FR), fs[i]? = some f ∧ f.fm.name = nm ∧ Mp.look (plOf fs) nm = some f.fb ∧ Dk.find d.files nm = some f.fm := by
  rw [h.files]
  have key : ∀ l : List FR, (Mp.look (plOf l) nm = none ∧ Dk.find (l.map (·.fm)) nm = none) ∨ ∃ (i : Nat) (f : FR), l[i]? = some f ∧ f.fm.name = nm ∧ Mp.look (plOf l) nm = some f.fb ∧ Dk.find (l.map (·.fm)) nm = some f.fm := by
    intro l
    induction l with
    | nil => exact .inl ⟨rfl, rfl⟩
    | cons f l ih =>
      unfold plOf at ih ⊢
      unfold Dk.find at ih ⊢
      simp only [List.map_cons, look_cons, List.find?_cons]
      by_cases e : f.fm.name = nm
      · exact .inr ⟨0, f, rfl, e, by rw [if_pos e], by rw [show (f.fm.name == nm) = true by simpa using e]⟩
      · rw [if_neg e, show (f.fm.name == nm) = false by simpa using e]
        rcases ih with h | ⟨i, g, h1, h2⟩
        · exact .inl h
        · exact .inr ⟨i + 1, g, by simpa using h1, h2⟩
  exact key fs
def sizeM (d : DM) (nm : List UInt8) : Int × Int := match Dk.find d.files nm with
  | none => (0, 4)
  | some f => (f.now.length, 0)
theorem secs_len {w : World} {base : Nat} {v : Value} {l : List Sec} (h : OwnG w base 131 16 v (l.map srow)) (w' : World) {ty : TypeId} : (Builtin.len_ #[66] ty #[v]).run Tryz.prog w' = .ok (.int .i64 l.length) w' := by
  have := h.slG.len (P := Tryz.prog) (ty := ty) Tryz.underlying66 w'
  rwa [List.length_map] at this
set_option maxRecDepth 100000 in
theorem size_any (h : DK w base p d fs m lv x V) (hV : ∀ i, V i true) (nm : List UInt8) (hn : nm.length ≤ maxLen) : Calls Tryz.prog 42 #[dp p, nmv nm] w fun e w' =>
    e = .returned (.tuple #[.int .i64 (sizeM d nm).1, .int .i64 (sizeM d nm).2]) ∧ w = w' := by
  obtain ⟨c0, c1, c2, c3, c4, c5⟩ := h.cells
  have hlk := h.look nm hn
  unfold sizeM
  rcases h.who nm with ⟨hl, hf⟩ | ⟨i, f, hi, hfn, hl, hf⟩
  · rw [hl] at hlk
    rw [hf]
    clear hl hf h c0 c2 c3 c4 c5
    have hlk' : (Instr.lookup 61 (.map (some m)) (nmv nm) false).run Tryz.prog w = .ok (.pointer none) w := hlk
    clear hlk
    go_enter Tryz.func42, Tryz.ntmps42
    go_wp2
    go_ret2
    exact ⟨rfl, rfl⟩
  · rw [hl] at hlk
    rw [hf]
    obtain ⟨d0, d1, _⟩ := h.fcells hi
    have hlen := fun w' => secs_len (h.ow i f true hi (hV i)) w' (ty := 3)
    obtain ⟨oa, n, c, hv⟩ := h.sh i f true hi
    have hnv : f.nv = .slice oa n c := hv
    rw [show sl f true = f.nv from rfl, hnv] at hlen
    rw [hnv] at d0
    obtain ⟨fb, hfb⟩ : ∃ b, b = f.fb := ⟨_, rfl⟩
    obtain ⟨N, hN⟩ : ∃ N, N = f.fm.now.length := ⟨_, rfl⟩
    have hlen' : ∀ w', (Builtin.len_ #[66] 3 #[.slice oa n c]).run Tryz.prog w' = .ok (.int .i64 N) w' := fun w' => by rw [hN]; exact hlen w'
    have hlk' : (Instr.lookup 61 (.map (some m)) (nmv nm) false).run Tryz.prog w = .ok (.pointer (some ⟨fb, 0, none⟩)) w := by rw [hfb]; exact hlk
    rw [← hfb] at d0
    show Calls Tryz.prog 42 #[dp p, nmv nm] w fun e w' => e = .returned (.tuple #[.int .i64 (f.fm.now.length), .int .i64 0]) ∧ w = w'
    rw [← hN]
    clear hl hlk h c0 c2 c3 c4 c5 d1 hlen hv hnv hi hfn hN hfb hf
    go_enter Tryz.func42, Tryz.ntmps42
    go_wp2
    go_ret2
    exact ⟨rfl, rfl⟩
def hasE (d : DM) (nm : List UInt8) : Int := if d.off then 8 else if (Dk.find d.files nm).isSome then 0 else 4
/-- has: what is not there, or the file -/
theorem has_no (h : DK w base p d fs m lv x V) (nm : List UInt8) (hn : nm.length ≤ maxLen) (he : hasE d nm ≠ 0) : Calls Tryz.prog 59 #[dp p, nmv nm] w fun e w' => e = .returned (.tuple #[.pointer none, .int .i64 (hasE d nm)]) ∧ w = w' := by
  have hc := has_any h nm hn
  rcases h.who nm with ⟨hl, hf⟩ | ⟨i, f, hi, hfn, hl, hf⟩
  · unfold hasE
    unfold hasV hasE0 at hc
    rw [hl] at hc; rw [hf]
    cases ho : d.off <;> rw [ho] at hc <;> exact hc
  · unfold hasE at he ⊢
    unfold hasV hasE0 at hc
    rw [hl] at hc; rw [hf] at he ⊢
    cases ho : d.off <;> rw [ho] at hc he
    · exact absurd rfl he
    · exact hc
theorem has_yes (h : DK w base p d fs m lv x V) (nm : List UInt8) (hn : nm.length ≤ maxLen) (ho : d.off = false) {f : FR} (hl : Mp.look (plOf fs) nm = some f.fb) : Calls Tryz.prog 59 #[dp p, nmv nm] w fun e w' => e = .returned (.tuple #[.pointer (some ⟨f.fb, 0, none⟩), .int .i64 0]) ∧ w = w' := by
  have hc := has_any h nm hn
  unfold hasV hasE0 at hc
  rw [hl, ho] at hc
  exact hc
end
end Go.Proofs.YtmcllcepoiakeaaGreat.Dx
namespace Go.Mx
open Go.RowKit
theorem OwnG.empty (w : World) (e : TypeId) (s : Nat) : OwnG (w.alloc (.cells #[] e)) w.heap.size e s (.slice (some ⟨w.heap.size, 0, none⟩) 0 0) [] :=
  ⟨World.ownsRow_made w #[] 0 (Nat.le_refl _) (by simp [maxLen]) (by simp), by simp⟩
theorem flat_len {s : Nat} : ∀ (l : List (List Value)), (∀ r ∈ l, r.length = s) → l.flatten.length = l.length * s
  | [], _ => by simp
  | r :: l, h => by rw [List.flatten_cons, List.length_append, h r (by simp), flat_len l fun x hx => h x (by simp [hx]), List.length_cons, Nat.succ_mul]; omega
/-- 'append(out, xs...)' of rows that are one's own -/
theorem append_gs {P : Program} (w : World) {ops : Array Oper} {rest : List Oper} {o : Oper} {a : Act} {Q : Exit → Act → World → Prop} (hgd : o.guard = none) (s x : Operand) (t e : TypeId) (z : Value) (sz bytes : Nat)
    (ho : o.op = .call { callee := .builtin .append, args := #[s, x], argTypes := #[t, t] })
    (ht : P.underlying t = some (.slice e)) (hi : (P.info? e).map (fun i => (i.zero, i.size, i.bytes)) = some (some z, sz, bytes)) (hz : z.cells.size = sz) (hsz : 0 < sz)
    (base : Nat) (v : Value) (rows : List (List Value)) (hs : a.eval s = v) (hown : OwnG w base e sz v rows) (base2 : Nat) (e2 : TypeId) (v2 : Value) (rows2 : List (List Value)) (hx : a.eval x = v2) (hown2 : OwnG w base2 e2 sz v2 rows2)
    (hone : ∀ r ∈ rows2, ∀ u ∈ r, u.oneCell' = true)
    (hlen : (rows.length + rows2.length) * bytes ≤ 140737488355328) (hlen2 : rows.length + rows2.length ≤ 140737488355328) (hB : base ≤ w.heap.size)
    (h : ∀ v' w', OwnG w' base e sz v' (rows ++ rows2) → w.grownBy w' v.ownBlock → Below base w w' → wpList P ops Q rest (a.put o.dst v') w') : wpList P ops Q (o :: rest) a w := by
  obtain ⟨i0, hi0, hz0, hz1, hz2⟩ := info_parts hi
  rcases hown2.shape with ⟨rfl, rfl⟩ | ⟨g, c, rfl, hg1, hg2⟩
  · refine wpList_plain hgd fun K hK => ?_
    have hrun := run_append_nosrc (P := P) (w := w) (ty := o.type) ht hi0 hown.1 0
    unfold Oper.wp
    simp [execOp, ho, resolve, invoke, builtin, hs, hx, hrun, Result.andThen]
    exact hK _ _ (h v w (by simpa using hown) (World.grownBy.refl w _) (Below.refl _ _))
  · refine wpList_append_own w hgd s x t ho base e i0 _ sz bytes ht hi0 hz0 hz1 hz2 hz hsz v rows.length _ hs hown.1 ⟨g, 0, none⟩ rows2.length c rows2.flatten hx (flat_len _ hown2.2) ?_ ?_ ?_ hlen hB ?_
    · intro j u hj
      exact World.ownsRow.cells hown2.1 rfl j u hj
    · intro u hu
      obtain ⟨r, hr, hu⟩ := List.mem_flatten.1 hu
      exact hone r hr u hu
    · unfold maxLen; omega
    · intro v' w' ho' hg' _
      refine h v' w' ⟨by simpa using ho', ?_⟩ hg' ((Below.refl base w).grown hg' hB (fun k hk => (World.ownsRow.lt hown.1 k hk).1))
      intro r hr
      rcases List.mem_append.1 hr with hr | hr
      · exact hown.2 r hr
      · exact hown2.2 r hr
end Go.Mx
namespace Go.Proofs.YtmcllcepoiakeaaGreat.Dx
open Go.RowKit Go.Mx Go.Mp Go.Dk
theorem Tryz.info5 : (Tryz.prog.info? 5).map (fun i => (i.zero, i.size, i.bytes)) = some (some (.int .u8 0), 1, 1) := by kernel_rfl
theorem srow_one (s : Sec) : ∀ u ∈ srow s, u.oneCell' = true := by
  intro u hu; unfold srow at hu; simp at hu; obtain ⟨y, _, rfl⟩ := hu; rfl
theorem srow_len (s : Sec) : (srow s).length = s.length := by simp [srow]
theorem repl_set (c : UInt8) (j : Nat) (hj : j < 16) : (List.replicate j c ++ List.replicate (16 - j) 0).set j c = List.replicate (j + 1) c ++ List.replicate (16 - (j + 1)) 0 := by
  rw [List.set_append_right _ _ (by simp), List.length_replicate, Nat.sub_self, show 16 - j = (16 - (j + 1)) + 1 by omega, List.replicate_succ, List.set_cons_zero, List.replicate_succ', List.append_assoc]; rfl
set_option maxRecDepth 100000 in
theorem clone_any (v : Value) (l : List Sec) (base : Nat) (w : World) (h : OwnG w base 131 16 v (l.map srow)) (hl : l.length ≤ 65536) : Calls Tryz.prog 212 #[v] w fun e w' => ∃ v', e = .returned v' ∧ OwnG w' w.heap.size 131 16 v' (l.map srow) ∧ Below w.heap.size w w' := by
  have hone : ∀ r ∈ l.map srow, ∀ u ∈ r, u.oneCell' = true := by
    intro r hr; simp at hr; obtain ⟨s, _, rfl⟩ := hr; exact srow_one s
  rcases h.shape with ⟨rfl, hn⟩ | ⟨g, c, rfl, hg1, hg2⟩
  · rw [hn]
    clear h hone
    have hq : ∀ w', (binOp .eql 66 (.slice none 0 0) (.slice none 0 0)).run Tryz.prog w' = .ok (.bool true) w' := fun w' => run_eql_nil_slice w' 66 131 none 0 0 0 0 Tryz.underlying66
    go_enter Tryz.func212, Tryz.ntmps212
    go_wp2
    go_ret
    exact ⟨_, rfl, OwnG.nil _ _ _ _, Below.refl _ _⟩
  · rw [List.length_map] at h ⊢
    have hq : ∀ w', (binOp .eql 66 (.slice (some ⟨g, 0, none⟩) l.length c) (.slice none 0 0)).run Tryz.prog w' = .ok (.bool false) w' := fun w' => Lib.run_eql_slice_nil w' 66 131 _ _ _ _ _ Tryz.underlying66
    go_enter Tryz.func212, Tryz.ntmps212
    go_wp2_with (at_builtin; refine append_gs _ rfl _ _ 66 131 zsec 16 16 rfl Tryz.underlying66 Tryz.info131 rfl (by decide) w.heap.size _ [] rfl (OwnG.empty w 131 16) base 131 _ (l.map srow) rfl (h.below ((Below.refl _ _).alloc (Nat.le_refl _) _) (Nat.le_refl _)) hone ?_ ?_ ?_ ?_)
    · simp; omega
    · simp; omega
    · first | exact Nat.le_refl _ | (simp; try omega)
    intro v' w' ho' hg' hb'
    have hb := ((Below.refl w.heap.size w).alloc (Nat.le_refl _) (.cells #[] 131)).trans hb'
    have ho' : OwnG w' w.heap.size 131 16 v' (l.map srow) := ho'
    clear h hg' hb'
    go_wp2
    go_ret
    exact ⟨_, rfl, ho', hb⟩
end Go.Proofs.YtmcllcepoiakeaaGreat.Dx
