import Derived.Test.YtcmfmjmjamfndaaRows
import Derived.Test.YtcmfmjmjamfndaaMP
import Derived.Test.YtcmfmjmjamfndaaL
import Derived.KernelRfl
namespace Go.Mx
open Go.RowKit
set_option linter.unusedVariables false
theorem set_get {α : Type} (l : List α) (i j : Nat) (x y : α) (hi : l[i]? = some y) : (l.set i x)[j]? = if j = i then some x else l[j]? := by
  rw [List.getElem?_set]
  by_cases e : i = j
  · subst e; rw [if_pos rfl, if_pos rfl]
    have := (List.getElem?_eq_some_iff.1 hi).1
    simp [this]
  · rw [if_neg e, if_neg (Ne.symm e)]
theorem OwnG.not {w : World} {base : Nat} {e t : TypeId} {s : Nat} {v : Value} {rows : List (List Value)} (h : OwnG w base e s v rows) {q : Nat} {c : Array Value} {f : Nat × Nat} (hq : w.heap[q]? = some (.cells c t f)) (ht : t ≠ e) : v.ownBlock ≠ some q := ownsRow_not h.1 hq ht
theorem OwnG.notMap {w : World} {base : Nat} {e : TypeId} {s : Nat} {v : Value} {rows : List (List Value)} (h : OwnG w base e s v rows) {q : Nat} {o : Obj} (hq : w.heap[q]? = some o) (ho : ∀ c t f, o ≠ .cells c t f) : v.ownBlock ≠ some q := by
  intro hv
  rcases h.1.2 with ⟨rfl, _⟩ | ⟨g, cap, cur, rfl, hbg, hgg, rest⟩
  · cases hv
  · cases hv
    rw [hgg] at hq
    exact ho _ _ _ (Option.some.inj hq).symm
theorem OwnG.apart {w : World} {b1 b2 s1 s2 : Nat} {e1 e2 : TypeId} {v1 v2 : Value} {r1 r2 : List (List Value)} (h1 : OwnG w b1 e1 s1 v1 r1) (h2 : OwnG w b2 e2 s2 v2 r2) (ht : e1 ≠ e2) : ∀ k, v1.ownBlock = some k → v2.ownBlock ≠ some k := ownsRow_apart h1.1 h2.1 ht
theorem OwnG.sliceOf {w : World} {base : Nat} {e : TypeId} {s : Nat} {v : Value} {rows : List (List Value)} (h : OwnG w base e s v rows) : ∃ oa n c, v = .slice oa n c := by
  rcases h.shape with ⟨rfl, _⟩ | ⟨g, c, rfl, _⟩
  · exact ⟨_, _, _, rfl⟩
  · exact ⟨_, _, _, rfl⟩
end Go.Mx
namespace Go.Proofs.Ytcmfmjmjamfndaa
open Go.RowKit Go.Mx Go.Dk
set_option linter.unusedVariables false

/-- how a file lies in memory -/
structure FR where
  fm : FM
  fb : Nat
  nv : Value
  kv : Value
def sl (f : FR) (b : Bool) : Value := if b then f.nv else f.kv
def rws (f : FR) (b : Bool) : List Sec := if b then f.fm.now else f.fm.kept
def srow (s : Sec) : List Value := s.map Mx.u8
def lrow (r : RM) : List Value := .string ⟨r.name.toArray⟩ :: .int .i64 r.at_ :: srow r.b
def plOf (fs : List FR) : PL := fs.map fun f => (f.fm.name, f.fb)
def dcells (d : DM) (m : Nat) (lv : Value) (x : Int) : Array Value := #[.int .i64 d.room, .map (some m), lv, .int .i64 d.left, .bool d.off, .int .i64 x]

/-- blocks that no disk may have -/
def Foreign (w : World) (k : Nat) : Prop := ∃ c t fr, w.heap[k]? = some (.cells c t fr) ∧ t ≠ 59 ∧ t ≠ 65 ∧ t ≠ 71 ∧ t ≠ 73
structure Fr (base : Nat) (w w' : World) : Prop where
  bel : Below base w w'
  kept : Kept w w' (Foreign w)
theorem Fr.refl (base : Nat) (w : World) : Fr base w w := ⟨Below.refl _ _, ⟨Nat.le_refl _, fun _ _ _ => rfl⟩⟩
theorem Fr.trans {base : Nat} {a b c : World} (h : Fr base a b) (k : Fr base b c) : Fr base a c :=
  ⟨h.bel.trans k.bel, ⟨Nat.le_trans h.kept.size k.kept.size, fun i hi hf => by
    have h1 := h.kept.block i hi hf
    obtain ⟨cc, t, fr, g1, g2⟩ := hf
    exact (k.kept.block i (Nat.lt_of_lt_of_le hi h.kept.size) ⟨cc, t, fr, h1.trans g1, g2⟩).trans h1⟩⟩
theorem Fr.of_below {base : Nat} {w w' : World} (h : Below w.heap.size w w') (hb : base ≤ w.heap.size) : Fr base w w' := ⟨h.mono hb, .of_below h fun _ h _ => h⟩
theorem Fr.foreign {base : Nat} {w w' : World} (h : Fr base w w') {k : Nat} (hf : Foreign w k) : w'.heap[k]? = w.heap[k]? := by
  have hf' := hf
  obtain ⟨c, t, fr, g, _⟩ := hf'
  exact h.kept.block k (blk_lt g) hf
theorem Fr.size {base : Nat} {w w' : World} (h : Fr base w w') : w.heap.size ≤ w'.heap.size := h.kept.size
/-- what is written lies in one block of a disk's kind -/
theorem Fr.of_kept {base q : Nat} {w w' : World} (h : Below base w w') (hk : Kept w w' (· ≠ q)) (hq : ¬ Foreign w q) : Fr base w w' :=
  ⟨h, ⟨hk.size, fun k hk' hf => hk.block k hk' fun e => hq (e ▸ hf)⟩⟩
theorem not_foreign {w : World} {q : Nat} {c : Array Value} {t : TypeId} {fr : Nat × Nat} (h : w.heap[q]? = some (.cells c t fr)) (ht : t = 59 ∨ t = 65 ∨ t = 71 ∨ t = 73) : ¬ Foreign w q := by
  rintro ⟨c', t', fr', h', h1, h2, h3, h4⟩
  rw [h] at h'
  simp only [Option.some.injEq, Obj.cells.injEq] at h'
  obtain ⟨_, rfl, _⟩ := h'
  rcases ht with rfl | rfl | rfl | rfl
  · exact h1 rfl
  · exact h2 rfl
  · exact h3 rfl
  · exact h4 rfl
theorem not_foreign_map {w : World} {q : Nat} {o : Obj} (h : w.heap[q]? = some o) (ho : ∀ c t f, o ≠ .cells c t f) : ¬ Foreign w q := by
  rintro ⟨c', t', fr', h', _⟩
  rw [h] at h'
  exact ho _ _ _ (Option.some.inj h')

/-- a disk in memory; V: which slices are right (the one of what stands there: true; of what is kept: false) -/
structure DK (w : World) (base p : Nat) (d : DM) (fs : List FR) (m : Nat) (lv : Value) (x : Int) (V : Nat → Bool → Prop) : Prop where
  files : d.files = fs.map (·.fm)
  dk : w.heap[p]? = some (.cells (dcells d m lv x) 59 (0, 0))
  hp : base ≤ p
  hm : base ≤ m
  mp : PM Try.prog 9 w m (plOf fs)
  lg : OwnG w base 73 18 lv (d.log.map lrow)
  fc : ∀ (i : Nat) (f : FR), fs[i]? = some f → w.heap[f.fb]? = some (.cells #[f.nv, f.kv] 65 (0, 0)) ∧ base ≤ f.fb
  ow : ∀ (i : Nat) (f : FR) (b : Bool), fs[i]? = some f → V i b → OwnG w base 71 16 (sl f b) ((rws f b).map srow)
  af : ∀ (i j : Nat) (f g : FR), fs[i]? = some f → fs[j]? = some g → i ≠ j → f.fb ≠ g.fb
  as_ : ∀ (i j : Nat) (a b : Bool) (f g : FR), fs[i]? = some f → fs[j]? = some g → V i a → V j b → (i ≠ j ∨ a ≠ b) → ∀ k, (sl f a).ownBlock = some k → (sl g b).ownBlock ≠ some k
  sh : ∀ (i : Nat) (f : FR) (b : Bool), fs[i]? = some f → ∃ oa n c, sl f b = .slice oa n c
def IsDisk (w : World) (base p : Nat) (d : DM) : Prop := ∃ fs m lv x, DK w base p d fs m lv x fun _ _ => True

section
variable {w w' : World} {base p : Nat} {d : DM} {fs : List FR} {m : Nat} {lv : Value} {x : Int} {V : Nat → Bool → Prop}
theorem DK.plt (h : DK w base p d fs m lv x V) : p < w.heap.size := blk_lt h.dk
theorem DK.cells (h : DK w base p d fs m lv x V) : w.cell? ⟨p, 0, none⟩ = some (.int .i64 d.room) ∧ w.cell? ⟨p, 1, none⟩ = some (.map (some m)) ∧ w.cell? ⟨p, 2, none⟩ = some lv ∧ w.cell? ⟨p, 3, none⟩ = some (.int .i64 d.left) ∧ w.cell? ⟨p, 4, none⟩ = some (.bool d.off) ∧ w.cell? ⟨p, 5, none⟩ = some (.int .i64 x) := by
  have h := h.dk
  refine ⟨?_, ?_, ?_, ?_, ?_, ?_⟩ <;> simp [World.cell?, h, dcells]
theorem DK.fz (h : DK w base p d fs m lv x V) (i : Nat) : w.frozen? ⟨p, i, none⟩ = false := by
  have h := h.dk
  simp [World.frozen?, h]
theorem DK.fcells (h : DK w base p d fs m lv x V) {i : Nat} {f : FR} (hi : fs[i]? = some f) : w.cell? ⟨f.fb, 0, none⟩ = some f.nv ∧ w.cell? ⟨f.fb, 1, none⟩ = some f.kv ∧ (∀ j, w.frozen? ⟨f.fb, j, none⟩ = false) := by
  have h := (h.fc i f hi).1
  refine ⟨?_, ?_, fun j => ?_⟩
  · simp [World.cell?, h]
  · simp [World.cell?, h]
  · simp [World.frozen?, h]
theorem DK.mapObj (h : DK w base p d fs m lv x V) : ∃ o, w.heap[m]? = some o ∧ ∀ c t f, o ≠ .cells c t f := by
  obtain ⟨es, c, hm⟩ := h.mp.isMap
  exact ⟨_, hm, fun _ _ _ e => by cases e⟩
theorem not_cells {o : Obj} {q : Nat} (h : w.heap[q]? = some o) (ho : ∀ c t f, o ≠ .cells c t f) {b : Nat} {c : Array Value} {t : TypeId} {fr : Nat × Nat} (hb : w.heap[b]? = some (.cells c t fr)) : b ≠ q := by
  rintro rfl; rw [h] at hb; exact ho _ _ _ (Option.some.inj hb)
/-- a step that leaves the disk's blocks as they were -/
theorem DK.keep (h : DK w base p d fs m lv x V) {N : Nat → Prop} (hk : Kept w w' N) (h1 : N p) (h2 : N m) (h3 : ∀ k, lv.ownBlock = some k → N k) (h4 : ∀ (i : Nat) (f : FR), fs[i]? = some f → N f.fb) (h5 : ∀ (i : Nat) (f : FR) (b : Bool), fs[i]? = some f → V i b → ∀ k, (sl f b).ownBlock = some k → N k) : DK w' base p d fs m lv x V where
  files := h.files
  dk := (hk.block p h.plt h1).trans h.dk
  hp := h.hp
  hm := h.hm
  mp := h.mp.block (hk.block m h.mp.lt h2)
  lg := h.lg.kept hk h3
  fc := fun i f hi => ⟨(hk.block _ (blk_lt (h.fc i f hi).1) (h4 i f hi)).trans (h.fc i f hi).1, (h.fc i f hi).2⟩
  ow := fun i f b hi hv => (h.ow i f b hi hv).kept hk (h5 i f b hi hv)
  af := h.af
  as_ := h.as_
  sh := h.sh
theorem DK.below (h : DK w base p d fs m lv x V) (hb : Below w.heap.size w w') : DK w' base p d fs m lv x V :=
  h.keep (N := fun _ => True) (.of_below hb fun _ h _ => h) trivial trivial (fun _ _ => trivial) (fun _ _ _ => trivial) (fun _ _ _ _ _ _ _ => trivial)
theorem DK.weaken (h : DK w base p d fs m lv x V) {V' : Nat → Bool → Prop} (hv : ∀ i b, V' i b → V i b) : DK w base p d fs m lv x V' :=
  { h with ow := fun i f b hi h' => h.ow i f b hi (hv _ _ h'), as_ := fun i j a b f g hi hj ha hb => h.as_ i j a b f g hi hj (hv _ _ ha) (hv _ _ hb) }
/-- the disk's own cells alone turn -/
theorem DK.disk (h : DK w base p d fs m lv x V) (hk : Kept w w' (· ≠ p)) (d' : DM) (x' : Int) (hd : w'.heap[p]? = some (.cells (dcells d' m lv x') 59 (0, 0))) (h1 : d'.files = d.files) (h2 : d'.log = d.log) : DK w' base p d' fs m lv x' V := by
  obtain ⟨o, hm, ho⟩ := h.mapObj
  exact { files := h1.trans h.files, dk := hd, hp := h.hp, hm := h.hm, mp := h.mp.block (hk.block m h.mp.lt (not_cells hm ho h.dk).symm),
          lg := by rw [h2]; exact h.lg.kept hk fun k e => by rintro rfl; exact h.lg.not h.dk (by decide) e
          fc := fun i f hi => ⟨(hk.block _ (blk_lt (h.fc i f hi).1) (blk_ne (h.fc i f hi).1 h.dk (by decide))).trans (h.fc i f hi).1, (h.fc i f hi).2⟩
          ow := fun i f b hi hv => (h.ow i f b hi hv).kept hk fun k e => by rintro rfl; exact (h.ow i f b hi hv).not h.dk (by decide) e
          af := h.af, as_ := h.as_, sh := h.sh }
/-- the log alone turns -/
theorem DK.log (h : DK w base p d fs m lv x V) {N : Nat → Prop} (hk : Kept w w' N) (hN : ∀ k, k ≠ p → lv.ownBlock ≠ some k → N k) (lv' : Value) (l' : List RM) (hd : w'.heap[p]? = some (.cells (dcells { d with log := l' } m lv' x) 59 (0, 0))) (hl : OwnG w' base 73 18 lv' (l'.map lrow)) :
    DK w' base p { d with log := l' } fs m lv' x V := by
  obtain ⟨o, hm, ho⟩ := h.mapObj
  exact { files := h.files, dk := hd, hp := h.hp, hm := h.hm, mp := h.mp.block (hk.block m h.mp.lt (hN _ (not_cells hm ho h.dk).symm (h.lg.notMap hm ho))), lg := hl
          fc := fun i f hi => ⟨(hk.block _ (blk_lt (h.fc i f hi).1) (hN _ (blk_ne (h.fc i f hi).1 h.dk (by decide)) (h.lg.not (h.fc i f hi).1 (by decide)))).trans (h.fc i f hi).1, (h.fc i f hi).2⟩
          ow := fun i f b hi hv => (h.ow i f b hi hv).kept hk fun k e => hN k (by rintro rfl; exact (h.ow i f b hi hv).not h.dk (by decide) e) (fun e2 => (h.lg.apart (h.ow i f b hi hv) (by decide) k e2) e)
          af := h.af, as_ := h.as_, sh := h.sh }
/-- one file alone turns -/
theorem DK.file (h : DK w base p d fs m lv x V) {i : Nat} {f : FR} (hi : fs[i]? = some f) (f' : FR) (hn : f'.fm.name = f.fm.name) (hb : f'.fb = f.fb) {N : Nat → Prop} (hk : Kept w w' N)
    (hN : ∀ k, k ≠ f.fb → (∀ b, V i b → (sl f b).ownBlock ≠ some k) → N k) (hc : w'.heap[f.fb]? = some (.cells #[f'.nv, f'.kv] 65 (0, 0))) (V' : Nat → Bool → Prop) (hV : ∀ j b, j ≠ i → V' j b → V j b)
    (how : ∀ b, V' i b → OwnG w' base 71 16 (sl f' b) ((rws f' b).map srow))
    (hnew : ∀ b, V' i b → ∀ k, (sl f' b).ownBlock = some k → (∃ a, V i a ∧ (sl f a).ownBlock = some k) ∨ w.heap.size ≤ k)
    (hap : V' i true → V' i false → ∀ k, f'.nv.ownBlock = some k → f'.kv.ownBlock ≠ some k) (hsh : ∀ b, ∃ oa n c, sl f' b = .slice oa n c) :
    DK w' base p { d with files := (fs.set i f').map (·.fm) } (fs.set i f') m lv x V' := by
  obtain ⟨o, hm, ho⟩ := h.mapObj
  have hg := fun j => set_get fs i j f' f hi
  have hfc := (h.fc i f hi).1
  have npl : plOf (fs.set i f') = plOf fs := by
    unfold plOf
    apply List.ext_getElem?
    intro j
    rw [List.getElem?_map, List.getElem?_map, hg j]
    by_cases e : j = i
    · subst e; rw [if_pos rfl, hi]; simp [hn, hb]
    · rw [if_neg e]
  have nsl : ∀ b, V i b → ∀ q c t fr, w.heap[q]? = some (.cells c t fr) → t ≠ 71 → (sl f b).ownBlock ≠ some q := fun b hv q c t fr hq ht => (h.ow i f b hi hv).not hq ht
  have keptOther : ∀ j g b, fs[j]? = some g → j ≠ i → V j b → OwnG w' base 71 16 (sl g b) ((rws g b).map srow) := fun j g b hj hji hv =>
    (h.ow j g b hj hv).kept hk fun k e => hN k (by rintro rfl; exact (h.ow j g b hj hv).not hfc (by decide) e) fun a ha e2 => h.as_ i j a b f g hi hj ha hv (.inl (Ne.symm hji)) k e2 e
  refine { files := rfl, dk := ?_, hp := h.hp, hm := h.hm, mp := ?_, lg := ?_, fc := ?_, ow := ?_, af := ?_, as_ := ?_, sh := ?_ }
  · exact (hk.block p h.plt (hN p (blk_ne h.dk hfc (by decide)) fun b hv => nsl b hv p _ _ _ h.dk (by decide))).trans h.dk
  · rw [npl]
    refine h.mp.block (hk.block m h.mp.lt (hN m (not_cells hm ho hfc).symm fun b hv => (h.ow i f b hi hv).notMap hm ho))
  · exact h.lg.kept hk fun k e => hN k (by rintro rfl; exact h.lg.not hfc (by decide) e) fun b hv e2 => (h.lg.apart (h.ow i f b hi hv) (by decide) k e) e2
  · intro j g hj
    rw [hg j] at hj
    by_cases e : j = i
    · rw [if_pos e] at hj; cases hj
      rw [hb]; exact ⟨hc, (h.fc i f hi).2⟩
    · rw [if_neg e] at hj
      refine ⟨(hk.block _ (blk_lt (h.fc j g hj).1) (hN _ (h.af j i g f hj hi e) fun b hv => nsl b hv _ _ _ _ (h.fc j g hj).1 (by decide))).trans (h.fc j g hj).1, (h.fc j g hj).2⟩
  · intro j g b hj hv
    rw [hg j] at hj
    by_cases e : j = i
    · subst e; rw [if_pos rfl] at hj; cases hj; exact how b hv
    · rw [if_neg e] at hj; exact keptOther j g b hj e (hV j b e hv)
  · intro j j' g g' hj hj' hne
    rw [hg] at hj hj'
    by_cases e : j = i
    · subst e
      rw [if_pos rfl] at hj; cases hj
      rw [if_neg (Ne.symm hne)] at hj'
      rw [hb]; exact h.af j j' f g' hi hj' hne
    · rw [if_neg e] at hj
      by_cases e' : j' = i
      · subst e'; rw [if_pos rfl] at hj'; cases hj'
        rw [hb]; exact h.af j j' g f hj hi hne
      · rw [if_neg e'] at hj'; exact h.af j j' g g' hj hj' hne
  · intro j j' a b g g' hj hj' ha hb' hne k hka hkb
    rw [hg] at hj hj'
    have lt_of : ∀ j g b, fs[j]? = some g → V j b → (sl g b).ownBlock = some k → k < w.heap.size := fun j g b hj hv e => (h.ow j g b hj hv).lt k e
    by_cases e : j = i
    · subst e
      rw [if_pos rfl] at hj; cases hj
      by_cases e' : j' = j
      · subst e'; rw [if_pos rfl] at hj'; cases hj'
        have hab : a ≠ b := hne.resolve_left (fun h => h rfl)
        cases a <;> cases b
        · exact hab rfl
        · exact hap hb' ha k hkb hka
        · exact hap ha hb' k hka hkb
        · exact hab rfl
      · rw [if_neg e'] at hj'
        rcases hnew a ha k hka with ⟨a', ha', hk'⟩ | hge
        · exact h.as_ j j' a' b f g' hi hj' ha' (hV _ _ e' hb') (.inl (Ne.symm e')) k hk' hkb
        · have := lt_of j' g' b hj' (hV _ _ e' hb') hkb; omega
    · rw [if_neg e] at hj
      by_cases e' : j' = i
      · subst e'; rw [if_pos rfl] at hj'; cases hj'
        rcases hnew b hb' k hkb with ⟨b', hb2, hk'⟩ | hge
        · exact h.as_ j j' a b' g f hj hi (hV _ _ e ha) hb2 (.inl e) k hka hk'
        · have := lt_of j g a hj (hV _ _ e ha) hka; omega
      · rw [if_neg e'] at hj'
        exact h.as_ j j' a b g g' hj hj' (hV _ _ e ha) (hV _ _ e' hb') hne k hka hkb
  · intro j g b hj
    rw [hg] at hj
    by_cases e : j = i
    · rw [if_pos e] at hj; cases hj; exact hsh b
    · rw [if_neg e] at hj; exact h.sh j g b hj
end
end Go.Proofs.Ytcmfmjmjamfndaa
