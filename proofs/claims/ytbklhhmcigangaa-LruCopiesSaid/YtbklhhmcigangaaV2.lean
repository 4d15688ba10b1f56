import Derived.Test.YtbklhhmcigangaaV
import Derived.Test.YtbklhhmcigangaaL6
namespace Go.Proofs.Ytbklhhmcigangaa
open Go.RowKit Go.Mx Go.Lr Go.Maps
set_option linter.unusedVariables false
set_option linter.unusedSimpArgs false
/-- a block of cells of a type that no block of a cache has -/
def Out (w : World) (q : Nat) : Prop := ∃ c t f, w.heap[q]? = some (.cells c t f) ∧ t ≠ 63 ∧ t ≠ 66 ∧ t ≠ 3
def KT (w w' : World) : Prop := Kept w w' (Out w)
theorem Out.kept {w w' : World} (h : KT w w') {q : Nat} (hq : Out w q) : Out w' q := by
  obtain ⟨c, t, f, h1, h2⟩ := hq
  exact ⟨c, t, f, (h.block q (blk_lt h1) ⟨c, t, f, h1, h2⟩).trans h1, h2⟩
theorem KT.refl (w : World) : KT w w := ⟨Nat.le_refl _, fun _ _ _ => rfl⟩
theorem KT.trans {a b c : World} (h : KT a b) (k : KT b c) : KT a c :=
  ⟨Nat.le_trans h.size k.size, fun i hi hf => (k.block i (Nat.lt_of_lt_of_le hi h.size) (hf.kept h)).trans (h.block i hi hf)⟩
theorem KT.below {w w' : World} (h : Below w.heap.size w w') : KT w w' := Kept.of_below h fun _ h _ => h
theorem CK.outFree {w : World} {base p m : Nat} {c : CM} {fs : List PR} (h : CK w base p m c fs All) {q : Nat} (hq : Out w q) : Free p m fs q := by
  obtain ⟨cc, t, f, h1, h2, h3, h4⟩ := hq
  refine ⟨fun e => ?_, fun e => ?_, fun i g hi => ⟨fun e => ?_, fun e => ?_⟩⟩
  · subst e; rw [h.ck] at h1; simp only [Option.some.injEq, Obj.cells.injEq] at h1; exact h2 h1.2.1.symm
  · obtain ⟨o, ho, hn⟩ := h.mapObj
    subst e; rw [ho] at h1; exact hn _ _ _ (Option.some.inj h1)
  · subst e; rw [(h.fc i g hi).1] at h1; simp only [Option.some.injEq, Obj.cells.injEq] at h1; exact h3 h1.2.1.symm
  · exact ownI_not (h.oa i g hi trivial) h1 h4 e
theorem KT.of_stp {w w' : World} {base p m : Nat} {c : CM} {fs fs' : List PR} (h : CK w base p m c fs All) (hs : Stp base p m w fs w' fs') : KT w w' :=
  ⟨hs.kept.size, fun k hk hq => hs.kept.block k hk (h.outFree hq)⟩
/-- blocks that may be a cache's -/
def May (w : World) (q : Nat) : Prop := ∀ c t f, w.heap[q]? = some (.cells c t f) → t = 63 ∨ t = 66 ∨ t = 3 ∨ t = 5
theorem HC.keepT {w w' : World} {base p : Nat} {c : CM} (h : HC w base p c) {N : Nat → Prop} (hk : Kept w w' N) (hN : ∀ k, k < w.heap.size → May w k → N k) : HC w' base p c := by
  obtain ⟨m, fs, h⟩ := h
  have ty : ∀ {q : Nat} {c : Array Value} {t : TypeId} {f : Nat × Nat}, w.heap[q]? = some (.cells c t f) → (t = 63 ∨ t = 66 ∨ t = 3 ∨ t = 5) → N q := fun {q c t f} hq ht =>
    hN q (blk_lt hq) fun c' t' f' hq' => by
      rw [hq] at hq'
      simp only [Option.some.injEq, Obj.cells.injEq] at hq'
      rw [← hq'.2.1]; exact ht
  refine ⟨m, fs, { all := h.all, ck := (hk.block p h.plt (ty h.ck (by simp))).trans h.ck, hp := h.hp, hm := h.hm, mp := h.mp.block (hk.block m h.mp.lt (hN _ h.mp.lt fun c t f hq => ?_)), fc := fun i f hi => ⟨(hk.block _ (blk_lt (h.fc i f hi).1) (ty (h.fc i f hi).1 (by simp))).trans (h.fc i f hi).1, (h.fc i f hi).2⟩, ob := fun i f hi => (h.ob i f hi).kept hk fun k e => ?_, oa := fun i f hi hv => ownI_kept (h.oa i f hi hv) hk fun k e => ?_, af := h.af, aa := h.aa, sb := h.sb, sa := h.sa }⟩
  · obtain ⟨o, ho, hn⟩ := h.mapObj
    rw [ho] at hq; exact absurd (Option.some.inj hq) (hn _ _ _)
  · obtain ⟨c9, f9, hc9⟩ := ownB_type (h.ob i f hi) k e
    exact ty hc9 (by simp)
  · obtain ⟨c9, f9, hc9⟩ := ownI_type (h.oa i f hi hv) k e
    exact ty hc9 (by simp)
theorem ownG_type {w : World} {base : Nat} {e : TypeId} {s : Nat} {v : Value} {rows : List (List Value)} (h : OwnG w base e s v rows) : ∀ k, v.ownBlock = some k → ∃ c f, w.heap[k]? = some (.cells c e f) := by
  intro k hk
  rcases h.1.2 with ⟨rfl, _⟩ | ⟨g, cap, cur, rfl, _, hg, _⟩
  · cases hk
  · cases hk; exact ⟨_, _, hg⟩
/-- rows of a type that is no cache's stay -/
theorem ownG_kt {w w' : World} {base : Nat} {e : TypeId} {s : Nat} {v : Value} {rows : List (List Value)} (h : OwnG w base e s v rows) (hk : KT w w') (h1 : e ≠ 63) (h2 : e ≠ 66) (h3 : e ≠ 3) : OwnG w' base e s v rows :=
  h.kept hk fun k hb => by obtain ⟨c, f, hc⟩ := ownG_type h k hb; exact ⟨c, e, f, hc, h1, h2, h3⟩
/-- growing such rows leaves the cache -/
theorem HC.grown {w w' : World} {base p : Nat} {c : CM} (h : HC w base p c) {b : Nat} {e : TypeId} {s : Nat} {v : Value} {rows : List (List Value)} (ho : OwnG w b e s v rows) (hg : w.grownBy w' v.ownBlock) (h1 : e ≠ 63) (h2 : e ≠ 66) (h3 : e ≠ 3) (h5 : e ≠ 5) : HC w' base p c :=
  h.keepT (N := fun k => v.ownBlock ≠ some k) (Kept.grown hg fun k e => by simp [e]) fun k hk hm e9 => by
    obtain ⟨c9, f9, hc9⟩ := ownG_type ho k e9
    rcases hm _ _ _ hc9 with h | h | h | h
    · exact h1 h
    · exact h2 h
    · exact h3 h
    · exact h5 h
section
variable {w w' : World} {base p : Nat} {c : CM}
theorem after_K (h : HC w base p c) (ok : OkC c) (k f : Int) (hk : isI k) (hf : isI f) {c' : CM} {r : Nat} (hm : afterM c k f = (c', r)) : Calls Try.prog 14 #[cp p, .int .i64 k, .int .i64 f] w fun e w' => e = .returned (.int .i64 r) ∧ HC w' base p c' ∧ Below base w w' ∧ KT w w' := by
  obtain ⟨m, fs, h⟩ := h
  refine (after_any h k f hk hf ok.sm ok.is ok.wgt).mono fun e w' ⟨fs', he, hc, hp, hs⟩ => ?_
  rw [hm] at he hc
  exact ⟨he, ⟨m, fs', hc⟩, hs.bel, KT.of_stp h hs⟩
theorem flush_K (h : HC w base p c) (ok : OkC c) : Calls Try.prog 15 #[cp p] w fun e w' => ∃ v, e = .returned v ∧ OwnI w' w.heap.size v (flushM c).2 ∧ HC w' base p (flushM c).1 ∧ Below base w w' ∧ KT w w' := by
  obtain ⟨m, fs, h⟩ := h
  exact (flush_any h ok).mono fun e w' ⟨fs', v, he, hc, hp, hs, ho, hf⟩ => ⟨v, he, ho, ⟨m, fs', hc⟩, hs.bel, KT.of_stp h hs⟩
end
theorem OkC.flush {c : CM} (h : OkC c) : OkC (flushM c).1 := by
  have key : ∀ (l : List Int) (st : CM × List Int), OkC st.1 → OkC (l.foldl (fun s k => lineM s.1 k s.2) st).1 := by
    intro l
    induction l with
    | nil => exact fun st h => h
    | cons k l ih => exact fun st h => ih _ (h.line k st.2)
  exact key _ (c, []) h
theorem ord_ok {k j : Nat} {prs : List (Int × Int)} {c : CM} (h : Ord k j prs c) (hk : k ≤ 1000) (hj : j ≤ 1000) : OkC c where
  is := fun e he y hy => by have := h.ins e he y hy; unfold isI; omega
  sm := fun e he => by have := h.short e he; omega
  len := by have := congrArg List.length h.keys; simp at this; omega
  ks := fun e he => by
    have : e.k ∈ c.all.map (·.k) := List.mem_map_of_mem he
    rw [h.keys] at this
    obtain ⟨x, hx, h9⟩ := List.mem_map.1 this
    simp at hx; unfold isI; omega
/-- where each of k keys stands -/
def posL (k : Nat) (l : List Int) : List Int := (List.range k).map fun (x : Nat) => (pos l x : Int)
theorem posL_nil (k : Nat) : posL k [] = List.replicate k 0 := by
  unfold posL
  rw [List.eq_replicate_iff]
  refine ⟨by simp, fun b hb => ?_⟩
  obtain ⟨x, _, rfl⟩ := List.mem_map.1 hb
  simp [pos]
theorem posL_get {k : Nat} {l : List Int} {x : Nat} (hx : x < k) : (posL k l).getD x 0 = (pos l x : Int) := by
  unfold posL
  rw [List.getD_eq_getElem?_getD, List.getElem?_map, List.getElem?_range hx]; rfl
theorem posL_len {k : Nat} {l : List Int} : (posL k l).length = k := by simp [posL]
theorem posL_step {k : Nat} {l : List Int} {i x : Nat} (hn : l.Nodup) (hi : i < l.length) (hx : l.getD i 0 = x) (hk : x < k) :
    pos (l.take i) x = 0 ∧ (posL k (l.take i)).set x ((i : Int) + 1) = posL k (l.take (i + 1)) := by
  have hg : l[i]? = some (x : Int) := by rw [List.getElem?_eq_getElem hi]; rw [List.getD_eq_getElem?_getD, List.getElem?_eq_getElem hi] at hx; simpa using hx
  have ht : l.take (i + 1) = l.take i ++ [(x : Int)] := by rw [List.take_add_one, hg]; rfl
  have hni : (x : Int) ∉ l.take i := by
    have h9 : (l.take (i + 1)).Nodup := hn.sublist (List.take_sublist _ _)
    rw [ht, List.nodup_append] at h9
    exact fun h => h9.2.2 _ h _ (by simp) rfl
  refine ⟨by unfold pos; rw [if_neg hni], ?_⟩
  apply List.ext_getElem?
  intro j
  rw [ht]
  unfold posL
  rw [List.getElem?_set]
  by_cases hj : j < k
  · rw [List.getElem?_map, List.getElem?_map, List.getElem?_range hj]
    simp only [Option.map_some]
    rw [pos_snoc hni]
    by_cases e : x = j
    · subst e
      rw [if_pos rfl, if_pos (by simp; exact hk), if_pos rfl]
      simp; omega
    · rw [if_neg e, if_neg (by omega)]
  · rw [if_neg (by omega)]
    simp [List.getElem?_eq_none (show (List.range k).length ≤ j by simp; omega)]
end Go.Proofs.Ytbklhhmcigangaa
