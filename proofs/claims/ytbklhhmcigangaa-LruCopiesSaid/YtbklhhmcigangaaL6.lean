import Derived.Test.YtbklhhmcigangaaL4
namespace Go.Lr
set_option linter.unusedVariables false
set_option linter.unusedSimpArgs false
theorem find_setE (l : List En) (k x : Int) (g : Pg → Pg) : find (setE l k g) x = if x = k then (find l x).map g else find l x := by
  induction l with
  | nil => simp [find, setE]
  | cons e l ih =>
    have : setE (e :: l) k g = (if e.k == k then { e with pg := g e.pg } else e) :: setE l k g := rfl
    rw [this, find_cons, find_cons, ih]
    by_cases h : e.k = k
    · subst h
      rw [show (e.k == e.k) = true by simp]
      simp only [if_true]
      by_cases h2 : e.k = x
      · subst h2; simp
      · rw [if_neg h2, if_neg h2]
    · rw [show (e.k == k) = false by simpa using h]
      simp only [Bool.false_eq_true, if_false]
      by_cases h2 : e.k = x
      · subst h2
        rw [if_pos rfl, if_pos rfl, if_neg h]
      · rw [if_neg h2, if_neg h2]
theorem setE_keys (l : List En) (k : Int) (g : Pg → Pg) : (setE l k g).map (·.k) = l.map (·.k) := by
  unfold setE; rw [List.map_map]; apply List.map_congr_left; intro e _; simp only [Function.comp]; split <;> rfl
theorem dirtyAt_addAft (l : List En) (a b x : Int) : dirtyAt (addAft l a b) x = dirtyAt l x := by
  unfold dirtyAt addAft
  rw [find_setE]
  split
  · cases find l x
    · rfl
    · simp only [Option.map_some, Option.getD_some]; split <;> rfl
  · rfl
theorem aft_addAft (l : List En) (a b x y : Int) (h : y ∈ aft (addAft l a b) x) : y ∈ aft l x ∨ (x = a ∧ y = b) := by
  unfold aft addAft at h
  rw [find_setE] at h
  split at h
  · rename_i e
    cases hf : find l x with
    | none => rw [hf] at h; cases h
    | some g =>
      rw [hf] at h
      simp only [Option.map_some, Option.getD_some] at h
      split at h
      · left; unfold aft; rw [hf]; exact h
      · rcases List.mem_append.1 h with h | h
        · left; unfold aft; rw [hf]; exact h
        · right; simp at h; exact ⟨e, h⟩
  · left; exact h
theorem aft_addAft_sub (l : List En) (a b x y : Int) (h : y ∈ aft l x) : y ∈ aft (addAft l a b) x := by
  unfold aft addAft
  rw [find_setE]
  split
  · unfold aft at h
    cases hf : find l x with
    | none => rw [hf] at h; cases h
    | some g =>
      rw [hf] at h
      simp only [Option.map_some, Option.getD_some] at h ⊢
      split
      · exact h
      · exact List.mem_append_left _ h
  · exact h
theorem aft_addAft_new (l : List En) (a b : Int) (h : dirtyAt l a = true) : b ∈ aft (addAft l a b) a := by
  unfold aft addAft
  rw [find_setE, if_pos rfl]
  unfold dirtyAt at h
  cases hf : find l a with
  | none => rw [hf] at h; cases h
  | some g =>
    simp only [Option.map_some, Option.getD_some]
    split
    · assumption
    · simp
theorem acyc_addAft {l : List En} (h : Acyc l) {a b : Int} (hr : ¬ Reach l b a) : Acyc (addAft l a b) := by
  have key : ∀ x y, Reach (addAft l a b) x y → Reach l x y ∨ (Reach l x a ∧ Reach l b y) := by
    intro x y hxy
    induction hxy with
    | refl x => exact .inl (.refl x)
    | step h1 _ ih =>
      rcases aft_addAft _ _ _ _ _ h1 with h2 | ⟨rfl, rfl⟩
      · rcases ih with h3 | ⟨h3, h4⟩
        · exact .inl (.step h2 h3)
        · exact .inr ⟨.step h2 h3, h4⟩
      · rcases ih with h3 | ⟨h3, _⟩
        · exact .inr ⟨.refl _, h3⟩
        · exact absurd h3 hr
  intro x y hy hyx
  rcases aft_addAft _ _ _ _ _ hy with h2 | ⟨rfl, rfl⟩
  · rcases key _ _ hyx with h3 | ⟨h3, h4⟩
    · exact h x y h2 h3
    · exact hr (h4.trans (.step h2 h3))
  · rcases key _ _ hyx with h3 | ⟨h3, h4⟩
    · exact hr h3
    · exact hr h3
/-- keys 0 .. k - 1 with a byte each -/
def bys (i : Nat) : List En := (List.range i).map fun (x : Nat) => (⟨(x : Int), ⟨[UInt8.ofNat x], true, x + 1, []⟩⟩ : En)
def ordA (i : Nat) : CM := ⟨100, bys i, i⟩
theorem bys_succ (i : Nat) : bys (i + 1) = bys i ++ [⟨i, ⟨[UInt8.ofNat i], true, i + 1, []⟩⟩] := by unfold bys; rw [List.range_succ, List.map_append]; rfl
theorem find_bys (k : Nat) (x : Int) : find (bys k) x = if 0 ≤ x ∧ x < k then some ⟨[UInt8.ofNat x.toNat], true, x.toNat + 1, []⟩ else none := by
  induction k with
  | zero => rw [if_neg (by omega)]; rfl
  | succ k ih =>
    rw [bys_succ]
    have happ : ∀ (l m : List En) (k : Int), find (l ++ m) k = (find l k).or (find m k) := by
      intro l m k
      induction l with
      | nil => simp [find]
      | cons e l ih => rw [List.cons_append, find_cons, find_cons, ih]; split <;> rfl
    rw [happ, ih, find_cons]
    by_cases h : 0 ≤ x ∧ x < k
    · rw [if_pos h, if_pos (show 0 ≤ x ∧ x < ((k + 1 : Nat) : Int) by omega)]; rfl
    · rw [if_neg h]
      by_cases h2 : (k : Int) = x
      · subst h2
        rw [if_pos rfl, if_pos (show 0 ≤ (k : Int) ∧ (k : Int) < ((k + 1 : Nat) : Int) by omega)]
        simp
      · rw [if_neg h2, if_neg (show ¬ (0 ≤ x ∧ x < ((k + 1 : Nat) : Int)) by omega)]; rfl
theorem ordA_lay (i : Nat) : lay (ordA i) i [UInt8.ofNat i] true = ordA (i + 1) := by
  unfold lay ordA
  simp only
  rw [find_bys, if_neg (by omega)]
  simp only
  rw [bys_succ]
/-- a cache of k dirty keys, of which some pairs were told -/
structure Ord (k j : Nat) (prs : List (Int × Int)) (c : CM) : Prop where
  room : c.room = 100
  uses : c.uses = k
  keys : c.all.map (·.k) = (List.range k).map fun x : Nat => (x : Int)
  dirty : ∀ x, dirtyAt c.all x = decide (0 ≤ x ∧ x < k)
  acyc : Acyc c.all
  ins : ∀ e ∈ c.all, ∀ y ∈ e.pg.after, 0 ≤ y ∧ y < k
  short : ∀ e ∈ c.all, e.pg.after.length ≤ j
  told : ∀ q ∈ prs, q.2 ∈ aft c.all q.1
theorem ord_start (k : Nat) : Ord k 0 [] (ordA k) where
  room := rfl
  uses := rfl
  keys := by show (bys k).map _ = _; unfold bys; rw [List.map_map]; rfl
  dirty := fun x => by
    unfold dirtyAt
    show ((find (bys k) x).map _).getD _ = _
    rw [find_bys]
    by_cases h : 0 ≤ x ∧ x < k
    · rw [if_pos h]; simp [h]
    · rw [if_neg h]; simp; omega
  acyc := fun x y hy => by
    unfold aft at hy
    have : find (ordA k).all x = find (bys k) x := rfl
    rw [this, find_bys] at hy
    split at hy <;> cases hy
  ins := fun e he => by obtain ⟨x, _, rfl⟩ := List.mem_map.1 he; simp
  short := fun e he => by obtain ⟨x, _, rfl⟩ := List.mem_map.1 he; simp
  told := by simp
theorem Ord.after {k j : Nat} {prs : List (Int × Int)} {c : CM} (h : Ord k j prs c) (a b : Int) (ha : 0 ≤ a ∧ a < k) (hb : 0 ≤ b ∧ b < k) :
    (afterM c a b = (c, 11) ∧ Ord k (j + 1) prs c) ∨ ∃ c', afterM c a b = (c', 0) ∧ Ord k (j + 1) (prs ++ [(a, b)]) c' := by
  have hd : ¬ (dirtyAt c.all a = false ∨ dirtyAt c.all b = false) := by rw [h.dirty, h.dirty]; simp; omega
  by_cases hr : Reach c.all b a
  · left
    refine ⟨by unfold afterM; rw [if_neg hd, if_pos hr], { h with short := fun e he => Nat.le_succ_of_le (h.short e he) }⟩
  · right
    refine ⟨{ c with all := addAft c.all a b }, by unfold afterM; rw [if_neg hd, if_neg hr], ?_⟩
    have hmem : ∀ e ∈ addAft c.all a b, e ∈ c.all ∨ ∃ g ∈ c.all, e.pg.after = g.pg.after ∨ e.pg.after = g.pg.after ++ [b] := by
      intro e he
      unfold addAft setE at he
      obtain ⟨g, hg, rfl⟩ := List.mem_map.1 he
      split
      · dsimp only
        split
        · exact .inr ⟨g, hg, .inl rfl⟩
        · exact .inr ⟨g, hg, .inr rfl⟩
      · exact .inl hg
    refine { room := h.room, uses := h.uses, keys := (by show (addAft c.all a b).map _ = _; unfold addAft; rw [setE_keys]; exact h.keys), dirty := fun x => (dirtyAt_addAft _ _ _ _).trans (h.dirty x), acyc := acyc_addAft h.acyc hr, ins := fun e he y hy => ?_, short := fun e he => ?_, told := fun q hq => ?_ }
    · rcases hmem e he with h1 | ⟨g, hg, h1 | h1⟩
      · exact h.ins e h1 y hy
      · rw [h1] at hy; exact h.ins g hg y hy
      · rw [h1] at hy
        rcases List.mem_append.1 hy with hy | hy
        · exact h.ins g hg y hy
        · simp at hy; rw [hy]; exact hb
    · rcases hmem e he with h1 | ⟨g, hg, h1 | h1⟩
      · exact Nat.le_succ_of_le (h.short e h1)
      · rw [h1]; exact Nat.le_succ_of_le (h.short g hg)
      · rw [h1]; simp; exact h.short g hg
    · rcases List.mem_append.1 hq with hq | hq
      · exact aft_addAft_sub _ _ _ _ _ (h.told q hq)
      · simp at hq; subst hq
        exact aft_addAft_new _ _ _ (by rw [h.dirty]; simp; exact ha)
/-- where a key stands, from 1; 0: nowhere -/
def pos (l : List Int) (x : Int) : Nat := if x ∈ l then l.idxOf x + 1 else 0
theorem pos_snoc {l : List Int} {x : Int} (h : x ∉ l) (y : Int) : pos (l ++ [x]) y = if y = x then l.length + 1 else pos l y := by
  unfold pos
  by_cases e : y = x
  · subst e
    rw [if_pos (by simp), if_pos rfl, List.idxOf_append, if_neg h]
    simp
  · rw [if_neg e]
    by_cases hy : y ∈ l
    · rw [if_pos (List.mem_append_left _ hy), if_pos hy, List.idxOf_append, if_pos hy]
    · rw [if_neg (by simp [hy, e]), if_neg hy]
theorem Ord.flush {k j : Nat} {prs : List (Int × Int)} {c : CM} (h : Ord k j prs c) :
    (flushM c).2.length = k ∧ (flushM c).2.Nodup ∧ (∀ x ∈ (flushM c).2, 0 ≤ x ∧ x < k) ∧ (∀ q ∈ prs, pos (flushM c).2 q.2 < pos (flushM c).2 q.1) ∧ dirtyL (flushM c).1.all = [] ∧ (flushM (flushM c).1).2 = [] := by
  obtain ⟨hF, hm, hc, _, _⟩ := flush_spec h.acyc
  have hm' : ∀ x, x ∈ (flushM c).2 ↔ 0 ≤ x ∧ x < k := fun x => by rw [hm, h.dirty]; simp
  have hlen : (flushM c).2.length = k := by
    have hp : (flushM c).2.Perm ((List.range k).map fun n : Nat => (n : Int)) := by
      refine (List.perm_ext_iff_of_nodup hF.nd ?_).2 fun x => ?_
      · exact List.Pairwise.map _ (fun a b h e => h (by have e : ((a : Nat) : Int) = (b : Int) := e; omega)) (List.nodup_range (n := k))
      · rw [hm', List.mem_map]
        constructor
        · intro h; exact ⟨x.toNat, by simp; omega, by omega⟩
        · rintro ⟨n, hn, rfl⟩; simp at hn; omega
    have := hp.length_eq
    simpa using this
  have hdl : dirtyL (flushM c).1.all = [] := by
    apply List.eq_nil_iff_forall_not_mem.2
    intro x hx
    rw [mem_dirtyL, hc, dirtyAt_cleaned] at hx
    simp at hx
  refine ⟨hlen, hF.nd, fun x hx => (hm' x).1 hx, fun q hq => ?_, hdl, ?_⟩
  · have ht := h.told q hq
    -- the later one is a key
    have h1 : q.1 ∈ (flushM c).2 := by
      have : q.1 ∈ c.all.map (·.k) := by
        apply Classical.byContradiction
        intro hn
        rw [aft_none hn] at ht
        cases ht
      rw [h.keys] at this
      obtain ⟨x, hx, he⟩ := List.mem_map.1 this
      rw [hm', ← he]
      simp at hx
      omega
    have h2 : q.2 ∈ (flushM c).2 := by
      have hf : ∃ e ∈ c.all, q.2 ∈ e.pg.after := by
        unfold aft find at ht
        cases hf : c.all.find? (fun e => e.k == q.1) with
        | none => rw [hf] at ht; cases ht
        | some e => rw [hf] at ht; exact ⟨e, List.mem_of_find?_eq_some hf, ht⟩
      obtain ⟨e, he, hy⟩ := hf
      rw [hm']; exact h.ins e he _ hy
    obtain ⟨a, b, hab⟩ := List.append_of_mem h1
    have h3 := hF.ord a q.1 b hab q.2 ht ((hm q.2).1 h2)
    have hn1 : q.1 ∉ a := by
      have := hF.nd
      rw [hab, List.nodup_append] at this
      intro hx
      exact this.2.2 _ hx q.1 (by simp) rfl
    unfold pos
    rw [if_pos h1, if_pos h2, hab, List.idxOf_append, if_pos h3, List.idxOf_append, if_neg hn1]
    have := List.idxOf_lt_length_of_mem h3
    simp
    omega
  · unfold flushM
    rw [show dirtyL ((dirtyL c.all).foldl (fun s k => lineM s.1 k s.2) (c, [])).1.all = [] from hdl]
    rfl
end Go.Lr
