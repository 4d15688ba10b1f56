import Derived.Test.YtbklhhmcigangaaT
namespace Go.Lr
set_option linter.unusedVariables false
set_option linter.unusedSimpArgs false
/-- nothing is behind itself -/
def Acyc (l : List En) : Prop := ∀ x y, y ∈ aft l x → ¬ Reach l y x
/-- what a walk writes -/
structure Wr (l : List En) (st st' : List Int × List Int) (t : List Int) : Prop where
  out : st'.2 = st.2 ++ t
  sn : ∀ z, z ∈ st'.1 ↔ z ∈ st.1 ∨ z ∈ t
  nd : t.Nodup
  new : ∀ x ∈ t, x ∉ st.1 ∧ dirtyAt l x = true
  ord : ∀ a x b, t = a ++ x :: b → ∀ y ∈ aft l x, dirtyAt l y = true → y ∈ st.2 ∨ y ∈ a
theorem Wr.nil (l : List En) (st : List Int × List Int) : Wr l st st [] := ⟨by simp, by simp, by simp, by simp, by simp⟩
theorem split_append {α : Type} {t u a b : List α} {x : α} (h : t ++ u = a ++ x :: b) : (∃ b', t = a ++ x :: b') ∨ ∃ a', a = t ++ a' ∧ u = a' ++ x :: b := by
  rcases List.append_eq_append_iff.1 h with ⟨a', h1, h2⟩ | ⟨c', h1, h2⟩
  · exact .inr ⟨a', h1, h2⟩
  · cases c' with
    | nil => exact .inr ⟨[], by simpa using h1.symm, by simpa using h2.symm⟩
    | cons z c' =>
      rw [List.cons_append] at h2
      simp only [List.cons.injEq] at h2
      exact .inl ⟨c', by rw [h1, h2.1]⟩
theorem Wr.trans {l : List En} {a b c : List Int × List Int} {t u : List Int} (h : Wr l a b t) (k : Wr l b c u) : Wr l a c (t ++ u) where
  out := by rw [k.out, h.out, List.append_assoc]
  sn := fun z => by rw [k.sn, h.sn, List.mem_append, or_assoc]
  nd := by
    rw [List.nodup_append]
    exact ⟨h.nd, k.nd, fun x hx y hy e => by subst e; exact (k.new x hy).1 ((h.sn x).2 (.inr hx))⟩
  new := fun x hx => by
    rcases List.mem_append.1 hx with hx | hx
    · exact h.new x hx
    · exact ⟨fun hn => (k.new x hx).1 ((h.sn x).2 (.inl hn)), (k.new x hx).2⟩
  ord := fun p x q he y hy hd => by
    rcases split_append he with ⟨q', h1⟩ | ⟨p', h1, h2⟩
    · exact h.ord p x q' h1 y hy hd
    · rw [h1]
      rcases k.ord p' x q h2 y hy hd with h3 | h3
      · rw [h.out] at h3
        rcases List.mem_append.1 h3 with h3 | h3
        · exact .inl h3
        · exact .inr (List.mem_append_left _ h3)
      · exact .inr (List.mem_append_right _ h3)
/-- a walk writes what is dirty behind what it is after -/
theorem walk_wr {l : List En} (hac : Acyc l) : ∀ (n : Nat) (k : Int) (st : List Int × List Int), uns l st.1 < n → (∀ z ∈ st.1, z ∈ st.2 ∨ Reach l z k) → ∃ t, Wr l st (walk l n k st) t ∧ (dirtyAt l k = true → k ∈ st.1 ∨ k ∈ t)
  | 0, k, st, hu, _ => by omega
  | n + 1, k, st, hu, hz => by
    unfold walk
    by_cases h : dirtyAt l k = false ∨ k ∈ st.1
    · rw [if_pos h]
      refine ⟨[], Wr.nil _ _, fun hd => ?_⟩
      rcases h with h | h
      · rw [h] at hd; cases hd
      · exact .inl h
    · rw [if_neg h]
      rw [not_or] at h
      have hd : dirtyAt l k = true := by simpa using h.1
      have hust := uns_step hd h.2
      -- the fold over what it is after
      have hfold : ∀ (xs done : List Int) (s : List Int × List Int), (∀ x ∈ xs, x ∈ aft l k) → uns l s.1 < n → (∀ z ∈ s.1, z ∈ s.2 ∨ Reach l z k) → (∀ y ∈ done, dirtyAt l y = true → y ∈ s.2 ∧ True) →
          ∃ t, Wr l s (xs.foldl (fun s f => walk l n f s) s) t ∧ (∀ y ∈ done ++ xs, dirtyAt l y = true → y ∈ s.2 ++ t) := by
        intro xs
        induction xs with
        | nil => intro done s _ _ _ hdn; exact ⟨[], Wr.nil _ _, fun y hy hyd => by simpa using (hdn y (by simpa using hy) hyd).1⟩
        | cons x xs ih =>
          intro done s hxs hus hs hdn
          rw [List.foldl_cons]
          have hxa := hxs x (by simp)
          obtain ⟨t1, hw1, hk1⟩ := walk_wr hac n x s hus fun z hz => by
            rcases hs z hz with h1 | h1
            · exact .inl h1
            · exact .inr (h1.snoc hxa)
          have hx1 : dirtyAt l x = true → x ∈ s.2 ++ t1 := fun hxd => by
            rcases hk1 hxd with h1 | h1
            · rcases hs x h1 with h2 | h2
              · exact List.mem_append_left _ h2
              · exact absurd h2 (hac k x hxa)
            · exact List.mem_append_right _ h1
          obtain ⟨t2, hw2, hk2⟩ := ih (done ++ [x]) (walk l n x s) (fun y hy => hxs y (List.mem_cons_of_mem _ hy)) (by
              obtain ⟨r, hr⟩ := (walk_grw l n x s).pre
              rw [hr]
              have := uns_mono l s.1 r
              omega) (fun z hz => by
              rcases (hw1.sn z).1 hz with h1 | h1
              · rcases hs z h1 with h2 | h2
                · exact .inl (by rw [hw1.out]; exact List.mem_append_left _ h2)
                · exact .inr h2
              · exact .inl (by rw [hw1.out]; exact List.mem_append_right _ h1)) (fun y hy hyd => ⟨by
              rw [hw1.out]
              rcases List.mem_append.1 hy with hy | hy
              · exact List.mem_append_left _ (hdn y hy hyd).1
              · simp at hy; subst hy; exact hx1 hyd, trivial⟩)
          refine ⟨t1 ++ t2, hw1.trans hw2, fun y hy hyd => ?_⟩
          have := hk2 y (by simpa using hy) hyd
          rw [hw1.out, List.append_assoc] at this
          exact this
      obtain ⟨t, hw, hall⟩ := hfold (aft l k) [] (st.1 ++ [k], st.2) (fun x hx => hx) (by show uns l (st.1 ++ [k]) < n; omega) (fun z hz9 => by
        rcases List.mem_append.1 hz9 with hz1 | hz1
        · exact hz z hz1
        · simp at hz1; subst hz1; exact .inr (.refl _)) (fun y hy => by cases hy)
      have hkt : k ∉ t := fun hk => (hw.new k hk).1 (by simp)
      refine ⟨t ++ [k], ⟨by simp only; rw [hw.out, List.append_assoc], fun z => ?_, ?_, fun x hx => ?_, fun a x b he y hy hyd => ?_⟩, fun _ => .inr (by simp)⟩
      · simp only
        rw [hw.sn, List.mem_append, List.mem_append]
        simp only [List.mem_singleton]
        constructor
        · rintro ((h1 | h1) | h1)
          · exact .inl h1
          · exact .inr (.inr h1)
          · exact .inr (.inl h1)
        · rintro (h1 | h1 | h1)
          · exact .inl (.inl h1)
          · exact .inr h1
          · exact .inl (.inr h1)
      · rw [List.nodup_append]
        exact ⟨hw.nd, by simp, fun x hx y hy e => by simp at hy; subst hy; subst e; exact hkt hx⟩
      · rcases List.mem_append.1 hx with hx | hx
        · exact ⟨fun hn => (hw.new x hx).1 (List.mem_append_left _ hn), (hw.new x hx).2⟩
        · simp at hx; subst hx; exact ⟨h.2, hd⟩
      · rcases split_append he with ⟨b', h1⟩ | ⟨a', h1, h2⟩
        · exact hw.ord a x b' h1 y hy hyd
        · cases a' with
          | nil =>
            simp at h2
            obtain ⟨rfl, _⟩ := h2
            have := hall y (by simpa using hy) hyd
            rw [h1, List.append_nil]
            rcases List.mem_append.1 this with h3 | h3
            · exact .inl h3
            · exact .inr h3
          | cons z a' => simp at h2
theorem cleaned_cleaned (S T : Int → Bool) (l : List En) : cleaned T (cleaned S l) = cleaned (fun x => S x || T x) l := by
  unfold cleaned
  rw [List.map_map]
  apply List.map_congr_left
  intro e _
  simp only [Function.comp]
  cases hs : S e.k <;> cases ht : T e.k <;> simp [Bool.and_comm]
theorem find_cleaned (S : Int → Bool) (l : List En) (k : Int) : find (cleaned S l) k = (find l k).map fun g => { g with dirty := g.dirty && !S k, after := if S k then [] else g.after.filter fun f => !S f } := by
  induction l with
  | nil => rfl
  | cons e l ih =>
    have : cleaned S (e :: l) = { e with pg := { e.pg with dirty := e.pg.dirty && !S e.k, after := if S e.k then [] else e.pg.after.filter fun f => !S f } } :: cleaned S l := rfl
    rw [this, find_cons, find_cons, ih]
    by_cases h : e.k = k
    · rw [if_pos h, if_pos h, ← h]; rfl
    · rw [if_neg h, if_neg h]
theorem dirtyAt_cleaned (S : Int → Bool) (l : List En) (k : Int) : dirtyAt (cleaned S l) k = (dirtyAt l k && !S k) := by
  unfold dirtyAt; rw [find_cleaned]; cases find l k <;> rfl
theorem aft_cleaned (S : Int → Bool) (l : List En) (k : Int) : aft (cleaned S l) k = if S k then [] else (aft l k).filter fun f => !S f := by
  unfold aft; rw [find_cleaned]; cases find l k
  · simp
  · simp
theorem Acyc.cleaned {l : List En} (h : Acyc l) (S : Int → Bool) : Acyc (cleaned S l) := by
  have hsub : ∀ x y, y ∈ aft (Lr.cleaned S l) x → y ∈ aft l x := by
    intro x y hy
    rw [aft_cleaned] at hy
    split at hy
    · cases hy
    · exact (List.mem_filter.1 hy).1
  have hr : ∀ x y, Reach (Lr.cleaned S l) x y → Reach l x y := by
    intro x y hr
    induction hr with
    | refl _ => exact .refl _
    | step h1 _ ih => exact .step (hsub _ _ h1) ih
  exact fun x y hy hxy => h x y (hsub _ _ hy) (hr _ _ hxy)
/-- what a flush writes -/
structure Flushed (l : List En) (out : List Int) : Prop where
  nd : out.Nodup
  dirty : ∀ x ∈ out, dirtyAt l x = true
  ord : ∀ a x b, out = a ++ x :: b → ∀ y ∈ aft l x, dirtyAt l y = true → y ∈ a
theorem flush_fold {c : CM} (hac : Acyc c.all) : ∀ (ks : List Int) (s : CM × List Int), s.1.all = cleaned (fun x => decide (x ∈ s.2)) c.all → Flushed c.all s.2 →
    let s' := ks.foldl (fun s k => lineM s.1 k s.2) s
    s'.1.all = cleaned (fun x => decide (x ∈ s'.2)) c.all ∧ Flushed c.all s'.2 ∧ (∀ x ∈ s.2, x ∈ s'.2) ∧ (∀ k ∈ ks, dirtyAt c.all k = true → k ∈ s'.2) ∧ s'.1.room = s.1.room ∧ s'.1.uses = s.1.uses
  | [], s, h1, h2 => ⟨h1, h2, fun x hx => hx, fun k hk => (by cases hk), rfl, rfl⟩
  | k :: ks, s, h1, h2 => by
    simp only [List.foldl_cons]
    have hac' : Acyc s.1.all := by rw [h1]; exact hac.cleaned _
    obtain ⟨t, hw, hk⟩ := walk_wr hac' (s.1.all.length + 1) k ([], s.2) (by have := uns_le s.1.all []; show uns s.1.all [] < _; omega) (by simp)
    have e2 : (lineM s.1 k s.2).2 = s.2 ++ t := hw.out
    have htn : ∀ x ∈ t, x ∉ s.2 ∧ dirtyAt c.all x = true := fun x hx => by
      have := (hw.new x hx).2
      rw [h1, dirtyAt_cleaned] at this
      simp at this
      exact ⟨this.2, this.1⟩
    have e1 : (lineM s.1 k s.2).1.all = cleaned (fun x => decide (x ∈ (lineM s.1 k s.2).2)) c.all := by
      rw [line_all, h1, cleaned_cleaned]
      apply cleaned_congr
      intro x
      rw [e2]
      have := hw.sn x
      rw [h1] at this
      simp only [List.mem_append]
      simp at this
      by_cases hx : x ∈ s.2 <;> simp [hx, this]
    have hF : Flushed c.all (lineM s.1 k s.2).2 := by
      rw [e2]
      refine ⟨?_, fun x hx => ?_, fun a x b he y hy hyd => ?_⟩
      · rw [List.nodup_append]
        exact ⟨h2.nd, hw.nd, fun x hx y hy e => by subst e; exact (htn x hy).1 hx⟩
      · rcases List.mem_append.1 hx with hx | hx
        · exact h2.dirty x hx
        · exact (htn x hx).2
      · rcases split_append he with ⟨b', h3⟩ | ⟨a', h3, h4⟩
        · exact h2.ord a x b' h3 y hy hyd
        · rw [h3]
          by_cases hys : y ∈ s.2
          · exact List.mem_append_left _ hys
          · have hxs : x ∉ s.2 := (htn x (by rw [h4]; simp)).1
            have := hw.ord a' x b h4 y (by rw [h1, aft_cleaned]; simp [hxs, hys, hy]) (by rw [h1, dirtyAt_cleaned]; simp [hyd, hys])
            rcases this with h5 | h5
            · exact List.mem_append_left _ h5
            · exact List.mem_append_right _ h5
    obtain ⟨i1, i2, i3, i4, i5, i6⟩ := flush_fold hac ks (lineM s.1 k s.2) e1 hF
    refine ⟨i1, i2, fun x hx => i3 x (by rw [e2]; exact List.mem_append_left _ hx), fun x hx hxd => ?_, i5, i6⟩
    rcases List.mem_cons.1 hx with rfl | hx
    · by_cases hxs : x ∈ s.2
      · exact i3 x (by rw [e2]; exact List.mem_append_left _ hxs)
      · have := hk (by rw [h1, dirtyAt_cleaned]; simp [hxd, hxs])
        rcases this with h5 | h5
        · cases h5
        · exact i3 x (by rw [e2]; exact List.mem_append_right _ h5)
    · exact i4 x hx hxd
theorem dirty_key {l : List En} {x : Int} (h : dirtyAt l x = true) : x ∈ l.map (·.k) := by
  apply Classical.byContradiction
  intro hn
  unfold dirtyAt at h
  rw [find_none.2 hn] at h
  cases h
theorem mem_dirtyL (l : List En) (x : Int) : x ∈ dirtyL l ↔ dirtyAt l x = true := by
  unfold dirtyL risen
  rw [List.mem_filter, (List.mergeSort_perm _ _).mem_iff]
  exact ⟨fun h => h.2, fun h => ⟨dirty_key h, h⟩⟩
theorem flush_spec {c : CM} (hac : Acyc c.all) : Flushed c.all (flushM c).2 ∧ (∀ x, x ∈ (flushM c).2 ↔ dirtyAt c.all x = true) ∧ (flushM c).1.all = cleaned (dirtyAt c.all) c.all ∧ (flushM c).1.room = c.room ∧ (flushM c).1.uses = c.uses := by
  obtain ⟨i1, i2, i3, i4, i5, i6⟩ := flush_fold hac (dirtyL c.all) (c, []) (by simp only; rw [cleaned_none]; simp) ⟨by simp, by simp, by simp⟩
  have hm : ∀ x, x ∈ (flushM c).2 ↔ dirtyAt c.all x = true := fun x => ⟨fun h => i2.dirty x h, fun h => i4 x ((mem_dirtyL _ _).2 h) h⟩
  refine ⟨i2, hm, ?_, i5, i6⟩
  have : (flushM c).1.all = cleaned (fun x => decide (x ∈ (flushM c).2)) c.all := i1
  rw [this]
  apply cleaned_congr
  intro x
  cases hd : dirtyAt c.all x
  · have : x ∉ (flushM c).2 := fun h => by rw [(hm x).1 h] at hd; cases hd
    simp [this]
  · simp [(hm x).2 hd]
end Go.Lr
