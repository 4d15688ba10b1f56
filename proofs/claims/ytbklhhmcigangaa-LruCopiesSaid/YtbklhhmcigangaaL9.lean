import Derived.Test.YtbklhhmcigangaaRT
namespace Go.Lr
set_option linter.unusedVariables false
set_option linter.unusedSimpArgs false
/-- the cache is the document's -/
structure Sim (t : Nat) (c : CM) (r : RC) : Prop where
  room : r.room = c.room
  ul : UL c (r.l.map (·.k))
  val : ∀ it ∈ r.l, ∃ g, find c.all it.k = some g ∧ g.b = it.b ∧ g.dirty = it.d
  aft : ∀ a, Lr.aft c.all a = (r.r.filter fun q => q.1 == a).map (·.2)
  drt : ∀ q ∈ r.r, dirtyAt c.all q.1 = true ∧ dirtyAt c.all q.2 = true
  rank : ∃ ρ : Int → Nat, ∀ q ∈ r.r, ρ q.2 < ρ q.1
  kn : (c.all.map (·.k)).Nodup
  us : ∀ e ∈ c.all, e.pg.used ≤ c.uses
  ut : c.uses ≤ t
  rt : r.r.length ≤ t
  bl : ∀ it ∈ r.l, it.b.length ≤ 1000000
theorem find_of_mem {l : List En} (hn : (l.map (·.k)).Nodup) {e : En} (he : e ∈ l) : find l e.k = some e.pg := by
  induction l with
  | nil => cases he
  | cons x l ih =>
    rw [List.map_cons, List.nodup_cons] at hn
    rw [find_cons]
    rcases List.mem_cons.1 he with rfl | h
    · rw [if_pos rfl]
    · rw [if_neg (fun e9 => hn.1 (by rw [e9]; exact List.mem_map.2 ⟨e, h, rfl⟩)), ih hn.2 h]
theorem find_mem {l : List En} {k : Int} {g : Pg} (h : find l k = some g) : ∃ e ∈ l, e.k = k ∧ e.pg = g := by
  unfold find at h
  cases hq : l.find? (fun e => e.k == k) with
  | none => rw [hq] at h; cases h
  | some e => rw [hq] at h; cases h; exact ⟨e, List.mem_of_find?_eq_some hq, by simpa using List.find?_some hq, rfl⟩
section
variable {t : Nat} {c : CM} {r : RC}
theorem Sim.len (h : Sim t c r) : r.l.length = c.all.length := by have := h.ul.len h.kn; rwa [List.length_map] at this
theorem Sim.rnd (h : Sim t c r) : (r.l.map (·.k)).Nodup := h.ul.nodup
theorem Sim.dirty (h : Sim t c r) (k : Int) : dirtyR r.l k = dirtyAt c.all k := by
  unfold dirtyR
  cases ha : atR r.l k with
  | none =>
    have : k ∉ c.all.map (·.k) := fun hm => atR_none.1 ha ((h.ul.mem k).2 hm)
    unfold dirtyAt; rw [find_none.2 this]; rfl
  | some i =>
    obtain ⟨it, h1, h2⟩ := atR_some ha
    obtain ⟨g, g1, g2, g3⟩ := h.val it (List.mem_of_getElem? h1)
    simp only
    rw [h1]
    unfold dirtyAt
    rw [← h2, g1]; simp [g3]
theorem Sim.mono {t' : Nat} (h : Sim t c r) (ht : t ≤ t') : Sim t' c r := { h with ut := Nat.le_trans h.ut ht, rt := Nat.le_trans h.rt ht }
end
theorem walk_line {l : List En} {R : List (Int × Int)} {ρ : Int → Nat} (hρ : ∀ q ∈ R, ρ q.2 < ρ q.1) (haft : ∀ a, aft l a = (R.filter fun q => q.1 == a).map (·.2)) (hd : ∀ q ∈ R, dirtyAt l q.2 = true) (o0 : List Int) :
    ∀ (n m : Nat) (k : Int) (sn o : List Int) (P : Int → Prop), uns l sn < n → ρ k < m → dirtyAt l k = true → (∀ x, x ∈ sn ↔ x ∈ o ∨ P x) → (∀ x, P x → ρ k < ρ x) →
      (∀ x, x ∈ (walk l n k (sn, o0 ++ o)).1 ↔ x ∈ lineR R m o k ∨ P x) ∧ (walk l n k (sn, o0 ++ o)).2 = o0 ++ lineR R m o k := by
  intro n
  induction n with
  | zero => intro m k sn o P hu; omega
  | succ n ih =>
    intro m k sn o P hu hm hk hs hP
    obtain ⟨m, rfl⟩ : ∃ m', m = m' + 1 := ⟨m - 1, by omega⟩
    unfold walk lineR
    by_cases hks : k ∈ sn
    · have hko : k ∈ o := by
        rcases (hs k).1 hks with h | h
        · exact h
        · have := hP k h; omega
      rw [if_pos (.inr hks), if_pos hko]
      exact ⟨hs, rfl⟩
    · have hko : k ∉ o := fun h => hks ((hs k).2 (.inl h))
      rw [if_neg (by rw [hk]; simpa using hks), if_neg hko]
      have hus := uns_step hk hks
      have key : ∀ (xs : List (Int × Int)), (∀ q ∈ xs, q ∈ R ∧ q.1 = k) → ∀ (s1 o1 : List Int), uns l s1 < n → (∀ x, x ∈ s1 ↔ x ∈ o1 ∨ (P x ∨ x = k)) →
          (∀ x, x ∈ (xs.foldl (fun s q => walk l n q.2 s) (s1, o0 ++ o1)).1 ↔ x ∈ xs.foldl (fun o q => lineR R m o q.2) o1 ∨ (P x ∨ x = k)) ∧ (xs.foldl (fun s q => walk l n q.2 s) (s1, o0 ++ o1)).2 = o0 ++ xs.foldl (fun o q => lineR R m o q.2) o1 := by
        intro xs
        induction xs with
        | nil => exact fun _ s1 o1 _ h1 => ⟨h1, rfl⟩
        | cons q xs ihx =>
          intro hxs s1 o1 hu1 h1
          obtain ⟨hq, hqk⟩ := hxs q (List.mem_cons_self ..)
          have hr := hρ q hq
          rw [hqk] at hr
          obtain ⟨a1, a2⟩ := ih m q.2 s1 o1 (fun x => P x ∨ x = k) hu1 (by omega) (hd q hq) h1 (fun x hx => by
            rcases hx with hx | hx
            · have := hP x hx; omega
            · rw [hx]; exact hr)
          rw [List.foldl_cons, List.foldl_cons]
          obtain ⟨s2, hs2⟩ : ∃ s2, walk l n q.2 (s1, o0 ++ o1) = (s2, o0 ++ lineR R m o1 q.2) := ⟨_, Prod.ext rfl a2⟩
          obtain ⟨tt, htt⟩ := (walk_grw l n q.2 (s1, o0 ++ o1)).pre
          rw [hs2] at a1 htt ⊢
          refine ihx (fun x hx => hxs x (List.mem_cons_of_mem _ hx)) s2 _ ?_ a1
          simp only at htt
          rw [htt]
          have := uns_mono l s1 tt
          omega
      have hfold : (aft l k).foldl (fun s f => walk l n f s) (sn ++ [k], o0 ++ o) = (R.filter fun q => q.1 == k).foldl (fun s q => walk l n q.2 s) (sn ++ [k], o0 ++ o) := by
        rw [haft, List.foldl_map]
      obtain ⟨b1, b2⟩ := key (R.filter fun q => q.1 == k) (fun q hq => by have := List.mem_filter.1 hq; exact ⟨this.1, by simpa using this.2⟩) (sn ++ [k]) o (by omega) (fun x => by
        rw [List.mem_append, hs]; simp only [List.mem_singleton]
        constructor
        · rintro ((h | h) | h)
          · exact .inl h
          · exact .inr (.inl h)
          · exact .inr (.inr h)
        · rintro (h | h | h)
          · exact .inl (.inl h)
          · exact .inl (.inr h)
          · exact .inr h)
      simp only
      rw [hfold]
      refine ⟨fun x => ?_, by rw [b2, List.append_assoc]⟩
      rw [b1, List.mem_append]; simp only [List.mem_singleton]
      constructor
      · rintro (h | h | h)
        · exact .inl (.inl h)
        · exact .inr h
        · exact .inl (.inr h)
      · rintro ((h | h) | h)
        · exact .inl h
        · exact .inr (.inr h)
        · exact .inr (.inl h)
theorem usedAt_cleaned (S : Int → Bool) (l : List En) (k : Int) : usedAt (cleaned S l) k = usedAt l k := by
  unfold usedAt; rw [find_cleaned]; cases find l k <;> rfl
theorem cleans_spec (W : List Int) : ∀ r : RC, W.foldl cleanR r = { r with l := r.l.map fun it => if it.k ∈ W then { it with d := false } else it, r := r.r.filter fun q => !decide (q.1 ∈ W) && !decide (q.2 ∈ W) } := by
  induction W with
  | nil =>
    intro r
    have e1 : (r.l.map fun it => if it.k ∈ ([] : List Int) then ({ it with d := false } : It) else it) = r.l := by
      conv => rhs; rw [← List.map_id r.l]
      apply List.map_congr_left; intro e _; simp
    have e2 : (r.r.filter fun q => !decide (q.1 ∈ ([] : List Int)) && !decide (q.2 ∈ ([] : List Int))) = r.r := List.filter_eq_self.2 (by simp)
    rw [e1, e2]; rfl
  | cons k W ih =>
    intro r
    rw [List.foldl_cons, ih]
    unfold cleanR offR relR
    simp only
    congr 1
    · rw [List.map_map]
      apply List.map_congr_left
      intro e _
      simp only [Function.comp]
      by_cases h1 : e.k = k
      · rw [if_pos h1]; simp [h1]
      · rw [if_neg h1]; simp [h1]
    · rw [List.filter_filter]
      congr 1
      funext q
      by_cases h1 : q.1 = k <;> by_cases h2 : q.2 = k <;> simp [h1, h2, Bool.and_comm]
section
variable {t : Nat} {c : CM} {r : RC}
theorem Sim.clean (h : Sim t c r) (W : List Int) (S : Int → Bool) (hS : ∀ x, S x = decide (x ∈ W)) : Sim t { c with all := cleaned S c.all } (W.foldl cleanR r) := by
  rw [cleans_spec]
  have hk : (r.l.map fun it => if it.k ∈ W then ({ it with d := false } : It) else it).map (·.k) = r.l.map (·.k) := by
    rw [List.map_map]; apply List.map_congr_left; intro e _; simp only [Function.comp]; split <;> rfl
  have hkc : (cleaned S c.all).map (·.k) = c.all.map (·.k) := cleaned_keys S c.all
  refine { room := h.room, ul := ⟨fun y => ?_, ?_⟩, val := fun it hit => ?_, aft := fun a => ?_, drt := fun q hq => ?_, rank := ?_, kn := by show ((cleaned S c.all).map _).Nodup; rw [hkc]; exact h.kn, us := fun e he => ?_, ut := h.ut, rt := Nat.le_trans (List.length_filter_le _ _) h.rt, bl := fun it hit => ?_ }
  · show y ∈ (r.l.map _).map _ ↔ y ∈ (cleaned S c.all).map _
    rw [hk, hkc]; exact h.ul.mem y
  · show List.Pairwise _ ((r.l.map _).map _)
    rw [hk]
    exact h.ul.up.imp fun {a b} hab => by show usedAt (cleaned S c.all) a < usedAt (cleaned S c.all) b; rw [usedAt_cleaned, usedAt_cleaned]; exact hab
  · obtain ⟨it0, h0, rfl⟩ := List.mem_map.1 hit
    obtain ⟨g, g1, g2, g3⟩ := h.val it0 h0
    have hkk : (if it0.k ∈ W then ({ it0 with d := false } : It) else it0).k = it0.k := by split <;> rfl
    refine ⟨_, by show find (cleaned S c.all) _ = _; rw [hkk, find_cleaned, g1]; rfl, ?_, ?_⟩
    · simp only; rw [g2]; split <;> rfl
    · simp only; rw [g3, hS]
      by_cases hw : it0.k ∈ W
      · rw [if_pos hw]; simp [hw]
      · rw [if_neg hw]; simp [hw]
  · show Lr.aft (cleaned S c.all) a = _
    rw [aft_cleaned, h.aft]
    simp only
    by_cases ha : a ∈ W
    · rw [show S a = true by rw [hS]; simpa using ha, if_pos rfl]
      symm
      rw [List.map_eq_nil_iff, List.filter_eq_nil_iff]
      intro q hq
      have := (List.mem_filter.1 hq).2
      simp at this ⊢
      intro e; rw [e] at this; exact this.1 ha
    · rw [show S a = false by rw [hS]; simpa using ha]
      simp only [Bool.false_eq_true, if_false]
      rw [List.filter_map, List.filter_filter, List.filter_filter]
      congr 1
      apply List.filter_congr
      intro q _
      simp only [Function.comp]
      rw [hS]
      by_cases e : q.1 = a
      · simp [e, ha]
      · have : (q.1 == a) = false := by simpa using e
        rw [this]; simp
  · have h1 := List.mem_filter.1 hq
    obtain ⟨d1, d2⟩ := h.drt q h1.1
    have h2 := h1.2
    simp at h2
    show dirtyAt (cleaned S c.all) q.1 = true ∧ dirtyAt (cleaned S c.all) q.2 = true
    rw [dirtyAt_cleaned, dirtyAt_cleaned, d1, d2, hS, hS]
    simp [h2.1, h2.2]
  · obtain ⟨ρ, hρ⟩ := h.rank
    exact ⟨ρ, fun q hq => hρ q (List.mem_filter.1 hq).1⟩
  · obtain ⟨g, hg, rfl⟩ := List.mem_map.1 he
    exact h.us g hg
  · obtain ⟨it0, h0, rfl⟩ := List.mem_map.1 hit
    have := h.bl it0 h0
    split <;> exact this
theorem Sim.line (h : Sim t c r) (k : Int) (out : List Int) (ρ : Int → Nat) (hρ : ∀ q ∈ r.r, ρ q.2 < ρ q.1) : (lineM c k out).2 = out ++ writeL r ρ k ∧ Sim t (lineM c k out).1 (writeR r ρ k) := by
  have hw : (∀ x, x ∈ (walk c.all (c.all.length + 1) k ([], out)).1 ↔ x ∈ writeL r ρ k) ∧ (walk c.all (c.all.length + 1) k ([], out)).2 = out ++ writeL r ρ k := by
    unfold writeL
    rw [h.dirty]
    cases hd : dirtyAt c.all k
    · unfold walk; rw [if_pos (.inl hd)]; simp
    · have h9 := walk_line hρ h.aft (fun q hq => (h.drt q hq).2) out (c.all.length + 1) (ρ k + 1) k [] [] (fun _ => False) (by have := uns_le c.all []; omega) (Nat.lt_succ_self _) hd (by simp) (by simp)
      rw [List.append_nil] at h9
      rw [if_pos rfl]
      exact ⟨fun x => by rw [h9.1]; simp, h9.2⟩
  refine ⟨hw.2, ?_⟩
  unfold writeR
  exact h.clean (writeL r ρ k) _ fun x => decide_eq_decide.2 (hw.1 x)
theorem find_loose (l : List En) (k x : Int) : find (loose l k) x = (find l x).map fun g => { g with after := if x = k then [] else g.after.filter fun f => !(f == k) } := by
  induction l with
  | nil => rfl
  | cons e l ih =>
    have : loose (e :: l) k = { e with pg := { e.pg with after := if e.k == k then [] else e.pg.after.filter fun f => !(f == k) } } :: loose l k := rfl
    rw [this, find_cons, find_cons, ih]
    by_cases h : e.k = x
    · subst h; simp
    · rw [if_neg h, if_neg h]
theorem cut_keys {l : List It} {i : Nat} {it : It} (hn : (l.map (·.k)).Nodup) (hi : l[i]? = some it) : (cutR l i).map (·.k) = (l.map (·.k)).filter fun y => !(y == it.k) := by
  obtain ⟨hl, hx⟩ := List.getElem?_eq_some_iff.1 hi
  have e : l = l.take i ++ it :: l.drop (i + 1) := by rw [← hx, List.getElem_cons_drop, List.take_append_drop]
  unfold cutR
  rw [List.map_append]
  rw [e] at hn
  conv => rhs; rw [e]
  rw [List.map_append, List.map_cons, List.filter_append, List.filter_cons]
  rw [List.map_append, List.map_cons, List.nodup_append] at hn
  obtain ⟨n1, n2, n3⟩ := hn
  rw [List.nodup_cons] at n2
  have f1 : ((l.take i).map (·.k)).filter (fun y => !(y == it.k)) = (l.take i).map (·.k) := List.filter_eq_self.2 fun y hy => by
    have := n3 y hy it.k (List.mem_cons_self ..)
    simpa using this
  have f2 : ((l.drop (i + 1)).map (·.k)).filter (fun y => !(y == it.k)) = (l.drop (i + 1)).map (·.k) := List.filter_eq_self.2 fun y hy => by
    have : y ≠ it.k := fun e => n2.1 (e ▸ hy)
    simpa using this
  rw [f1, f2]; simp
theorem cut_sub {l : List It} {i : Nat} : (cutR l i).Sublist l := by
  unfold cutR
  conv => rhs; rw [← List.take_append_drop i l]
  refine List.Sublist.append_left ?_ _
  rw [← List.drop_drop (i := 1) (j := i)]
  exact List.drop_sublist _ _
theorem Sim.del (h : Sim t c r) {i : Nat} {it : It} (hi : r.l[i]? = some it) : Sim t { c with all := delE (loose c.all it.k) it.k } { cleanR r it.k with l := cutR (cleanR r it.k).l i } := by
  obtain ⟨k, hk⟩ : ∃ k, k = it.k := ⟨_, rfl⟩
  rw [← hk]
  have hoi : (offR r.l k)[i]? = some { it with d := false } := by
    unfold offR; rw [List.getElem?_map, hi]; simp [hk]
  have hkeys : (cutR (offR r.l k) i).map (·.k) = (r.l.map (·.k)).filter fun y => !(y == k) := by
    rw [cut_keys (by rw [offR_keys]; exact h.rnd) hoi, offR_keys]; simp only; rw [← hk]
  have hck : (delE (loose c.all k) k).map (·.k) = (c.all.map (·.k)).filter fun y => !(y == k) := by rw [delE_keys, loose_keys]
  have hfd : ∀ x, x ≠ k → find (delE (loose c.all k) k) x = (find c.all x).map fun g => { g with after := g.after.filter fun f => !(f == k) } := fun x hx => by
    rw [find_delE, if_neg hx, find_loose]; simp [hx]
  have hda : ∀ x, x ≠ k → dirtyAt (delE (loose c.all k) k) x = dirtyAt c.all x := fun x hx => by
    show ((find (delE (loose c.all k) k) x).map (·.dirty)).getD false = _
    rw [hfd x hx]; unfold dirtyAt; cases find c.all x <;> rfl
  have hua : ∀ x, x ≠ k → usedAt (delE (loose c.all k) k) x = usedAt c.all x := fun x hx => by
    unfold usedAt; rw [hfd x hx]; cases find c.all x <;> rfl
  refine { room := h.room, ul := ⟨fun y => ?_, ?_⟩, val := fun i2 hit => ?_, aft := fun a => ?_, drt := fun q hq => ?_, rank := ?_, kn := by show ((delE (loose c.all k) k).map _).Nodup; rw [hck]; exact (List.filter_sublist).nodup h.kn, us := fun e he => ?_, ut := h.ut, rt := Nat.le_trans (List.length_filter_le _ _) h.rt, bl := fun i2 hit => ?_ }
  · show y ∈ (cutR (offR r.l k) i).map _ ↔ y ∈ (delE (loose c.all k) k).map _
    rw [hkeys, hck, List.mem_filter, List.mem_filter, h.ul.mem]
  · show List.Pairwise _ ((cutR (offR r.l k) i).map _)
    rw [hkeys]
    refine (h.ul.up.sublist (List.filter_sublist)).imp_of_mem fun {a b} ha hb hab => ?_
    have h1 : a ≠ k := by simpa using (List.mem_filter.1 ha).2
    have h2 : b ≠ k := by simpa using (List.mem_filter.1 hb).2
    show usedAt (delE (loose c.all k) k) a < usedAt (delE (loose c.all k) k) b
    rw [hua a h1, hua b h2]; exact hab
  · have hkk : i2.k ≠ k := by
      have : i2.k ∈ (cutR (offR r.l k) i).map (·.k) := List.mem_map_of_mem hit
      rw [hkeys] at this
      simpa using (List.mem_filter.1 this).2
    have hm : i2 ∈ offR r.l k := cut_sub.subset hit
    obtain ⟨i0, h0, e0⟩ := List.mem_map.1 hm
    have e1 : i0 = i2 := by
      by_cases h9 : i0.k = k
      · rw [if_pos h9] at e0; rw [← e0] at hkk; exact absurd h9 hkk
      · rw [if_neg h9] at e0; exact e0
    subst e1
    obtain ⟨g, g1, g2, g3⟩ := h.val i0 h0
    refine ⟨{ g with after := g.after.filter fun f => !(f == k) }, ?_, g2, g3⟩
    show find (delE (loose c.all k) k) _ = _
    rw [hfd _ hkk, g1]; rfl
  · show Lr.aft (delE (loose c.all k) k) a = _
    simp only [cleanR]
    by_cases ha : a = k
    · have : Lr.aft (delE (loose c.all k) k) a = [] := by unfold Lr.aft; rw [find_delE, if_pos ha]; rfl
      rw [this]
      symm
      rw [List.map_eq_nil_iff, List.filter_eq_nil_iff]
      intro q hq
      have := (List.mem_filter.1 hq).2
      simp at this ⊢
      intro e; rw [e] at this; exact this.1 ha
    · have : Lr.aft (delE (loose c.all k) k) a = (Lr.aft c.all a).filter fun f => !(f == k) := by
        unfold Lr.aft; rw [hfd a ha]; cases find c.all a <;> simp
      rw [this, h.aft]
      unfold relR
      rw [List.filter_map, List.filter_filter, List.filter_filter]
      congr 1
      apply List.filter_congr
      intro q _
      simp only [Function.comp]
      by_cases e : q.1 = a
      · have e2 : (q.1 == k) = false := by rw [e]; simpa using ha
        rw [e2, e]; simp
      · have : (q.1 == a) = false := by simpa using e
        rw [this]; simp
  · have h1 := List.mem_filter.1 hq
    obtain ⟨d1, d2⟩ := h.drt q h1.1
    have h2 := h1.2
    simp at h2
    show dirtyAt (delE (loose c.all k) k) q.1 = true ∧ dirtyAt (delE (loose c.all k) k) q.2 = true
    rw [hda _ h2.1, hda _ h2.2]
    exact ⟨d1, d2⟩
  · obtain ⟨ρ, hρ⟩ := h.rank
    exact ⟨ρ, fun q hq => hρ q (List.mem_filter.1 hq).1⟩
  · have h1 := (List.mem_filter.1 he).1
    obtain ⟨g, hg, rfl⟩ := List.mem_map.1 h1
    exact h.us g hg
  · have hm : i2 ∈ offR r.l k := cut_sub.subset hit
    obtain ⟨i0, h0, rfl⟩ := List.mem_map.1 hm
    have := h.bl i0 h0
    split <;> exact this
/-- a key of which there is none goes -/
theorem Sim.drop_none (h : Sim t c r) {k : Int} (hk : k ∉ c.all.map (·.k)) : Sim t (dropM c k) r := by
  have hfd : ∀ x, find (delE (loose c.all k) k) x = (find c.all x).map fun g => { g with after := g.after.filter fun f => !(f == k) } := fun x => by
    rw [find_delE]
    by_cases hx : x = k
    · rw [if_pos hx, hx, find_none.2 hk]; rfl
    · rw [if_neg hx, find_loose]; simp [hx]
  have hck : (delE (loose c.all k) k).map (·.k) = c.all.map (·.k) := by
    rw [delE_keys, loose_keys]
    exact List.filter_eq_self.2 fun y hy => by have : y ≠ k := fun e => hk (e ▸ hy); simpa using this
  refine { room := h.room, ul := ⟨fun y => ?_, ?_⟩, val := fun i2 hit => ?_, aft := fun a => ?_, drt := fun q hq => ?_, rank := h.rank, kn := by show ((delE (loose c.all k) k).map _).Nodup; rw [hck]; exact h.kn, us := fun e he => ?_, ut := h.ut, rt := h.rt, bl := h.bl }
  · show y ∈ _ ↔ y ∈ (delE (loose c.all k) k).map _
    rw [hck]; exact h.ul.mem y
  · refine h.ul.up.imp fun {a b} hab => ?_
    show usedAt (delE (loose c.all k) k) a < usedAt (delE (loose c.all k) k) b
    have : ∀ x, usedAt (delE (loose c.all k) k) x = usedAt c.all x := fun x => by unfold usedAt; rw [hfd]; cases find c.all x <;> rfl
    rw [this, this]; exact hab
  · obtain ⟨g, g1, g2, g3⟩ := h.val i2 hit
    refine ⟨{ g with after := g.after.filter fun f => !(f == k) }, ?_, g2, g3⟩
    show find (delE (loose c.all k) k) _ = _
    rw [hfd, g1]; rfl
  · show Lr.aft (delE (loose c.all k) k) a = _
    have e1 : Lr.aft (delE (loose c.all k) k) a = (Lr.aft c.all a).filter fun f => !(f == k) := by
      unfold Lr.aft; rw [hfd a]; cases find c.all a <;> simp
    rw [e1, ← h.aft]
    refine List.filter_eq_self.2 fun y hy => ?_
    rw [h.aft] at hy
    obtain ⟨q, hq, rfl⟩ := List.mem_map.1 hy
    have hd := (h.drt q (List.mem_filter.1 hq).1).2
    have : q.2 ≠ k := fun e => hk (by rw [← e]; exact dirty_key hd)
    simpa using this
  · have := h.drt q hq
    show dirtyAt (delE (loose c.all k) k) q.1 = true ∧ dirtyAt (delE (loose c.all k) k) q.2 = true
    have e : ∀ x, dirtyAt (delE (loose c.all k) k) x = dirtyAt c.all x := fun x => by
      show ((find (delE (loose c.all k) k) x).map (·.dirty)).getD false = _
      rw [hfd x]; unfold dirtyAt; cases find c.all x <;> rfl
    rw [e, e]; exact this
  · have h1 := (List.mem_filter.1 he).1
    obtain ⟨g, hg, rfl⟩ := List.mem_map.1 h1
    exact h.us g hg
theorem Sim.at_none (h : Sim t c r) {k : Int} : atR r.l k = none ↔ find c.all k = none := by
  rw [atR_none, find_none, h.ul.mem]
theorem Sim.drop (h : Sim t c r) (k : Int) : Sim t (dropM c k) (dropR r k) := by
  unfold dropR
  cases ha : atR r.l k with
  | none => exact h.drop_none (find_none.1 (h.at_none.1 ha))
  | some i =>
    obtain ⟨it, h1, rfl⟩ := atR_some ha
    exact h.del h1
theorem Sim.get (h : Sim t c r) {k : Int} {i : Nat} (ha : atR r.l k = some i) : Sim (t + 1) (getM c k) (useR r k) := by
  obtain ⟨it, h1, rfl⟩ := atR_some ha
  have hkm : it.k ∈ c.all.map (·.k) := (h.ul.mem _).1 (List.mem_map_of_mem (List.mem_of_getElem? h1))
  have huse : useR r it.k = { r with l := cutR r.l i ++ [it] } := by unfold useR; rw [ha]; simp only; rw [h1]; rfl
  have hkeys : (cutR r.l i ++ [it]).map (·.k) = toEnd (r.l.map (·.k)) it.k := by
    rw [List.map_append, cut_keys h.rnd h1]; rfl
  have hul : UL (getM c it.k) (toEnd (r.l.map (·.k)) it.k) := h.ul.toEnd it.k (fun y => by
    rw [get_keys]
    constructor
    · exact .inl
    · rintro (h9 | rfl)
      · exact h9
      · exact hkm) (get_usedAt c it.k hkm) h.us
  have hfd : ∀ x, ∃ n, find (getM c it.k).all x = (find c.all x).map fun g => { g with used := if x = it.k then n else g.used } := fun x => by
    refine ⟨c.uses + 1, ?_⟩
    unfold getM
    cases hf : find c.all it.k with
    | none => exact absurd hkm (find_none.1 hf)
    | some g =>
      simp only
      rw [find_setE]
      by_cases e : x = it.k
      · rw [if_pos e, e, hf]; simp
      · rw [if_neg e]; simp [e]
  rw [huse]
  refine { room := h.room.trans (get_room c it.k).symm, ul := by show UL _ ((cutR r.l i ++ [it]).map _); rw [hkeys]; exact hul, val := fun i2 hit => ?_, aft := fun a => ?_, drt := fun q hq => ?_, rank := h.rank, kn := by rw [get_keys]; exact h.kn, us := fun e he => ?_, ut := by rw [get_uses hkm]; have := h.ut; omega, rt := by have := h.rt; show r.r.length ≤ t + 1; omega, bl := fun i2 hit => ?_ }
  · have hm : i2 ∈ r.l := (cut_perm h1).mem_iff.1 hit
    obtain ⟨g, g1, g2, g3⟩ := h.val i2 hm
    obtain ⟨n, hn⟩ := hfd i2.k
    refine ⟨{ g with used := if i2.k = it.k then n else g.used }, ?_, g2, g3⟩
    rw [hn, g1]; rfl
  · obtain ⟨n, hn⟩ := hfd a
    have : Lr.aft (getM c it.k).all a = Lr.aft c.all a := by unfold Lr.aft; rw [hn]; cases find c.all a <;> rfl
    rw [this]; exact h.aft a
  · have e : ∀ x, dirtyAt (getM c it.k).all x = dirtyAt c.all x := fun x => by
      obtain ⟨n, hn⟩ := hfd x
      show ((find (getM c it.k).all x).map (·.dirty)).getD false = _
      rw [hn]; unfold dirtyAt; cases find c.all x <;> rfl
    rw [e, e]; exact h.drt q hq
  · obtain ⟨g, hg, _, _, _, _, h5⟩ := get_mem he
    rw [get_uses hkm]
    rcases h5 with h5 | h5
    · have := h.us g hg; omega
    · omega
  · exact h.bl i2 ((cut_perm h1).mem_iff.1 hit)
theorem Sim.getv (h : Sim t c r) {k : Int} {i : Nat} {it : It} (ha : atR r.l k = some i) (hi : r.l[i]? = some it) {g : Pg} (hf : find c.all k = some g) : g.b = it.b := by
  obtain ⟨it2, h1, h2⟩ := atR_some ha
  rw [hi] at h1; cases h1
  obtain ⟨g', g1, g2, g3⟩ := h.val it (List.mem_of_getElem? hi)
  rw [h2, hf] at g1; cases g1; exact g2
theorem Sim.lay (h : Sim t c r) (k : Int) (b : List UInt8) (d : Bool) (hb : b.length ≤ 1000000) : Sim (t + 1) (lay c k b d) (layR r k b d) := by
  have hfd := lay_find c k b d
  have haf : ∀ a, Lr.aft (Lr.lay c k b d).all a = Lr.aft c.all a := fun a => by
    unfold Lr.aft; rw [hfd]
    by_cases e : a = k
    · rw [if_pos e, e]; rfl
    · rw [if_neg e]
  have hkeys : (layR r k b d).l.map (·.k) = toEnd (r.l.map (·.k)) k := by
    unfold layR
    cases ha : atR r.l k with
    | none =>
      simp only
      rw [List.map_append]
      unfold toEnd
      rw [List.filter_eq_self.2 fun y hy => by have : y ≠ k := fun e => atR_none.1 ha (e ▸ hy); simpa using this]
      rfl
    | some i =>
      obtain ⟨it, h1, rfl⟩ := atR_some ha
      simp only
      rw [List.map_append, cut_keys h.rnd h1]; rfl
  have hitem : ∀ it ∈ (layR r k b d).l, (it.k = k ∧ it.b = b ∧ it.d = (dirtyAt c.all k || d)) ∨ (it.k ≠ k ∧ it ∈ r.l) := fun it hit => by
    unfold layR at hit
    cases ha : atR r.l k with
    | none =>
      rw [ha] at hit
      rcases List.mem_append.1 hit with h1 | h1
      · exact .inr ⟨fun e => atR_none.1 ha (e ▸ List.mem_map_of_mem h1), h1⟩
      · simp at h1; subst h1
        have : dirtyAt c.all k = false := by rw [← h.dirty]; unfold dirtyR; rw [ha]
        exact .inl ⟨rfl, rfl, by rw [this]; simp⟩
    | some i =>
      rw [ha] at hit
      obtain ⟨i0, h1, h2⟩ := atR_some ha
      rcases List.mem_append.1 hit with h3 | h3
      · refine .inr ⟨?_, cut_sub.subset h3⟩
        have : it.k ∈ (cutR r.l i).map (·.k) := List.mem_map_of_mem h3
        rw [cut_keys h.rnd h1, h2] at this
        simpa using (List.mem_filter.1 this).2
      · simp at h3; subst h3
        refine .inl ⟨rfl, rfl, ?_⟩
        have : dirtyAt c.all k = i0.d := by rw [← h.dirty]; unfold dirtyR; rw [ha]; simp only; rw [h1]; rfl
        rw [this]; simp only; rw [h1]; rfl
  have hrr : (layR r k b d).r = r.r := by unfold layR; split <;> rfl
  have hro : (layR r k b d).room = r.room := by unfold layR; split <;> rfl
  refine { room := hro.trans (h.room.trans (lay_room ..).symm), ul := ?_, val := fun it hit => ?_, aft := fun a => by rw [haf, hrr]; exact h.aft a, drt := fun q hq => ?_, rank := by rw [hrr]; exact h.rank, kn := lay_nodup h.kn _ _ _, us := fun e he => ?_, ut := by rw [lay_uses]; have := h.ut; omega, rt := by rw [hrr]; have := h.rt; omega, bl := fun it hit => ?_ }
  · rw [hkeys]
    refine h.ul.toEnd k (fun y => ?_) (lay_usedAt c k b d) h.us
    rw [lay_keys]
    split
    · rename_i h9
      constructor
      · exact .inl
      · rintro (h1 | rfl)
        · exact h1
        · exact h9
    · simp
  · rcases hitem it hit with ⟨h1, h2, h3⟩ | ⟨h1, h2⟩
    · exact ⟨_, by rw [hfd, if_pos h1], h2.symm, h3.symm⟩
    · obtain ⟨g, g1, g2, g3⟩ := h.val it h2
      exact ⟨g, by rw [hfd, if_neg h1]; exact g1, g2, g3⟩
  · rw [hrr] at hq
    obtain ⟨d1, d2⟩ := h.drt q hq
    rw [lay_dirtyAt, lay_dirtyAt]
    constructor
    · split
      · rename_i e; rw [← e, d1]; rfl
      · exact d1
    · split
      · rename_i e; rw [← e, d2]; rfl
      · exact d2
  · rw [lay_uses]
    rcases lay_mem he with h1 | ⟨_, h1, _⟩
    · have := h.us e h1; omega
    · omega
  · rcases hitem it hit with ⟨_, h2, _⟩ | ⟨_, h2⟩
    · rw [h2]; exact hb
    · exact h.bl it h2
theorem Sim.put (h : Sim t c r) {k : Int} {b : List UInt8} {d : Bool} {c' : CM} {out : List Int} {r' : RC} {out' : List Int} {ρ : Int → Nat} (hb : b.length ≤ 1000000) (hρ : ∀ q ∈ r.r, ρ q.2 < ρ q.1) (hp : PutR c k b d c' out) (hp' : PutRR r ρ k b d r' out') : Sim (t + 1) c' r' ∧ out = out' := by
  have hl := h.lay k b d hb
  have hrr : (layR r k b d).r = r.r := by unfold layR; split <;> rfl
  have hlen : (layR r k b d).l.length = (Lr.lay c k b d).all.length := by have := hl.ul.len hl.kn; rwa [List.length_map] at this
  rcases hp with ⟨h1, rfl, rfl⟩ | ⟨h1, x, hx, he⟩
  · rcases hp' with ⟨_, rfl, rfl⟩ | ⟨_, _, h2, _⟩
    · exact ⟨hl, rfl⟩
    · rw [hlen, h.room] at h2; omega
  · rcases hp' with ⟨h2, _, _⟩ | ⟨y, tl, _, hy, ho, hr⟩
    · rw [hlen, h.room] at h2; omega
    · obtain ⟨rr, hfirst⟩ := hl.ul.first hx
      have hyx : y.k = x := by rw [hy] at hfirst; simp at hfirst; exact hfirst.1
      obtain ⟨e1, e2⟩ := hl.line x [] ρ (by rw [hrr]; exact hρ)
      have hi0 : (writeR (layR r k b d) ρ x).l[0]? = some (if y.k ∈ writeL (layR r k b d) ρ x then { y with d := false } else y) := by
        unfold writeR; rw [cleans_spec]; simp only; rw [List.getElem?_map, hy]; rfl
      have hk0 : (if y.k ∈ writeL (layR r k b d) ρ x then ({ y with d := false } : It) else y).k = x := by split <;> exact hyx
      have hd := e2.del hi0
      rw [hk0] at hd
      unfold evict1 at he
      injection he with he1 he2
      refine ⟨?_, ?_⟩
      · rw [hr, ← he1, hyx]
        have ec : cutR (cleanR (writeR (layR r k b d) ρ x) x).l 0 = (cleanR (writeR (layR r k b d) ρ x) x).l.drop 1 := by unfold cutR; simp
        rw [← ec]; exact hd
      · rw [ho, ← he2, e1, hyx]; simp
theorem reach_iff (h : Sim t c r) (x y : Int) : Reach c.all x y ↔ ReachR r.r x y := by
  constructor
  · intro hr
    induction hr with
    | refl x => exact .refl x
    | @step a b z h1 _ ih =>
      rw [h.aft] at h1
      obtain ⟨q, hq, rfl⟩ := List.mem_map.1 h1
      have := List.mem_filter.1 hq
      have e : q.1 = a := by simpa using this.2
      exact .step (y := q.2) (by rw [← e]; exact this.1) ih
  · intro hr
    induction hr with
    | refl x => exact .refl x
    | step h1 _ ih => exact .step (by rw [h.aft]; exact List.mem_map.2 ⟨_, List.mem_filter.2 ⟨h1, by simp⟩, rfl⟩) ih
theorem ReachR.trans {R : List (Int × Int)} {x y z : Int} (h : ReachR R x y) (k : ReachR R y z) : ReachR R x z := by
  induction h with
  | refl _ => exact k
  | step h1 _ ih => exact .step h1 (ih k)
open Classical in
theorem Sim.after (h : Sim t c r) (k f : Int) : (afterM c k f).2 = (afterR r k f).2 ∧ Sim (t + 1) (afterM c k f).1 (afterR r k f).1 := by
  unfold afterM afterR
  rw [h.dirty, h.dirty]
  by_cases hd : dirtyAt c.all k = false ∨ dirtyAt c.all f = false
  · rw [if_pos hd, if_pos hd]; exact ⟨rfl, h.mono (Nat.le_succ _)⟩
  · rw [if_neg hd, if_neg hd]
    have hd1 : dirtyAt c.all k = true := by cases hq : dirtyAt c.all k; exact absurd (.inl hq) hd; rfl
    have hd2 : dirtyAt c.all f = true := by cases hq : dirtyAt c.all f; exact absurd (.inr hq) hd; rfl
    by_cases hr : Reach c.all f k
    · rw [if_pos hr, if_pos ((reach_iff h f k).1 hr)]; exact ⟨rfl, h.mono (Nat.le_succ _)⟩
    · have hr' : ¬ ReachR r.r f k := fun h9 => hr ((reach_iff h f k).2 h9)
      rw [if_neg hr, if_neg hr']
      have hkm := dirty_key hd1
      have haft : ∀ a, Lr.aft (addAft c.all k f) a = if a = k then (if f ∈ Lr.aft c.all k then Lr.aft c.all k else Lr.aft c.all k ++ [f]) else Lr.aft c.all a := fun a => by
        unfold addAft
        show ((find (setE c.all k _) a).map (·.after)).getD [] = _
        rw [find_setE]
        by_cases e : a = k
        · subst e
          rw [if_pos rfl, if_pos rfl]
          unfold Lr.aft
          cases hf : find c.all a with
          | none => exact absurd hkm (find_none.1 hf)
          | some g => simp only [Option.map_some, Option.getD_some]; split <;> rfl
        · rw [if_neg e, if_neg e]; rfl
      have hin : f ∈ Lr.aft c.all k ↔ (k, f) ∈ r.r := by
        rw [h.aft]
        constructor
        · intro h9
          obtain ⟨q, hq, rfl⟩ := List.mem_map.1 h9
          have := List.mem_filter.1 hq
          have e : q.1 = k := by simpa using this.2
          rw [← e]; exact this.1
        · intro h9; exact List.mem_map.2 ⟨_, List.mem_filter.2 ⟨h9, by simp⟩, rfl⟩
      have hkeys : (addAft c.all k f).map (·.k) = c.all.map (·.k) := by unfold addAft; exact setE_keys _ _ _
      have hfd : ∀ x, ∃ n : Pg → List Int, find (addAft c.all k f) x = (find c.all x).map fun g => { g with after := n g } := fun x => by
        unfold addAft
        rw [find_setE]
        by_cases e : x = k
        · rw [if_pos e, e]
          refine ⟨fun g => if f ∈ g.after then g.after else g.after ++ [f], ?_⟩
          cases find c.all k
          · rfl
          · simp only [Option.map_some]; split <;> rfl
        · rw [if_neg e]; exact ⟨fun g => g.after, by cases find c.all x <;> rfl⟩
      have hus : ∀ e ∈ addAft c.all k f, e.pg.used ≤ c.uses := fun e he => by
        unfold addAft setE at he
        obtain ⟨g, hg, rfl⟩ := List.mem_map.1 he
        have := h.us g hg
        split
        · dsimp only; split <;> exact this
        · exact this
      have hua : ∀ x, usedAt (addAft c.all k f) x = usedAt c.all x := fun x => by
        obtain ⟨n, hn⟩ := hfd x
        unfold usedAt; rw [hn]; cases find c.all x <;> rfl
      have hda : ∀ x, dirtyAt (addAft c.all k f) x = dirtyAt c.all x := fun x => dirtyAt_addAft _ _ _ _
      have base : ∀ r' : RC, r'.room = r.room → r'.l = r.l → (∀ a, Lr.aft (addAft c.all k f) a = (r'.r.filter fun q => q.1 == a).map (·.2)) → (∀ q ∈ r'.r, q ∈ r.r ∨ q = (k, f)) → (∃ ρ : Int → Nat, ∀ q ∈ r'.r, ρ q.2 < ρ q.1) → r'.r.length ≤ t + 1 → Sim (t + 1) { c with all := addAft c.all k f } r' := fun r' e1 e2 e3 e4 e5 e6 => by
        refine { room := e1.trans h.room, ul := ⟨fun y => ?_, ?_⟩, val := fun it hit => ?_, aft := e3, drt := fun q hq => ?_, rank := e5, kn := by show ((addAft c.all k f).map _).Nodup; rw [hkeys]; exact h.kn, us := hus, ut := Nat.le_succ_of_le h.ut, rt := e6, bl := by rw [e2]; exact h.bl }
        · rw [e2]; show _ ↔ y ∈ (addAft c.all k f).map _; rw [hkeys]; exact h.ul.mem y
        · rw [e2]; exact h.ul.up.imp fun {a b} hab => by show usedAt (addAft c.all k f) a < usedAt (addAft c.all k f) b; rw [hua, hua]; exact hab
        · rw [e2] at hit
          obtain ⟨g, g1, g2, g3⟩ := h.val it hit
          obtain ⟨n, hn⟩ := hfd it.k
          refine ⟨{ g with after := n g }, ?_, g2, g3⟩
          show find (addAft c.all k f) _ = _
          rw [hn, g1]; rfl
        · show dirtyAt (addAft c.all k f) q.1 = true ∧ dirtyAt (addAft c.all k f) q.2 = true
          rw [hda, hda]
          rcases e4 q hq with h9 | rfl
          · exact h.drt q h9
          · exact ⟨hd1, hd2⟩
      by_cases hm : (k, f) ∈ r.r
      · rw [if_pos hm]
        refine ⟨rfl, base r rfl rfl (fun a => ?_) (fun q hq => .inl hq) h.rank (by have := h.rt; omega)⟩
        rw [haft, if_pos (hin.2 hm)]
        by_cases e : a = k
        · rw [if_pos e, e]; exact h.aft k
        · rw [if_neg e]; exact h.aft a
      · rw [if_neg hm]
        refine ⟨rfl, base _ rfl rfl (fun a => ?_) (fun q hq => ?_) ?_ (by have := h.rt; simp; omega)⟩
        · rw [haft, if_neg (fun h9 => hm (hin.1 h9)), List.filter_append, List.map_append, ← h.aft]
          by_cases e : a = k
          · rw [if_pos e, e]; simp
          · rw [if_neg e]
            have : ((k, f).1 == a) = false := by simp; exact fun h9 => e h9.symm
            simp [List.filter_cons, this]
        · rcases List.mem_append.1 hq with h9 | h9
          · exact .inl h9
          · exact .inr (by simpa using h9)
        · obtain ⟨ρ, hρ⟩ := h.rank
          refine ⟨fun x => ρ x + (if ReachR r.r x k then ρ f + 1 else 0), fun q hq => ?_⟩
          rcases List.mem_append.1 hq with h9 | h9
          · have h8 := hρ q h9
            simp only
            by_cases h7 : ReachR r.r q.2 k
            · rw [if_pos h7, if_pos (.step (y := q.2) h9 h7)]; omega
            · rw [if_neg h7]; omega
          · simp at h9; subst h9
            simp only
            rw [if_neg hr', if_pos (.refl k)]
            omega
theorem sorted_eq {l l' : List Int} (h1 : l.Pairwise fun a b => a ≤ b) (h2 : l'.Pairwise fun a b => a ≤ b) (hp : l.Perm l') : l = l' :=
  List.Perm.eq_of_pairwise (le := fun a b => a ≤ b) (fun a b _ _ h3 h4 => Int.le_antisymm h3 h4) h1 h2 hp
theorem ins_sorted {l : List Int} (h : l.Pairwise fun a b => a ≤ b) (k : Int) : (insR l k).Pairwise fun a b => a ≤ b := by
  induction l with
  | nil => simp [insR]
  | cons x l ih =>
    have hx := List.pairwise_cons.1 h
    by_cases hk : x < k
    · have e : insR (x :: l) k = x :: insR l k := by unfold insR; rw [List.takeWhile_cons, List.dropWhile_cons, if_pos (by simpa using hk), if_pos (by simpa using hk)]; rfl
      rw [e, List.pairwise_cons]
      refine ⟨fun y hy => ?_, ih hx.2⟩
      unfold insR at hy
      rcases List.mem_append.1 hy with h9 | h9
      · exact hx.1 y ((List.takeWhile_sublist _).subset h9)
      · rcases List.mem_cons.1 h9 with rfl | h9
        · omega
        · exact hx.1 y ((List.dropWhile_sublist _).subset h9)
    · have e : insR (x :: l) k = k :: x :: l := by unfold insR; rw [List.takeWhile_cons, List.dropWhile_cons, if_neg (by simpa using hk), if_neg (by simpa using hk)]; rfl
      rw [e, List.pairwise_cons]
      refine ⟨fun y hy => ?_, h⟩
      rcases List.mem_cons.1 hy with rfl | h9
      · omega
      · have := hx.1 y h9; omega
theorem ins_perm (l : List Int) (k : Int) : (insR l k).Perm (k :: l) := by
  unfold insR
  have h1 : (l.takeWhile (fun y => decide (y < k)) ++ k :: l.dropWhile (fun y => decide (y < k))).Perm (k :: (l.takeWhile (fun y => decide (y < k)) ++ l.dropWhile (fun y => decide (y < k)))) := List.perm_middle
  rw [List.takeWhile_append_dropWhile] at h1
  exact h1
theorem dirtyRL_spec (l : List It) : (dirtyRL l).Pairwise (fun a b => a ≤ b) ∧ (dirtyRL l).Perm ((l.filter (·.d)).map (·.k)) := by
  have key : ∀ (m : List It) (acc : List Int), acc.Pairwise (fun a b => a ≤ b) → (m.foldl (fun acc it => insR acc it.k) acc).Pairwise (fun a b => a ≤ b) ∧ (m.foldl (fun acc it => insR acc it.k) acc).Perm (m.map (·.k) ++ acc) := by
    intro m
    induction m with
    | nil => exact fun acc h => ⟨h, List.Perm.refl _⟩
    | cons x m ih =>
      intro acc h
      obtain ⟨h1, h2⟩ := ih (insR acc x.k) (ins_sorted h x.k)
      refine ⟨h1, h2.trans ?_⟩
      rw [List.map_cons, List.cons_append]
      exact (List.Perm.append_left _ (ins_perm acc x.k)).trans List.perm_middle
  have := key (l.filter (·.d)) [] List.Pairwise.nil
  rw [List.append_nil] at this
  exact this
theorem Sim.dirtyL (h : Sim t c r) : Lr.dirtyL c.all = dirtyRL r.l := by
  obtain ⟨s1, s2⟩ := dirtyRL_spec r.l
  have tr : ∀ a b c : Int, decide (a ≤ b) = true → decide (b ≤ c) = true → decide (a ≤ c) = true := fun a b c h1 h2 => by simp at *; omega
  have tot : ∀ a b : Int, (decide (a ≤ b) || decide (b ≤ a)) = true := fun a b => by simp; omega
  have hs := List.pairwise_mergeSort tr tot (c.all.map (·.k))
  have hs' : (Lr.dirtyL c.all).Pairwise fun a b => a ≤ b := by
    unfold Lr.dirtyL risen
    exact (hs.imp fun h9 => by simpa using h9).sublist (List.filter_sublist)
  refine sorted_eq hs' s1 ?_
  have hn1 : (Lr.dirtyL c.all).Nodup := by
    unfold Lr.dirtyL risen
    exact (List.filter_sublist).nodup ((List.mergeSort_perm _ _).nodup_iff.2 h.kn)
  have hn2 : (dirtyRL r.l).Nodup := s2.nodup_iff.2 (((List.filter_sublist (l := r.l) (p := fun x => x.d)).map (fun x : It => x.k)).nodup h.rnd)
  refine (List.perm_ext_iff_of_nodup hn1 hn2).2 fun x => ?_
  rw [mem_dirtyL, s2.mem_iff]
  constructor
  · intro hx
    rw [← h.dirty] at hx
    unfold dirtyR at hx
    cases ha : atR r.l x with
    | none => rw [ha] at hx; cases hx
    | some i =>
      rw [ha] at hx
      obtain ⟨it, h1, rfl⟩ := atR_some ha
      simp only at hx
      rw [h1] at hx
      exact List.mem_map.2 ⟨it, List.mem_filter.2 ⟨List.mem_of_getElem? h1, by simpa using hx⟩, rfl⟩
  · intro hx
    obtain ⟨it, h1, rfl⟩ := List.mem_map.1 hx
    obtain ⟨h2, h3⟩ := List.mem_filter.1 h1
    obtain ⟨g, g1, _, g3⟩ := h.val it h2
    unfold dirtyAt; rw [g1]; simp [g3]; simpa using h3
theorem Sim.flush (h : Sim t c r) (ρ : Int → Nat) (hρ : ∀ q ∈ r.r, ρ q.2 < ρ q.1) : (flushM c).2 = (flushR r ρ).2 ∧ Sim t (flushM c).1 (flushR r ρ).1 := by
  have key : ∀ (l : List Int) (c : CM) (r : RC) (out : List Int), Sim t c r → (∀ q ∈ r.r, ρ q.2 < ρ q.1) → (l.foldl (fun s k => lineM s.1 k s.2) (c, out)).2 = (l.foldl (fun s k => (writeR s.1 ρ k, s.2 ++ writeL s.1 ρ k)) (r, out)).2 ∧ Sim t (l.foldl (fun s k => lineM s.1 k s.2) (c, out)).1 (l.foldl (fun s k => (writeR s.1 ρ k, s.2 ++ writeL s.1 ρ k)) (r, out)).1 := by
    intro l
    induction l with
    | nil => exact fun c r out h _ => ⟨rfl, h⟩
    | cons x l ih =>
      intro c r out h hρ
      obtain ⟨e1, e2⟩ := h.line x out ρ hρ
      rw [List.foldl_cons, List.foldl_cons]
      have e3 : lineM c x out = ((lineM c x out).1, out ++ writeL r ρ x) := Prod.ext rfl e1
      rw [e3]
      exact ih _ _ _ e2 fun q hq => hρ q (write_sub _ _ _ q hq)
  unfold flushM flushR
  rw [h.dirtyL]
  exact key _ c r [] h hρ
end
end Go.Lr
