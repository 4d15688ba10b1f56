import Derived.Test.YtbklhhmcigangaaWW
namespace Go.Lr
set_option linter.unusedVariables false
set_option linter.unusedSimpArgs false
theorem lay_mem_b {c : CM} {k : Int} {b : List UInt8} {d : Bool} {e : En} (he : e ∈ (lay c k b d).all) : e ∈ c.all ∨ (e.k = k ∧ e.pg.b = b) := by
  unfold lay at he
  cases hf : find c.all k with
  | none =>
    rw [hf] at he
    rcases List.mem_append.1 he with he | he
    · exact .inl he
    · simp at he; subst he; exact .inr ⟨rfl, rfl⟩
  | some g =>
    rw [hf] at he
    obtain ⟨g, hg, rfl⟩ := List.mem_map.1 he
    by_cases hk : g.k = k
    · rw [if_pos (by simpa using hk)]; exact .inr ⟨hk, rfl⟩
    · rw [if_neg (by simpa using hk)]; exact .inl hg
/-- the keys by use, what was used longest ago first -/
structure UL (c : CM) (l : List Int) : Prop where
  mem : ∀ y, y ∈ l ↔ y ∈ c.all.map (·.k)
  up : l.Pairwise fun a b => usedAt c.all a < usedAt c.all b
theorem UL.nodup {c : CM} {l : List Int} (h : UL c l) : l.Nodup := h.up.imp fun hab e => by rw [e] at hab; exact Nat.lt_irrefl _ hab
theorem UL.len {c : CM} {l : List Int} (h : UL c l) (hn : (c.all.map (·.k)).Nodup) : l.length = c.all.length := by
  have hp : l.Perm (c.all.map (·.k)) := (List.perm_ext_iff_of_nodup h.nodup hn).2 h.mem
  rw [hp.length_eq, List.length_map]
/-- a key that was used last -/
def toEnd (l : List Int) (k : Int) : List Int := (l.filter fun y => !(y == k)) ++ [k]
theorem UL.toEnd {c c' : CM} {l : List Int} (h : UL c l) (k : Int) (hk : ∀ y, y ∈ c'.all.map (·.k) ↔ y ∈ c.all.map (·.k) ∨ y = k)
    (hu : ∀ y, usedAt c'.all y = if y = k then c.uses + 1 else usedAt c.all y) (hle : ∀ e ∈ c.all, e.pg.used ≤ c.uses) : UL c' (toEnd l k) where
  mem := fun y => by
    unfold Lr.toEnd
    rw [hk, List.mem_append, List.mem_filter, h.mem]
    by_cases e : y = k
    · simp [e]
    · simp [e]
  up := by
    unfold Lr.toEnd
    rw [List.pairwise_append]
    refine ⟨?_, List.pairwise_singleton _ _, fun a ha b hb => ?_⟩
    · refine (h.up.sublist (List.filter_sublist)).imp_of_mem fun {a b} ha hb hab => ?_
      have h1 : a ≠ k := by simpa using (List.mem_filter.1 ha).2
      have h2 : b ≠ k := by simpa using (List.mem_filter.1 hb).2
      rw [hu, hu, if_neg h1, if_neg h2]; exact hab
    · have h1 : a ≠ k := by simpa using (List.mem_filter.1 ha).2
      simp at hb; subst hb
      rw [hu, hu, if_pos rfl, if_neg h1]
      have := usedAt_le hle a
      omega
/-- the one that goes is the first of them -/
theorem UL.first {c : CM} {l : List Int} (h : UL c l) {x : Int} (hx : IsOld c.all x) : ∃ r, l = x :: r := by
  have hm := (h.mem x).2 hx.1
  cases l with
  | nil => cases hm
  | cons y r =>
    rcases List.mem_cons.1 hm with e | e
    · exact ⟨r, by rw [e]⟩
    · have h1 := (List.pairwise_cons.1 h.up).1 x e
      have h2 := hx.2 y ((h.mem y).1 (List.mem_cons_self ..))
      omega
theorem usedAt_delE (l : List En) (x y : Int) (h : y ≠ x) : usedAt (delE l x) y = usedAt l y := by unfold usedAt; rw [find_delE, if_neg h]
theorem UL.tail {c c' : CM} {x : Int} {r : List Int} (h : UL c (x :: r)) (hk : ∀ y, y ∈ c'.all.map (·.k) ↔ y ∈ c.all.map (·.k) ∧ y ≠ x) (hu : ∀ y, y ≠ x → usedAt c'.all y = usedAt c.all y) : UL c' r := by
  have hn := h.nodup
  rw [List.nodup_cons] at hn
  have hne : ∀ y ∈ r, y ≠ x := fun y hy e => hn.1 (e ▸ hy)
  refine ⟨fun y => ?_, ?_⟩
  · rw [hk, ← h.mem, List.mem_cons]
    constructor
    · exact fun hy => ⟨.inr hy, hne y hy⟩
    · rintro ⟨h1 | h1, h2⟩
      · exact absurd h1 h2
      · exact h1
  · refine (List.pairwise_cons.1 h.up).2.imp_of_mem fun {a b} ha hb hab => ?_
    rw [hu a (hne a ha), hu b (hne b hb)]; exact hab
theorem get_keys (c : CM) (k : Int) : (getM c k).all.map (·.k) = c.all.map (·.k) := by
  unfold getM
  split
  · rfl
  · simp only
    exact setE_keys _ _ _
theorem get_usedAt (c : CM) (k : Int) (hk : k ∈ c.all.map (·.k)) (y : Int) : usedAt (getM c k).all y = if y = k then c.uses + 1 else usedAt c.all y := by
  unfold getM
  cases hf : find c.all k with
  | none => exact absurd hk (find_none.1 hf)
  | some g =>
    simp only
    unfold usedAt
    rw [find_setE]
    by_cases e : y = k
    · subst e; rw [if_pos rfl, if_pos rfl, hf]; rfl
    · rw [if_neg e, if_neg e]
theorem get_mem {c : CM} {k : Int} {e : En} (he : e ∈ (getM c k).all) : ∃ g ∈ c.all, e.k = g.k ∧ e.pg.b = g.pg.b ∧ e.pg.after = g.pg.after ∧ e.pg.dirty = g.pg.dirty ∧ (e.pg.used = g.pg.used ∨ e.pg.used = c.uses + 1) := by
  unfold getM at he
  cases hf : find c.all k with
  | none => rw [hf] at he; exact ⟨e, he, rfl, rfl, rfl, rfl, .inl rfl⟩
  | some g =>
    rw [hf] at he
    obtain ⟨g, hg, rfl⟩ := List.mem_map.1 he
    refine ⟨g, hg, ?_⟩
    split
    · exact ⟨rfl, rfl, rfl, rfl, .inr rfl⟩
    · exact ⟨rfl, rfl, rfl, rfl, .inl rfl⟩
theorem get_uses {c : CM} {k : Int} (hk : k ∈ c.all.map (·.k)) : (getM c k).uses = c.uses + 1 := by
  unfold getM
  cases hf : find c.all k with
  | none => exact absurd hk (find_none.1 hf)
  | some g => rfl
theorem get_room (c : CM) (k : Int) : (getM c k).room = c.room := by unfold getM; split <;> rfl
/-- bytes of a key of this law -/
def kb (k : Int) : List UInt8 := [UInt8.ofNat k.toNat, 7]
structure RI (n : Nat) (c : CM) (l : List Int) : Prop where
  wi : WI n c.uses 20 c
  ul : UL c l
  bts : ∀ e ∈ c.all, e.pg.b = kb e.k
theorem RI.start (n : Nat) : RI n ⟨n, [], 0⟩ [] where
  wi := ⟨rfl, rfl, by simp, by simp, by simp, by simp [NoAft], by simp⟩
  ul := ⟨by simp, by simp⟩
  bts := by simp
theorem RI.len {n : Nat} {c : CM} {l : List Int} (h : RI n c l) : l.length ≤ n := by rw [h.ul.len h.wi.kn]; exact h.wi.len
theorem RI.put {n : Nat} {c : CM} {l : List Int} (h : RI n c l) (hn : 1 ≤ n) {k : Int} (hk : 0 ≤ k ∧ k < 20) {d : Bool} {c' : CM} {out : List Int} (hp : PutR c k (kb k) d c' out) :
    RI n c' (lastM l k n) ∧ c'.uses = c.uses + 1 := by
  have hw := (h.wi.put hn hk hp).1
  have hus : c'.uses = c.uses + 1 := hw.uses
  have hul : UL (lay c k (kb k) d) (toEnd l k) := h.ul.toEnd k (fun y => by
    rw [lay_keys]
    split
    · rename_i h9
      constructor
      · exact .inl
      · rintro (h1 | rfl)
        · exact h1
        · exact h9
    · simp) (lay_usedAt c k _ d) h.wi.us
  have hbl : ∀ e ∈ (lay c k (kb k) d).all, e.pg.b = kb e.k := fun e he => by
    rcases lay_mem_b he with h1 | ⟨h1, h2⟩
    · exact h.bts e h1
    · rw [h2, h1]
  have hlen := hul.len (lay_nodup h.wi.kn k (kb k) d)
  refine ⟨⟨by rw [hus]; exact hw, ?_, ?_⟩, hus⟩
  · rcases hp with ⟨hl, rfl, rfl⟩ | ⟨hl, x, hx, he⟩
    · have e1 : lastM l k n = toEnd l k := by
        unfold lastM
        rw [h.wi.room] at hl
        show (if (toEnd l k).length > n then _ else toEnd l k) = _
        rw [if_neg (by omega)]
      rw [e1]; exact hul
    · obtain ⟨ha, ho⟩ := evict_na (h.wi.na.lay k (kb k) d) x []
      rw [he] at ha
      simp only at ha
      obtain ⟨r, hr⟩ := hul.first hx
      have hl2 := hw.len
      have hlc : c'.all.length + 1 = (lay c k (kb k) d).all.length := by
        have := evict_len (lay c k (kb k) d) x [] (lay_nodup h.wi.kn _ _ _) hx.1
        rw [he] at this; exact this
      rw [h.wi.room] at hl
      have e1 : lastM l k n = r := by
        unfold lastM
        show (if (toEnd l k).length > n then (toEnd l k).drop ((toEnd l k).length - n) else toEnd l k) = r
        rw [if_pos (by omega), show (toEnd l k).length - n = 1 by omega, hr]; rfl
      rw [e1]
      rw [hr] at hul
      refine hul.tail (fun y => ?_) (fun y hy => by rw [ha]; exact usedAt_delE _ _ _ hy)
      rw [ha, delE_keys, List.mem_filter]
      simp
  · intro e he
    rcases hp with ⟨hl, rfl, rfl⟩ | ⟨hl, x, hx, he2⟩
    · exact hbl e he
    · obtain ⟨ha, ho⟩ := evict_na (h.wi.na.lay k (kb k) d) x []
      rw [he2] at ha
      simp only at ha
      rw [ha] at he
      exact hbl e (List.mem_filter.1 he).1
theorem RI.get {n : Nat} {c : CM} {l : List Int} (h : RI n c l) {k : Int} (hk : k ∈ l) : RI n (getM c k) (lastM l k n) ∧ (getM c k).uses = c.uses + 1 := by
  have hkm := (h.ul.mem k).1 hk
  have hus := get_uses hkm
  have hul : UL (getM c k) (toEnd l k) := h.ul.toEnd k (fun y => by
    rw [get_keys]
    constructor
    · exact .inl
    · rintro (h1 | rfl)
      · exact h1
      · exact hkm) (get_usedAt c k hkm) h.wi.us
  have hkn : ((getM c k).all.map (·.k)).Nodup := by rw [get_keys]; exact h.wi.kn
  have hll : (getM c k).all.length = c.all.length := by have := congrArg List.length (get_keys c k); simpa using this
  have hlen := hul.len hkn
  have e1 : lastM l k n = toEnd l k := by
    unfold lastM
    show (if (toEnd l k).length > n then _ else toEnd l k) = _
    have := h.wi.len
    rw [if_neg (by omega)]
  rw [e1]
  refine ⟨⟨⟨(get_room c k).trans h.wi.room, rfl, fun e he => ?_, hkn, by rw [hll]; exact h.wi.len, fun e he => ?_, fun e he => ?_⟩, hul, fun e he => ?_⟩, hus⟩
  · obtain ⟨g, hg, _, _, _, _, h5⟩ := get_mem he
    rw [hus]
    rcases h5 with h5 | h5
    · have := h.wi.us g hg; omega
    · omega
  · obtain ⟨g, hg, _, _, h3, _⟩ := get_mem he
    rw [h3]; exact h.wi.na g hg
  · obtain ⟨g, hg, h1, _⟩ := get_mem he
    rw [h1]; exact h.wi.rng g hg
  · obtain ⟨g, hg, h1, h2, _⟩ := get_mem he
    rw [h1, h2]; exact h.bts g hg
theorem RI.find {n : Nat} {c : CM} {l : List Int} (h : RI n c l) {k : Int} {g : Pg} (hf : find c.all k = some g) : g.b = kb k ∧ k ∈ l := by
  have hm : k ∈ c.all.map (·.k) := Classical.byContradiction fun hn => by rw [find_none.2 hn] at hf; cases hf
  refine ⟨?_, (h.ul.mem k).2 hm⟩
  unfold Lr.find at hf
  cases hq : c.all.find? (fun e => e.k == k) with
  | none => rw [hq] at hf; cases hf
  | some e =>
    rw [hq] at hf; cases hf
    have h1 := List.find?_some hq
    rw [h.bts e (List.mem_of_find?_eq_some hq)]
    have : e.k = k := by simpa using h1
    rw [this]
theorem RI.none {n : Nat} {c : CM} {l : List Int} (h : RI n c l) {k : Int} (hf : Lr.find c.all k = none) : k ∉ l := fun hk => find_none.1 hf ((h.ul.mem k).1 hk)
end Go.Lr
