import Derived.Test.YtbklhhmcigangaaW3
import Derived.Test.YtbklhhmcigangaaL6
namespace Go.Lr
set_option linter.unusedVariables false
set_option linter.unusedSimpArgs false
/-- what a Put does -/
def PutR (c : CM) (k : Int) (b : List UInt8) (d : Bool) (c' : CM) (out : List Int) : Prop :=
  ((lay c k b d).all.length ≤ c.room ∧ c' = lay c k b d ∧ out = []) ∨ (c.room < (lay c k b d).all.length ∧ ∃ x, IsOld (lay c k b d).all x ∧ evict1 (lay c k b d) x [] = (c', out))
theorem find_append (l m : List En) (k : Int) : find (l ++ m) k = (find l k).or (find m k) := by
  induction l with
  | nil => simp [find]
  | cons e l ih => rw [List.cons_append, find_cons, find_cons, ih]; split <;> rfl
theorem find_one (k x : Int) (g : Pg) : find [⟨k, g⟩] x = if k = x then some g else none := by rw [find_cons]; rfl
theorem lay_room (c : CM) (k : Int) (b : List UInt8) (d : Bool) : (lay c k b d).room = c.room := by unfold lay; split <;> rfl
theorem lay_uses (c : CM) (k : Int) (b : List UInt8) (d : Bool) : (lay c k b d).uses = c.uses + 1 := by unfold lay; split <;> rfl
theorem lay_find (c : CM) (k : Int) (b : List UInt8) (d : Bool) (y : Int) : find (lay c k b d).all y = if y = k then some ⟨b, dirtyAt c.all k || d, c.uses + 1, aft c.all k⟩ else find c.all y := by
  unfold lay
  cases hf : find c.all k with
  | none =>
    simp only
    rw [find_append, find_one]
    by_cases e : y = k
    · subst e; rw [if_pos rfl, if_pos rfl, hf]; unfold dirtyAt aft; rw [hf]; rfl
    · rw [if_neg e, if_neg (Ne.symm e)]; simp
  | some g =>
    simp only
    rw [find_setE]
    by_cases e : y = k
    · subst e; rw [if_pos rfl, if_pos rfl, hf]; unfold dirtyAt aft; rw [hf]; rfl
    · rw [if_neg e, if_neg e]
theorem lay_keys (c : CM) (k : Int) (b : List UInt8) (d : Bool) : (lay c k b d).all.map (·.k) = if k ∈ c.all.map (·.k) then c.all.map (·.k) else c.all.map (·.k) ++ [k] := by
  unfold lay
  cases hf : find c.all k with
  | none => rw [if_neg (find_none.1 hf)]; simp
  | some g =>
    have : k ∈ c.all.map (·.k) := Classical.byContradiction fun hn => by rw [find_none.2 hn] at hf; cases hf
    rw [if_pos this]
    simp only
    exact setE_keys _ _ _
theorem lay_mem {c : CM} {k : Int} {b : List UInt8} {d : Bool} {e : En} (he : e ∈ (lay c k b d).all) : e ∈ c.all ∨ (e.k = k ∧ e.pg.used = c.uses + 1 ∧ (e.pg.after = [] ∨ ∃ g ∈ c.all, e.pg.after = g.pg.after)) := by
  unfold lay at he
  cases hf : find c.all k with
  | none =>
    rw [hf] at he
    rcases List.mem_append.1 he with he | he
    · exact .inl he
    · simp at he; subst he; exact .inr ⟨rfl, rfl, .inl rfl⟩
  | some g =>
    rw [hf] at he
    obtain ⟨g, hg, rfl⟩ := List.mem_map.1 he
    by_cases hk : g.k = k
    · rw [if_pos (by simpa using hk)]; exact .inr ⟨hk, rfl, .inr ⟨g, hg, rfl⟩⟩
    · rw [if_neg (by simpa using hk)]; exact .inl hg
theorem lay_len (c : CM) (k : Int) (b : List UInt8) (d : Bool) : (lay c k b d).all.length = if k ∈ c.all.map (·.k) then c.all.length else c.all.length + 1 := by
  have := congrArg List.length (lay_keys c k b d)
  rw [List.length_map] at this
  rw [this]; split <;> simp
def NoAft (l : List En) : Prop := ∀ e ∈ l, e.pg.after = []
theorem NoAft.aft {l : List En} (h : NoAft l) (x : Int) : aft l x = [] := by
  unfold Lr.aft find
  cases hf : l.find? (fun e => e.k == x) with
  | none => rfl
  | some e => exact h e (List.mem_of_find?_eq_some hf)
theorem NoAft.acyc {l : List En} (h : NoAft l) : Acyc l := fun x y hy => by rw [h.aft] at hy; cases hy
theorem NoAft.lay {c : CM} (h : NoAft c.all) (k : Int) (b : List UInt8) (d : Bool) : NoAft (lay c k b d).all := fun e he => by
  rcases lay_mem he with h1 | ⟨_, _, h1 | ⟨g, hg, h1⟩⟩
  · exact h e h1
  · exact h1
  · rw [h1]; exact h g hg
theorem walk_na {l : List En} (h : NoAft l) (n : Nat) (x : Int) (out : List Int) : walk l (n + 1) x ([], out) = if dirtyAt l x = true then ([x], out ++ [x]) else ([], out) := by
  unfold walk
  rw [h.aft]
  cases dirtyAt l x <;> simp
theorem evict_na {c : CM} (h : NoAft c.all) (x : Int) (out : List Int) : (evict1 c x out).1.all = delE c.all x ∧ (evict1 c x out).2 = if dirtyAt c.all x = true then out ++ [x] else out := by
  have hS : ∃ S : Int → Bool, (lineM c x out).1.all = cleaned S c.all ∧ ∀ y, y ≠ x → S y = false := by
    refine ⟨_, line_all c x out, fun y hy => ?_⟩
    rw [walk_na h]
    split <;> simp [hy]
  constructor
  · obtain ⟨S, h1, h2⟩ := hS
    show delE (loose (lineM c x out).1.all x) x = _
    rw [h1]
    have key : ∀ l : List En, NoAft l → delE (loose (cleaned S l) x) x = delE l x := by
      intro l
      induction l with
      | nil => exact fun _ => rfl
      | cons e l ih =>
        intro hl
        have h3 := ih fun g hg => hl g (List.mem_cons_of_mem _ hg)
        have ha := hl e (List.mem_cons_self ..)
        unfold delE loose cleaned at h3 ⊢
        rw [List.map_cons, List.map_cons, List.filter_cons, List.filter_cons, h3]
        by_cases hk : e.k = x
        · simp [hk]
        · rw [show (!(e.k == x)) = true by simpa using hk, if_pos rfl]
          try rw [if_pos (by simpa using hk)]
          congr 1
          obtain ⟨ek, eb, ed, eu, ea⟩ := e
          simp only at ha hk ⊢
          subst ha
          have hs := h2 ek hk
          rw [hs]
          have hkx : (ek == x) = false := by simpa using hk
          rw [hkx]
          cases ed <;> rfl
    exact key _ h
  · show (walk c.all (c.all.length + 1) x ([], out)).2 = _
    rw [walk_na h]; split <;> rfl
theorem find_delE (l : List En) (x y : Int) : find (delE l x) y = if y = x then none else find l y := by
  induction l with
  | nil => unfold delE; split <;> rfl
  | cons e l ih =>
    unfold delE at ih ⊢
    rw [List.filter_cons, find_cons]
    by_cases hk : e.k = x
    · rw [if_neg (by simpa using hk), ih]
      by_cases hy : y = x
      · rw [if_pos hy, if_pos hy]
      · rw [if_neg hy, if_neg hy, if_neg (by omega)]
    · rw [if_pos (by simpa using hk), find_cons, ih]
      by_cases hy : y = x
      · rw [if_pos hy, if_pos hy, if_neg (by omega)]
      · rw [if_neg hy, if_neg hy]
theorem NoAft.delE {l : List En} (h : NoAft l) (x : Int) : NoAft (delE l x) := fun e he => h e (List.mem_filter.1 he).1
/-- what holds of a cache of which nothing was told to be after anything -/
structure WI (n t K : Nat) (c : CM) : Prop where
  room : c.room = n
  uses : c.uses = t
  us : ∀ e ∈ c.all, e.pg.used ≤ t
  kn : (c.all.map (·.k)).Nodup
  len : c.all.length ≤ n
  na : NoAft c.all
  rng : ∀ e ∈ c.all, 0 ≤ e.k ∧ e.k < K
theorem usedAt_le {l : List En} {t : Nat} (h : ∀ e ∈ l, e.pg.used ≤ t) (x : Int) : usedAt l x ≤ t := by
  unfold usedAt find
  cases hf : l.find? (fun e => e.k == x) with
  | none => exact Nat.zero_le _
  | some e => exact h e (List.mem_of_find?_eq_some hf)
theorem lay_usedAt (c : CM) (k : Int) (b : List UInt8) (d : Bool) (y : Int) : usedAt (lay c k b d).all y = if y = k then c.uses + 1 else usedAt c.all y := by
  unfold usedAt; rw [lay_find]; split <;> rfl
theorem lay_dirtyAt (c : CM) (k : Int) (b : List UInt8) (d : Bool) (y : Int) : dirtyAt (lay c k b d).all y = if y = k then (dirtyAt c.all k || d) else dirtyAt c.all y := by
  rw [show dirtyAt (lay c k b d).all y = ((find (lay c k b d).all y).map (·.dirty)).getD false from rfl, lay_find]
  split <;> rfl
theorem lay_nodup {c : CM} (hn : (c.all.map (·.k)).Nodup) (k : Int) (b : List UInt8) (d : Bool) : ((lay c k b d).all.map (·.k)).Nodup := by
  rw [lay_keys]
  split
  · exact hn
  · rw [List.nodup_append]
    refine ⟨hn, by simp, fun a ha b hb => ?_⟩
    rename_i h
    simp at hb; subst hb
    rintro rfl; exact h ha
/-- the one that goes is not the one that was laid -/
theorem old_ne {c : CM} {k : Int} {b : List UInt8} {d : Bool} {x : Int} (hus : ∀ e ∈ c.all, e.pg.used ≤ c.uses) (hne : c.all ≠ []) (hk : k ∉ c.all.map (·.k)) (hx : IsOld (lay c k b d).all x) : x ≠ k ∧ x ∈ c.all.map (·.k) := by
  have hne' : x ≠ k := by
    rintro rfl
    obtain ⟨e, l, he⟩ := List.exists_cons_of_ne_nil hne
    have hm : e.k ∈ c.all.map (·.k) := by rw [he]; simp
    have h1 := hx.2 e.k (by rw [lay_keys, if_neg hk]; exact List.mem_append_left _ hm)
    rw [lay_usedAt, if_pos rfl, lay_usedAt, if_neg (by rintro e9; rw [e9] at hm; exact hk hm)] at h1
    have := usedAt_le hus e.k
    omega
  refine ⟨hne', ?_⟩
  have := hx.1
  rw [lay_keys, if_neg hk] at this
  rcases List.mem_append.1 this with h | h
  · exact h
  · simp at h; exact absurd h hne'
theorem WI.put {n t K : Nat} {c : CM} (h : WI n t K c) (hn : 1 ≤ n) {k : Int} (hk : 0 ≤ k ∧ k < K) {b : List UInt8} {d : Bool} {c' : CM} {out : List Int} (hp : PutR c k b d c' out) :
    WI n (t + 1) K c' ∧ out.Nodup ∧ (∀ x ∈ out, (0 ≤ x ∧ x < K) ∧ dirtyAt (lay c k b d).all x = true ∧ x ≠ k) ∧ (∀ y, dirtyAt c'.all y = (dirtyAt (lay c k b d).all y && !decide (y ∈ out))) := by
  have hrl : ∀ e ∈ (lay c k b d).all, 0 ≤ e.k ∧ e.k < K := fun e he => by
    rcases lay_mem he with h1 | ⟨h1, _⟩
    · exact h.rng e h1
    · rw [h1]; exact hk
  have hul : ∀ e ∈ (lay c k b d).all, e.pg.used ≤ t + 1 := fun e he => by
    rcases lay_mem he with h1 | ⟨_, h1, _⟩
    · exact Nat.le_succ_of_le (h.us e h1)
    · rw [h1, h.uses]; exact Nat.le_refl _
  rcases hp with ⟨hl, rfl, rfl⟩ | ⟨hl, x, hx, he⟩
  · refine ⟨⟨(lay_room ..).trans h.room, by rw [lay_uses, h.uses], hul, lay_nodup h.kn _ _ _, by rw [h.room] at hl; exact hl, h.na.lay _ _ _, hrl⟩, List.nodup_nil, by simp, by simp⟩
  · have hnk : k ∉ c.all.map (·.k) := fun hkk => by rw [lay_len, if_pos hkk, h.room] at hl; have := h.len; omega
    have hne : c.all ≠ [] := fun e => by rw [lay_len, if_neg hnk, h.room, e] at hl; simp at hl; omega
    obtain ⟨hxk, hxm⟩ := old_ne (fun e he => by rw [h.uses]; exact h.us e he) hne hnk hx
    obtain ⟨ha, ho⟩ := evict_na (h.na.lay k b d) x []
    have hel := evict_len (lay c k b d) x [] (lay_nodup h.kn _ _ _) hx.1
    have hkn : ((evict1 (lay c k b d) x []).1.all.map (·.k)).Nodup := by rw [evict_keys]; exact (List.filter_sublist).nodup (lay_nodup h.kn _ _ _)
    have hro : (evict1 (lay c k b d) x []).1.room = n := (lay_room ..).trans h.room
    have hus : (evict1 (lay c k b d) x []).1.uses = t + 1 := by rw [evict_uses, lay_uses, h.uses]
    rw [he] at ha ho hel hkn hro hus
    simp only at ha ho hel hkn hro hus
    have hxr : 0 ≤ x ∧ x < K := by obtain ⟨e9, he9, hx9⟩ := List.mem_map.1 hxm; rw [← hx9]; exact h.rng e9 he9
    refine ⟨⟨hro, hus, fun e he => ?_, hkn, ?_, ?_, fun e he => ?_⟩, ?_, fun y hy => ?_, fun y => ?_⟩
    · rw [ha] at he; exact hul e (List.mem_filter.1 he).1
    · rw [lay_len, if_neg hnk] at hel; have := h.len; omega
    · rw [ha]; exact (h.na.lay k b d).delE x
    · rw [ha] at he; exact hrl e (List.mem_filter.1 he).1
    · rw [ho]; split <;> simp
    · rw [ho] at hy
      split at hy
      · rename_i hd
        simp at hy; subst hy; exact ⟨hxr, hd, hxk⟩
      · cases hy
    · rw [ha]
      have e1 : dirtyAt (delE (lay c k b d).all x) y = if y = x then false else dirtyAt (lay c k b d).all y := by
        rw [show dirtyAt (delE (lay c k b d).all x) y = ((find (delE (lay c k b d).all x) y).map (·.dirty)).getD false from rfl, find_delE]
        split <;> rfl
      rw [e1, ho]
      by_cases hy : y = x
      · subst hy
        rw [if_pos rfl]
        cases hd : dirtyAt (lay c k b d).all y <;> simp
      · rw [if_neg hy]
        split <;> simp [hy]
end Go.Lr
namespace Go.Proofs.Ytbklhhmcigangaa
open Go.RowKit Go.Mx Go.Lr Go.Maps
theorem okC_lay {c : CM} (ok : OkC c) {k : Int} (hk : isI k) (hl : c.all.length ≤ 1999) (b : List UInt8) (d : Bool) : OkC (Lr.lay c k b d) where
  is := fun e he y hy => by
    rcases lay_mem he with h1 | ⟨_, _, h1 | ⟨g, hg, h1⟩⟩
    · exact ok.is e h1 y hy
    · rw [h1] at hy; cases hy
    · rw [h1] at hy; exact ok.is g hg y hy
  sm := fun e he => by
    rcases lay_mem he with h1 | ⟨_, _, h1 | ⟨g, hg, h1⟩⟩
    · exact ok.sm e h1
    · rw [h1]; exact Nat.zero_le _
    · rw [h1]; exact ok.sm g hg
  len := by rw [lay_len]; split <;> omega
  ks := fun e he => by
    rcases lay_mem he with h1 | ⟨h1, _⟩
    · exact ok.ks e h1
    · rw [h1]; exact hk
/-- a Put, whatever room there is -/
theorem put_gen {w : World} {base p m : Nat} {c : CM} {fs : List PR} (h : CK w base p m c fs All) (ok : OkC c) (k : Int) (hk : isI k) (v : Value) (b : List UInt8) (B : Nat) (hb : SlB w B v b) (hB : B ≤ w.heap.size) (hl : b.length ≤ 1000000) (d : Bool) (hu : c.uses ≤ 100000000) (hus : ∀ e ∈ c.all, e.pg.used ≤ c.uses) (hr : c.all.length ≤ c.room) (hr2 : c.room ≤ 1999) :
    Calls Try.prog 13 #[cp p, .int .i64 k, v, .bool d] w fun e w' => ∃ v out c' fs', e = .returned v ∧ PutR c k b d c' out ∧ CK w' base p m c' fs' All ∧ Stp base p m w fs w' fs' ∧ OwnI w' w.heap.size v out ∧ ∀ q, v.ownBlock = some q → Free p m fs' q := by
  by_cases hroom : (Lr.lay c k b d).all.length ≤ c.room
  · refine (put_room h k hk v b B hb hB hl d (by omega) hroom (by omega)).mono fun e w' ⟨he, fs', hc, hs⟩ => ?_
    exact ⟨_, [], _, fs', he, .inl ⟨hroom, rfl, rfl⟩, hc, hs, OwnV.nil _ _ _, fun q e => by cases e⟩
  · have hno : k ∉ c.all.map (·.k) := fun hkk => by rw [lay_len, if_pos hkk] at hroom; exact hroom hr
    rw [lay_len, if_neg hno] at hroom
    have hfl : fs.length = c.room := by rw [← h.lenAll]; omega
    refine (put_evict h k hk hno v b B hb hB hl d (by omega) hfl (by omega) _ rfl (okC_lay ok hk (by omega) b d) (fun e he => ?_) ⟨by rw [lay_len, if_neg hno, h.lenAll], lay_room ..⟩).mono fun e w' ⟨v, he, x, fs', hx, hc, hs, ho, hf⟩ => ?_
    · rcases lay_mem he with h1 | ⟨_, h1, _⟩
      · have := hus e h1; omega
      · rw [h1]; omega
    · exact ⟨v, _, _, fs', he, .inr ⟨by rw [lay_len, if_neg hno]; omega, x, hx, rfl⟩, hc, hs, OwnI.rebase ho fun q e => (hf q e).2, fun q e => (hf q e).1⟩
end Go.Proofs.Ytbklhhmcigangaa
