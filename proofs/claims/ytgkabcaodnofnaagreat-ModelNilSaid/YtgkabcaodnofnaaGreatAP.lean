import Derived.Test.YtgkabcaodnofnaaGreatKP
namespace Go.Proofs.YtgkabcaodnofnaaGreat
open Go.RowKit Go.Mx Go.Md
set_option linter.unusedVariables false
set_option linter.unusedSimpArgs false
/-- an image is put among the others -/
def putX (xs : List XI) (y : XI) : List XI := if xs.any (fun z => decide (z.n = y.n)) then repl xs y else xs ++ [y]
theorem repl_not {xs : List XI} {y : XI} (h : y.n ∉ xs.map (·.n)) : repl xs y = xs := by
  unfold repl
  conv => rhs; rw [← List.map_id xs]
  refine List.map_congr_left fun z hz => ?_
  rw [if_neg (fun (e : z.n = y.n) => h (by rw [← e]; exact List.mem_map.2 ⟨z, hz, rfl⟩))]; rfl
theorem repl_fp {xs : List XI} {y : XI} {b : Nat} (h : b ∈ (repl xs y).flatMap fun x => x.x.fp x.ib) : b ∈ (xs.flatMap fun x => x.x.fp x.ib) ∨ b ∈ y.x.fp y.ib := by
  obtain ⟨z, hz, hb⟩ := List.mem_flatMap.1 h
  obtain ⟨v, hv, rfl⟩ := List.mem_map.1 hz
  split at hb
  · exact .inr hb
  · exact .inl (List.mem_flatMap.2 ⟨v, hv, hb⟩)
theorem repl_nodup {y : XI} : ∀ (xs : List XI), (xs.map (·.n)).Nodup → (xs.flatMap fun x => x.x.fp x.ib).Nodup → (y.x.fp y.ib).Nodup → (∀ b ∈ y.x.fp y.ib, b ∉ xs.flatMap fun x => x.x.fp x.ib) → ((repl xs y).flatMap fun x => x.x.fp x.ib).Nodup
  | [], _, _, _, _ => by simp [repl]
  | a :: r, hn, hf, hy, hd => by
    rw [List.map_cons, List.nodup_cons] at hn
    rw [List.flatMap_cons, List.nodup_append] at hf
    have hd2 : ∀ b ∈ y.x.fp y.ib, b ∉ r.flatMap fun x => x.x.fp x.ib := fun b hb h => hd b hb (by rw [List.flatMap_cons]; exact List.mem_append_right _ h)
    have hd1 : ∀ b ∈ y.x.fp y.ib, b ∉ a.x.fp a.ib := fun b hb h => hd b hb (by rw [List.flatMap_cons]; exact List.mem_append_left _ h)
    have e : repl (a :: r) y = (if a.n = y.n then y else a) :: repl r y := rfl
    rw [e, List.flatMap_cons, List.nodup_append]
    by_cases h : a.n = y.n
    · rw [if_pos h, repl_not (by rw [← h]; exact hn.1)]
      exact ⟨hy, hf.2.1, fun b hb c hc e => hd2 b hb (e ▸ hc)⟩
    · rw [if_neg h]
      refine ⟨hf.1, repl_nodup r hn.2 hf.2.1 hy hd2, fun b hb c hc e => ?_⟩
      rcases repl_fp hc with h1 | h1
      · exact hf.2.2 b hb c h1 e
      · exact hd1 c h1 (e ▸ hb)
variable {w w' : World} {base am : Nat} {S : IL} {xs : List XI} {y : XI}
theorem any_name : xs.any (fun z => decide (z.n = y.n)) = true ↔ y.n ∈ xs.map (·.n) := by
  rw [List.any_eq_true, List.mem_map]
  constructor
  · rintro ⟨z, hz, h⟩; exact ⟨z, hz, by simpa using h⟩
  · rintro ⟨z, hz, h⟩; exact ⟨z, hz, by simpa using h⟩
theorem putX_mem {z : XI} (h : z ∈ putX xs y) : z = y ∨ (z ∈ xs ∧ z.n ≠ y.n) := by
  unfold putX at h
  split at h
  · obtain ⟨v, hv, rfl⟩ := List.mem_map.1 h
    split
    · exact .inl rfl
    · rename_i hn; exact .inr ⟨hv, hn⟩
  · rename_i hn
    rw [any_name] at hn
    rcases List.mem_append.1 h with h1 | h1
    · exact .inr ⟨h1, fun e => hn (e ▸ List.mem_map.2 ⟨z, h1, rfl⟩)⟩
    · simp at h1; exact .inl h1
theorem mem_putX : y ∈ putX xs y := by
  unfold putX
  split
  · rename_i h
    rw [List.any_eq_true] at h
    obtain ⟨z, hz, h⟩ := h
    exact List.mem_map.2 ⟨z, hz, by rw [if_pos (by simpa using h)]⟩
  · simp
theorem putX_old {z : XI} (h : z ∈ xs) (hn : z.n ≠ y.n) : z ∈ putX xs y := by
  unfold putX
  split
  · exact List.mem_map.2 ⟨z, h, by rw [if_neg hn]⟩
  · exact List.mem_append_left _ h
theorem putX_len : (putX xs y).length ≤ xs.length + 1 := by
  unfold putX; split
  · unfold repl; simp
  · simp
theorem fpA_putX {b : Nat} (h : b ∈ fpA am (putX xs y)) : b ∈ fpA am xs ∨ b ∈ y.x.fp y.ib := by
  unfold fpA at h ⊢
  rcases List.mem_cons.1 h with e | h1
  · exact .inl (e ▸ List.mem_cons_self ..)
  · unfold putX at h1
    split at h1
    · rcases repl_fp h1 with h2 | h2
      · exact .inl (List.mem_cons_of_mem _ h2)
      · exact .inr h2
    · rw [List.flatMap_append] at h1
      rcases List.mem_append.1 h1 with h2 | h2
      · exact .inl (List.mem_cons_of_mem _ h2)
      · exact .inr (by simpa using h2)
theorem fpA_putX_nodup (hn : (xs.map (·.n)).Nodup) (hf : (fpA am xs).Nodup) (hy : (y.x.fp y.ib).Nodup) (hd : ∀ b ∈ y.x.fp y.ib, b ∉ fpA am xs) : (fpA am (putX xs y)).Nodup := by
  have h1 := List.nodup_cons.1 hf
  have hd2 : ∀ b ∈ y.x.fp y.ib, b ∉ xs.flatMap fun x => x.x.fp x.ib := fun b hb h => hd b hb (List.mem_cons_of_mem _ h)
  unfold fpA
  rw [List.nodup_cons]
  constructor
  · intro h
    have h2 : am ∈ (putX xs y).flatMap fun x => x.x.fp x.ib := h
    have h3 : am ∈ (xs.flatMap fun x => x.x.fp x.ib) ∨ am ∈ y.x.fp y.ib := by
      unfold putX at h2
      split at h2
      · exact repl_fp h2
      · rw [List.flatMap_append] at h2
        rcases List.mem_append.1 h2 with h4 | h4
        · exact .inl h4
        · exact .inr (by simpa using h4)
    rcases h3 with h4 | h4
    · exact h1.1 h4
    · exact hd am h4 (List.mem_cons_self ..)
  · unfold putX
    split
    · exact repl_nodup xs hn h1.2 hy hd2
    · rw [List.flatMap_append, List.nodup_append]
      refine ⟨h1.2, by simpa using hy, fun b hb c hc e => ?_⟩
      subst e
      exact hd2 b (by simpa using hc) hb
theorem AM.names_S (h : AM w base am S xs) (n : Bs) : (fnd S n).isSome = true ↔ n ∈ xs.map (·.n) := by
  have hp := h.p.map (·.1)
  rw [List.map_map] at hp
  have e : xs.map ((fun x : Bs × IM => x.1) ∘ fun x : XI => (x.n, x.i)) = xs.map (·.n) := rfl
  rw [e] at hp
  rw [hp.mem_iff]
  cases hf : fnd S n with
  | none => rw [fnd_none] at hf; simp [hf]
  | some i => simp only [Option.isSome_some, true_iff]; exact List.mem_map.2 ⟨_, fnd_mem hf, rfl⟩
theorem AM.put (h : AM w base am S xs) (hnd : (fpA am xs).Nodup) (hg : GM ES Tryz.prog 9 w' am (Mx.upd (xs.map fun x => (x.n, pt x.ib)) y.n (pt y.ib))) (hk : Kept w w' (· ≠ am)) (hII : II w' base y.ib y.i y.x) (hok : IOk y.i) (hnl : y.n.length ≤ 100) :
    AM w' base am (setI S y.n y.i) (putX xs y) := by
  have hNI : NI w (· ≠ am) := fun b c t f hb _ e => by
    obtain ⟨es, k, h1⟩ := h.g.isMap
    rw [e, h1] at hb; cases hb
  have hamn : ∀ x ∈ xs, ∀ b ∈ x.x.fp x.ib, b ≠ am := fun x hx b hb e => (List.nodup_cons.1 hnd).1 (List.mem_flatMap.2 ⟨x, hx, e ▸ hb⟩)
  have hlk : (Mx.look (xs.map fun x => (x.n, pt x.ib)) y.n).isSome = xs.any fun z => decide (z.n = y.n) := by
    cases h1 : xs.any fun z => decide (z.n = y.n)
    · have h2 : y.n ∉ xs.map (·.n) := fun h3 => by rw [any_name.2 h3] at h1; cases h1
      rw [(look_none _ _).2 (by rw [List.map_map]; exact h2)]; rfl
    · obtain ⟨z, hz, h3⟩ := List.mem_map.1 (any_name.1 h1)
      rw [← h3]; exact look_xi_some hz
  have hS : (fnd S y.n).isSome = xs.any fun z => decide (z.n = y.n) := by
    rw [Bool.eq_iff_iff, h.names_S, any_name]
  refine ⟨?_, ?_, ?_, ?_, ?_, ?_⟩
  · have e : (putX xs y).map (fun x => (x.n, pt x.ib)) = Mx.upd (xs.map fun x => (x.n, pt x.ib)) y.n (pt y.ib) := by
      unfold putX Mx.upd
      rw [hlk]
      split
      · unfold repl
        rw [List.map_map, List.map_map]
        refine List.map_congr_left fun z hz => ?_
        simp only [Function.comp]
        split <;> rfl
      · simp
    rw [e]; exact hg
  · unfold putX setI
    rw [hS]
    split
    · have e : (repl xs y).map (fun x => (x.n, x.i)) = (xs.map fun x => (x.n, x.i)).map fun p => if p.1 = y.n then (y.n, y.i) else p := by
        unfold repl
        rw [List.map_map, List.map_map]
        refine List.map_congr_left fun z hz => ?_
        simp only [Function.comp]
        split <;> rfl
      rw [e]; exact h.p.map _
    · rw [List.map_append]; exact h.p.append_right _
  · intro z hz
    rcases putX_mem hz with rfl | ⟨h1, h2⟩
    · exact hII
    · exact (h.i z h1).kept hk (hamn z h1) hNI
  · intro z hz
    rcases putX_mem hz with rfl | ⟨h1, h2⟩
    · exact hok
    · exact h.ok z h1
  · intro z hz
    rcases putX_mem hz with rfl | ⟨h1, h2⟩
    · exact hnl
    · exact h.nl z h1
  · rw [setI_names]
    split
    · exact h.nd
    · rename_i hn
      rw [List.nodup_append]
      refine ⟨h.nd, by simp, fun a ha b hb e => ?_⟩
      simp at hb
      subst e; subst hb
      have : fnd S y.n = none := by cases hq : fnd S y.n with
        | none => rfl
        | some _ => rw [hq] at hn; exact absurd rfl hn
      rw [fnd_none] at this
      exact this ha
theorem filt_flat {f : XI → List Nat} (p : XI → Bool) : ∀ (xs : List XI), ((xs.filter p).flatMap f).Sublist (xs.flatMap f)
  | [] => .slnil
  | a :: r => by
    rw [List.filter_cons, List.flatMap_cons]
    split
    · rw [List.flatMap_cons]; exact (filt_flat p r).append_left _
    · exact (filt_flat p r).trans (List.sublist_append_right _ _)
theorem AM.drop (h : AM w base am S xs) (hnd : (fpA am xs).Nodup) (n : Bs) (hg : GM ES Tryz.prog 9 w' am (Mx.del (xs.map fun x => (x.n, pt x.ib)) n)) (hk : Kept w w' (· ≠ am)) :
    AM w' base am (delI S n) (xs.filter fun x => !decide (x.n = n)) := by
  have hNI : NI w (· ≠ am) := fun b c t f hb _ e => by
    obtain ⟨es, k, h1⟩ := h.g.isMap
    rw [e, h1] at hb; cases hb
  have hamn : ∀ x ∈ xs, ∀ b ∈ x.x.fp x.ib, b ≠ am := fun x hx b hb e => (List.nodup_cons.1 hnd).1 (List.mem_flatMap.2 ⟨x, hx, e ▸ hb⟩)
  refine ⟨?_, ?_, ?_, ?_, ?_, ?_⟩
  · have e : (xs.filter fun x => !decide (x.n = n)).map (fun x => (x.n, pt x.ib)) = Mx.del (xs.map fun x => (x.n, pt x.ib)) n := by
      unfold Mx.del
      rw [List.filter_map]; rfl
    rw [e]; exact hg
  · unfold delI
    have h1 := h.p.filter (fun p => !decide (p.1 = n))
    rw [List.filter_map] at h1
    exact h1
  · intro z hz
    have h1 := (List.mem_filter.1 hz).1
    exact (h.i z h1).kept hk (hamn z h1) hNI
  · intro z hz; exact h.ok z (List.mem_filter.1 hz).1
  · intro z hz; exact h.nl z (List.mem_filter.1 hz).1
  · rw [delI_names]; exact h.nd.filter _
theorem fpA_drop (p : XI → Bool) : (fpA am (xs.filter p)).Sublist (fpA am xs) := (filt_flat p xs).cons_cons am
end Go.Proofs.YtgkabcaodnofnaaGreat
