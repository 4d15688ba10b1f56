import Derived.Test.YtgkabcaodnofnaaGreatP
set_option linter.unusedSimpArgs false
set_option linter.unusedVariables false
namespace Go.Proofs.YtgkabcaodnofnaaGreat
open Go.RowKit Go.Mx Go.Md
set_option linter.unusedVariables false
set_option linter.unusedSimpArgs false
/-- an image in another one's place -/
def repl (xs : List XI) (y : XI) : List XI := xs.map fun z => if z.n = y.n then y else z
theorem flat_apart {α β : Type} (f : α → List β) : ∀ (xs : List α), (xs.flatMap f).Nodup → ∀ {x z : α}, x ∈ xs → z ∈ xs → x ≠ z → ∀ b, b ∈ f x → b ∈ f z → False
  | [], _, x, z, hx, _, _, _, _, _ => by cases hx
  | a :: r, hn, x, z, hx, hz, hne, b, h1, h2 => by
    rw [List.flatMap_cons, List.nodup_append] at hn
    obtain ⟨_, hr, hd⟩ := hn
    rcases List.mem_cons.1 hx with rfl | hx' <;> rcases List.mem_cons.1 hz with rfl | hz'
    · exact hne rfl
    · exact hd b h1 b (List.mem_flatMap.2 ⟨z, hz', h2⟩) rfl
    · exact hd b h2 b (List.mem_flatMap.2 ⟨x, hx', h1⟩) rfl
    · exact flat_apart f r hr hx' hz' hne b h1 h2
theorem name_inj {xs : List XI} (h : (xs.map (·.n)).Nodup) {x z : XI} (hx : x ∈ xs) (hz : z ∈ xs) (e : z.n = x.n) : z = x := by
  induction xs with
  | nil => cases hx
  | cons a r ih =>
    rw [List.map_cons, List.nodup_cons] at h
    rcases List.mem_cons.1 hx with rfl | hx' <;> rcases List.mem_cons.1 hz with rfl | hz'
    · rfl
    · exact absurd (List.mem_map.2 ⟨z, hz', e⟩) h.1
    · exact absurd (List.mem_map.2 ⟨x, hx', e.symm⟩) h.1
    · exact ih h.2 hx' hz'
variable {w w' : World} {base am : Nat} {S : IL} {xs : List XI}
theorem AM.find (h : AM w base am S xs) {x : XI} (hx : x ∈ xs) : fnd S x.n = some x.i := fnd_of h.nd (h.p.mem_iff.1 (List.mem_map.2 ⟨x, hx, rfl⟩))
theorem AM.apart (hnd : (fpA am xs).Nodup) {x z : XI} (hx : x ∈ xs) (hz : z ∈ xs) (hne : z.n ≠ x.n) : ∀ b ∈ z.x.fp z.ib, b ∉ x.x.fp x.ib := by
  intro b h1 h2
  have h3 := (List.nodup_cons.1 hnd).2
  exact flat_apart (fun x : XI => x.x.fp x.ib) xs h3 hz hx (fun e => hne (by rw [e])) b h1 h2
theorem fpA_mem {x : XI} (hx : x ∈ xs) : ∀ b ∈ x.x.fp x.ib, b ∈ fpA am xs := fun b hb => List.mem_cons_of_mem _ (List.mem_flatMap.2 ⟨x, hx, hb⟩)
theorem AM.am_not (hnd : (fpA am xs).Nodup) {x : XI} (hx : x ∈ xs) : am ∉ x.x.fp x.ib := fun h => (List.nodup_cons.1 hnd).1 (List.mem_flatMap.2 ⟨x, hx, h⟩)
theorem AM.set (h : AM w base am S xs) (hnd : (fpA am xs).Nodup) {x : XI} (hx : x ∈ xs) {N : Nat → Prop} (hk : Kept w w' N) (hN : ∀ b ∈ fpA am xs, b ∉ x.x.fp x.ib → N b) (hNI : NI w N) {i' : IM} {x' : IX} (hII : II w' base x.ib i' x') (hok : IOk i') :
    AM w' base am (setI S x.n i') (repl xs ⟨x.n, i', x.ib, x'⟩) := by
  have hinj := fun {z : XI} (hz : z ∈ xs) (e : z.n = x.n) => name_inj h.names hx hz e
  have hfs := h.find hx
  refine ⟨?_, ?_, ?_, ?_, ?_, ?_⟩
  · have e : (repl xs ⟨x.n, i', x.ib, x'⟩).map (fun x => (x.n, pt x.ib)) = xs.map fun x => (x.n, pt x.ib) := by
      unfold repl
      rw [List.map_map]
      refine List.map_congr_left fun z hz => ?_
      simp only [Function.comp]
      split
      · rename_i e; rw [hinj hz e]
      · rfl
    rw [e]
    exact h.g.block (hk.block am h.g.lt (hN am (List.mem_cons_self ..) (AM.am_not hnd hx)))
  · have e : (repl xs ⟨x.n, i', x.ib, x'⟩).map (fun x => (x.n, x.i)) = (xs.map fun x => (x.n, x.i)).map fun p => if p.1 = x.n then (x.n, i') else p := by
      unfold repl
      rw [List.map_map, List.map_map]
      refine List.map_congr_left fun z hz => ?_
      simp only [Function.comp]
      split <;> rfl
    rw [e]
    unfold setI
    rw [hfs]
    simp only [Option.isSome_some, if_true]
    exact h.p.map _
  · intro z hz
    obtain ⟨y, hy, rfl⟩ := List.mem_map.1 hz
    dsimp only
    split
    · exact hII
    · rename_i hne
      exact (h.i y hy).kept hk (fun b hb => hN b (fpA_mem hy b hb) (AM.apart hnd hx hy hne b hb)) hNI
  · intro z hz
    obtain ⟨y, hy, rfl⟩ := List.mem_map.1 hz
    dsimp only
    split
    · exact hok
    · exact h.ok y hy
  · intro z hz
    obtain ⟨y, hy, rfl⟩ := List.mem_map.1 hz
    dsimp only
    split
    · exact h.nl x hx
    · exact h.nl y hy
  · rw [setI_names, hfs]; exact h.nd
theorem fpA_repl (h : AM w base am S xs) {x : XI} (hx : x ∈ xs) {i' : IM} {x' : IX} (hf : x'.fp x.ib = x.x.fp x.ib) : fpA am (repl xs ⟨x.n, i', x.ib, x'⟩) = fpA am xs := by
  unfold fpA repl
  congr 1
  rw [List.flatMap_map]
  have : ∀ (l : List XI), (∀ z ∈ l, z ∈ xs) → l.flatMap (fun a => (if a.n = x.n then (⟨x.n, i', x.ib, x'⟩ : XI) else a).x.fp (if a.n = x.n then (⟨x.n, i', x.ib, x'⟩ : XI) else a).ib) = l.flatMap fun x => x.x.fp x.ib := by
    intro l
    induction l with
    | nil => intro _; rfl
    | cons a r ih =>
      intro hl
      rw [List.flatMap_cons, List.flatMap_cons, ih fun z hz => hl z (List.mem_cons_of_mem _ hz)]
      congr 1
      split
      · rename_i e
        rw [name_inj h.names hx (hl a (List.mem_cons_self ..)) e]; exact hf
      · rfl
  exact this xs fun _ h => h
theorem repl_mem {x : XI} (hx : x ∈ xs) (i' : IM) (x' : IX) : (⟨x.n, i', x.ib, x'⟩ : XI) ∈ repl xs ⟨x.n, i', x.ib, x'⟩ := List.mem_map.2 ⟨x, hx, by simp⟩
/-- pieces, one by one -/
theorem pcs_at {W a stop j pos : Nat} (hW : 0 < W) (hdr : (pcs W a stop).drop j = pcs W pos stop) (hlt : pos < stop) :
    ∃ k, 1 ≤ k ∧ pos + k ≤ stop ∧ pos % W + k ≤ W ∧ j < (pcs W a stop).length ∧ ((pcs W a stop).map (prow W)).getD j [] = [.int .i64 (pos / W : Nat), .int .i64 (pos % W : Nat), .int .i64 k] ∧
      (pcs W a stop).drop (j + 1) = pcs W (pos + k) stop ∧ pcs W pos stop = (pos, k) :: pcs W (pos + k) stop := by
  have hst := pcs_step hW hlt
  have hmW : pos % W < W := Nat.mod_lt _ hW
  obtain ⟨k, hk⟩ : ∃ k, k = min (W - pos % W) (stop - pos) := ⟨_, rfl⟩
  rw [← hk] at hst
  have hj : j < (pcs W a stop).length := by
    rcases Nat.lt_or_ge j (pcs W a stop).length with h | h
    · exact h
    · rw [List.drop_eq_nil_of_le h, hst] at hdr; cases hdr
  have hget : (pcs W a stop)[j]? = some (pos, k) := by
    have := congrArg (fun l => l[0]?) (hdr.trans hst)
    simpa using this
  refine ⟨k, by omega, by omega, by omega, hj, ?_, ?_, hst⟩
  · rw [List.getD_eq_getElem?_getD, List.getElem?_map, hget]; rfl
  · have := congrArg List.tail (hdr.trans hst)
    simpa using this
theorem pcs_over {W a stop j : Nat} (hdr : (pcs W a stop).drop j = pcs W stop stop) (hj : j ≤ (pcs W a stop).length) : j = (pcs W a stop).length := by
  have h1 := congrArg List.length hdr
  rw [pcs_end (Nat.le_refl _), List.length_drop] at h1
  simp at h1
  omega
theorem shl_nat (a k : Nat) : ((a : Int) * 2 ^ k) = ((a * 2 ^ k : Nat) : Int) := by push_cast; rfl
end Go.Proofs.YtgkabcaodnofnaaGreat
