import Derived.Test.YtcmfmjmjamfndaaP75
namespace Go.Mx
open Go.RowKit
/-- 'append(out, x)' of one one-cell element onto a slice of the call's own -/
theorem append_v {P : Program} (w : World) {ops : Array Oper} {rest : List Oper} {o : Oper} {a : Act} {Q : Exit → Act → World → Prop} (hgd : o.guard = none) (s x : Operand) (t e : TypeId) (z : Value) (bytes : Nat)
    (ho : o.op = .call { callee := .builtin .append, args := #[s, x], argTypes := #[t, t] })
    (ht : P.underlying t = some (.slice e)) (hi : (P.info? e).map (fun i => (i.zero, i.size, i.bytes)) = some (some z, 1, bytes)) (hz : z.cells.size = 1)
    (base : Nat) (v : Value) (l : List Value) (u : Value) (hs : a.eval s = v) (hown : OwnV w base e v l) (g c : Nat) (hx : a.eval x = .slice (some ⟨g, 0, none⟩) 1 c)
    (hcell : w.cell? ⟨g, 0, none⟩ = some u) (hone : u.oneCell' = true) (hlen : (l.length + 1) * bytes ≤ 140737488355328) (hlen2 : l.length + 1 ≤ 140737488355328) (hB : base ≤ w.heap.size)
    (h : ∀ v' w', OwnV w' base e v' (l ++ [u]) → Below base w w' → wpList P ops Q rest (a.put o.dst v') w') : wpList P ops Q (o :: rest) a w := by
  obtain ⟨i0, hi0, hz0, hz1, hz2⟩ := info_parts hi
  refine wpList_append_own w hgd s x t ho base e i0 _ 1 bytes ht hi0 hz0 hz1 hz2 hz (by decide) v l.length _ hs hown ⟨g, 0, none⟩ 1 c [u] hx rfl ?_ ?_ ?_ ?_ hB ?_
  · intro j y hj
    match j, hj with
    | 0, hj => simp at hj; subst hj; simpa [Addr.add] using hcell
  · intro y hy; simp at hy; subst hy; exact hone
  · unfold maxLen; omega
  · exact hlen
  · intro v' w' ho' hg' _
    refine h v' w' ?_ ?_
    · unfold OwnV; simpa using ho'
    · exact (Below.refl base w).grown hg' hB (fun k hk => (World.ownsRow.lt hown k hk).1)
theorem OwnV.slG {w : World} {base : Nat} {e : TypeId} {v : Value} {l : List Value} (h : OwnV w base e v l) : SlG w w.heap.size 1 v (l.map fun u => [u]) := by
  refine ownsRow_slG (rows := l.map fun u => [u]) (e := e) (base := base) ?_ (by simp)
  have : ∀ l : List Value, (l.map fun u => [u]).flatten = l := fun l => by induction l <;> simp_all
  rw [this]
  simpa [OwnV] using h
end Go.Mx
namespace Go.Proofs.Ytcmfmjmjamfndaa
open Go.RowKit Go.Mx Go.Dk
set_option linter.unusedSimpArgs false
set_option linter.unusedVariables false
theorem many_go : ∀ (ss : List Sec) (d : DM) (nm : List UInt8) (k : Nat), d.left = 0 → (Dk.many d nm k ss).2 = true
  | [], _, _, _, _ => rfl
  | s :: ss, d, nm, k, h => by
    simp only [Dk.many]
    have h1 : Dk.one d nm k s = ({ d with left := d.left - 1, files := setF d.files nm fun f => { f with now := put f.now k s }, log := d.log ++ [⟨nm, k, s⟩] }, true) := by
      unfold Dk.one; rw [if_neg (by omega)]
    rw [h1]
    exact many_go ss _ nm (k + 1) (by simp [h])
theorem write_go {w : World} {base p room : Nat} {now kept : List Sec} {log : List (Nat × Sec)} (h : H1 w base p (S1 room now kept log 0 false)) (h1 : SecsOk now) (h2 : SecsOk kept) (h3 : LogOk log) (ss : List Sec) (hs : ∀ s ∈ ss, s.length = 16) (bv : Value) (hst : ∀ w', Fr base w w' → SlB w' w'.heap.size bv ss.flatten)
    (hn0 : 1 ≤ ss.length) (hn1 : ss.length ≤ 1000) (hf1 : ss.length ≤ room) (hf2 : now.length ≤ room) (hroom : room ≤ 1048576) :
    Calls Try.prog 14 #[dp p, fN, .int .i64 0, bv] w fun e w' => e = .returned (.int .i64 0) ∧ Fr base w w' := by
  obtain ⟨fs, m, lv, x, h⟩ := h
  obtain ⟨f, hi, hf⟩ := file_S1 h
  have hn : f.fm.name = [102] := by rw [hf]
  have hw : f.fm.now = now := by rw [hf]
  have := write_any h (small_S1 h1 h2 h3) rfl hi (by rw [hn]; decide) 0 ss bv hst hs (by omega) (by omega) (by rw [used_S1]; exact hf2) hroom (by show 0 ≤ _; omega) (by
    show (log.map _).length + _ ≤ _
    rw [List.length_map]; have := h3.1; omega)
  rw [hn] at this
  refine Calls.mono (show Calls Try.prog 14 #[dp p, fN, .int .i64 0, bv] w _ from this) fun e w' ⟨hfr, hr⟩ => ?_
  unfold WRes at hr
  rw [hn] at hr
  rcases hr with ⟨_, he, _⟩ | ⟨hnf, _⟩
  · refine ⟨?_, hfr⟩
    rw [many_go ss _ _ _ rfl] at he
    exact he
  · exact absurd (.inr (by rw [used_S1, hw]; show 0 + ss.length + now.length ≤ room + now.length; omega)) hnf
theorem flat_take : ∀ (ss : List Sec) (j : Nat), (∀ s ∈ ss, s.length = 16) → j ≤ ss.length → ss.flatten.take (16 * j) = (ss.take j).flatten
  | _, 0, _, _ => by simp
  | [], _ + 1, _, h => by simp at h
  | s :: ss, j + 1, hs, h => by
    have ih := flat_take ss j (fun x hx => hs x (by simp [hx])) (by simpa using h)
    have h1 : s.length = 16 := hs s (by simp)
    rw [List.flatten_cons, List.take_append, h1, List.take_of_length_le (by omega), show 16 * (j + 1) - 16 = 16 * j by omega, ih, List.take_succ_cons, List.flatten_cons]
theorem flat_len : ∀ (ss : List Sec), (∀ s ∈ ss, s.length = 16) → ss.flatten.length = 16 * ss.length
  | [], _ => rfl
  | s :: ss, hs => by
    rw [List.flatten_cons, List.length_append, hs s (by simp), flat_len ss fun x hx => hs x (by simp [hx]), List.length_cons]; omega
theorem secs_all (l : List Sec) : secs l 0 l.length = l.flatten := by simp [secs]
/-- the sectors that are written -/
def abc (i : Nat) : List Sec := (List.range i).map fun j => secOf (UInt8.ofNat (97 + j))
theorem abc_len (i : Nat) : (abc i).length = i := by simp [abc]
theorem abc_ok (i : Nat) : ∀ s ∈ abc i, s.length = 16 := by
  intro s hs
  obtain ⟨j, _, rfl⟩ := List.mem_map.1 hs
  exact secOf_len _
theorem abc_succ (i : Nat) : (abc (i + 1)).flatten = (abc i).flatten ++ secOf (UInt8.ofNat (97 + i)) := by
  simp [abc, List.range_succ]
theorem picks_own {w : World} {base b : Nat} {v : Value} {l : List Bool} (h : OwnV w b 4 v (l.map .bool)) : ∀ w', Fr base w w' → Picks w' v l := by
  intro w' hf
  have h1 : OwnV w 0 4 v (l.map .bool) := h.any_base (Nat.zero_le _)
  have h2 : OwnV w' 0 4 v (l.map .bool) := by
    refine ownsRow_kept h1 hf.kept fun k hk => ?_
    rcases h1.2 with ⟨rfl, _⟩ | ⟨g, cap, cur, rfl, _, hg, _⟩
    · cases hk
    · cases hk; exact ⟨_, _, _, hg, by decide, by decide, by decide, by decide⟩
  have h3 := h2.slG
  rw [List.map_map] at h3
  exact h3
theorem conv_fr {w : World} {base : Nat} {v : Value} {l : List UInt8} (h : ∀ w', Fr base w w' → SlB w' w'.heap.size v l) : ∀ w', Fr base w w' → (convert 22 9 v).run Try.prog w' = .ok (.string ⟨l.toArray⟩) w' :=
  fun w' hf => conv_own (h w' hf) (Nat.le_refl _) w' (Below.refl _ _)
set_option maxRecDepth 100000 in
theorem slb_to_fr {w : World} {base : Nat} {oa : Option Addr} {n c : Nat} {l : List UInt8} (h : ∀ w', Fr base w w' → SlB w' w'.heap.size (.slice oa n c) l) (hi : Nat) (h2 : hi ≤ l.length) :
    ∃ sv, (∀ w', Fr base w w' → SlB w' w'.heap.size sv (l.take hi)) ∧ ∀ w' (k : IntKind), (Instr.slice 22 (.slice oa n c) none (some (.int k (hi : Int))) none).run Try.prog w' = .ok sv w' := by
  refine ⟨sliced oa 0 hi c 1, fun w' hf => by simpa using (h w' hf).cut 0 hi (Nat.zero_le _) h2, fun w' k => ?_⟩
  obtain ⟨oa', cap', hv, hc, hm, _⟩ := h w (Fr.refl _ _)
  injection hv with e1 e2 e3
  subst e1; subst e2; subst e3
  have ht' : Try.prog.underlying 22 = some (.slice (Try.prog.elem 22)) := by rw [Try.underlying22]; simp [Program.elem, Try.underlying22]
  have hel : Try.prog.elem 22 = 5 := by simp [Program.elem, Try.underlying22]
  rw [run_slice_h (h := (hi : Int)) (ht := ht') (h0 := by omega) (h2 := by omega), hel, show (sizeOf 5).run Try.prog w' = .ok 1 w' by kernel_rfl]
  simp [Result.andThen]
end Go.Proofs.Ytcmfmjmjamfndaa
