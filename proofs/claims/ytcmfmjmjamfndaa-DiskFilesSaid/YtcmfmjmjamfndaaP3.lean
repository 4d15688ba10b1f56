import Derived.Test.YtcmfmjmjamfndaaP6
namespace Go.Mx
open Go.RowKit
/-- 'make([]bool, n)' -/
theorem make_bools {P : Program} (w : World) {ops : Array Oper} {rest : List Oper} {o : Oper} {a : Act} {Q : Exit → Act → World → Prop} (hg : o.guard = none) (l c : Operand) (t e : TypeId)
    (hop : o.op = Op.makeSlice t l c) (ht : P.underlying t = some (.slice e)) (hi : (P.info? e).map (fun i => (i.zero, i.size, i.bytes)) = some (some (.bool false), 1, 1))
    (base : Nat) (kl kc : IntKind) (L C : Int) (n : Nat) (hl : a.eval l = .int kl L) (hc : a.eval c = .int kc C) (hL : L = (n : Int)) (hC : C = (n : Int)) (hn : n ≤ 1000000000) (hB : base ≤ w.heap.size)
    (h : ∀ v w', OwnV w' base e v (List.replicate n (.bool false)) → Below w.heap.size w w' → v = .slice (some ⟨w.heap.size, 0, none⟩) n n → wpList P ops Q rest (a.put o.dst v) w') : wpList P ops Q (o :: rest) a w := by
  obtain ⟨i0, hi0, hz0, hz1, hz2⟩ := info_parts hi
  refine wpList_make_full w hg l c t hop base e i0 _ 1 ht hi0 hz0 hz1 kl kc L C n hl hc hL hC (by rw [hz2]; omega) (by unfold maxLen; omega) hB ?_
  intro w' ho hgr
  refine h _ w' ?_ ⟨hgr.os, hgr.tape, hgr.output, hgr.size, fun k hk => hgr.block k hk (by simp)⟩ rfl
  unfold OwnV
  have e1 : (madeCells (Value.bool false).cells (n * 1)).toList = List.replicate n (.bool false) := by
    rw [show (Value.bool false).cells = #[Value.bool false] from rfl, toList_madeCells_one]
    simp
  rw [e1] at ho
  simpa using ho
end Go.Mx
namespace Go.Dk
theorem put_getD (l : List Sec) (k i : Nat) (s : Sec) (hi : i < l.length) : (put l k s).getD i [] = l.getD i [] ∨ (k = i ∧ (put l k s).getD i [] = s) := by
  unfold put
  by_cases e : k = i
  · right
    subst e
    refine ⟨rfl, ?_⟩
    rw [List.getD_eq_getElem?_getD, List.getElem?_set_self (by rw [grow_len]; omega)]; rfl
  · left
    rw [List.getD_eq_getElem?_getD, List.getElem?_set_ne e, List.getD_eq_getElem?_getD]
    unfold grow
    rw [List.getElem?_append_left hi]
theorem lay_get (xs : List (Nat × Sec)) : ∀ (l : List Sec) (i : Nat), i < l.length → i < (lay l xs).length ∧ ((lay l xs).getD i [] = l.getD i [] ∨ ∃ x ∈ xs, x.1 = i ∧ (lay l xs).getD i [] = x.2) := by
  induction xs with
  | nil => intro l i hi; exact ⟨hi, .inl rfl⟩
  | cons x xs ih =>
    intro l i hi
    have h1 := ih (put l x.1 x.2) i (by rw [put_len]; omega)
    refine ⟨h1.1, ?_⟩
    show (lay (put l x.1 x.2) xs).getD i [] = _ ∨ _
    rcases h1.2 with h2 | ⟨y, hy, hy1, hy2⟩
    · rcases put_getD l x.1 i x.2 hi with h3 | ⟨h3, h4⟩
      · exact .inl (h2.trans h3)
      · exact .inr ⟨x, by simp, h3, h2.trans h4⟩
    · exact .inr ⟨y, by simp [hy], hy1, hy2⟩
theorem lay_ok (xs : List (Nat × Sec)) (hx : ∀ x ∈ xs, x.1 < 65536 ∧ x.2.length = 16) : ∀ (l : List Sec), SecsOk l → SecsOk (lay l xs) := by
  induction xs with
  | nil => intro l h; exact h
  | cons x xs ih =>
    intro l h
    exact ih (fun y hy => hx y (by simp [hy])) _ (put_ok h _ (hx x (by simp)).1 _ (hx x (by simp)).2)
theorem pk1_mem {picks : List Bool} {log : List (Nat × Sec)} {x : Nat × Sec} (h : x ∈ pk1 picks log) : x ∈ log := by
  unfold pk1 at h
  obtain ⟨i, _, hi⟩ := List.mem_filterMap.1 h
  split at hi
  · exact List.mem_of_getElem? hi
  · cases hi
end Go.Dk
namespace Go.Proofs.Ytcmfmjmjamfndaa
open Go.RowKit Go.Mx Go.Dk
set_option linter.unusedSimpArgs false
set_option linter.unusedVariables false
theorem write_off {w : World} {base p room left : Nat} {now kept : List Sec} {log : List (Nat × Sec)} (h : H1 w base p (S1 room now kept log left true)) (k : Int) (oa : Option Addr) (n c : Nat) :
    Calls Try.prog 14 #[dp p, fN, .int .i64 k, .slice oa n c] w fun e w' => e = .returned (.int .i64 8) ∧ w = w' := by
  obtain ⟨fs, m, lv, x, h⟩ := h
  have HH := hid (has_no h [102] (by decide) (show hasE (S1 room now kept log left true) [102] ≠ 0 by unfold hasE; simp [S1]))
  have e8 : hasE (S1 room now kept log left true) [102] = 8 := rfl
  rw [e8] at HH
  have hlen : ∀ w', (Builtin.len_ #[22] 3 #[.slice oa n c]).run Try.prog w' = .ok (.int .i64 n) w' := fun w' => len_sl Try.underlying22 rfl w'
  clear h e8
  go_enter Try.func14, Try.ntmps14
  go_wp2_with fail
  refine HH.out.mono ?_
  rintro e w1 ⟨rfl, rfl⟩
  go_wp2
  go_ret
  exact ⟨rfl, rfl⟩
/-- a disk whose file was written over at what is touched -/
def Kp (base p : Nat) (N : List Sec) (tl : List Bool) (cnt : Nat) (w : World) : Prop :=
  ∃ now log left off, H1 w base p (S1 1000 now N log left off) ∧ SecsOk now ∧ now.length ≤ 1000 ∧ LogOk log ∧ log.length ≤ cnt ∧ left ≤ 255 ∧ ∀ x ∈ log, x.2 = secOf 63 ∧ tl.getD x.1 false = true
theorem Kp.below {base p : Nat} {N : List Sec} {tl : List Bool} {cnt : Nat} {w w' : World} (h : Kp base p N tl cnt w) (hb : Below w.heap.size w w') : Kp base p N tl cnt w' := by
  obtain ⟨now, log, left, off, h1, h2⟩ := h
  exact ⟨now, log, left, off, h1.below hb, h2⟩
theorem set_getD (tl : List Bool) (y i : Nat) (h : tl.getD i false = true) : (tl.set y true).getD i false = true := by
  rw [List.getD_eq_getElem?_getD, List.getElem?_set] at *
  split
  · rename_i e
    split
    · rfl
    · rename_i hl
      subst e
      rw [List.getElem?_eq_none (by omega)] at h; cases h
  · exact h
theorem kp_write {base p : Nat} {N : List Sec} {tl : List Bool} {cnt : Nat} {w : World} (h : Kp base p N tl cnt w) (hN : SecsOk N) (hcnt : cnt ≤ 1000) (y : Nat) (hy : y ≤ 255) (htl : tl.length = 300) (v : Value) (hsh : ∃ oa n c, v = .slice oa n c) (hst : ∀ w', Fr base w w' → SlB w' w'.heap.size v (secOf 63)) :
    Calls Try.prog 14 #[dp p, fN, .int .i64 y, v] w fun e w' => (∃ c, e = .returned (.int .i64 c)) ∧ Kp base p N (tl.set y true) (cnt + 1) w' ∧ Fr base w w' := by
  obtain ⟨now, log, left, off, h1, h2, h3, h4, h5, h6, h7⟩ := h
  obtain ⟨oa, n, c, rfl⟩ := hsh
  have hy9 : (tl.set y true).getD y false = true := by
    rw [List.getD_eq_getElem?_getD, List.getElem?_set_self (by omega)]; rfl
  cases off
  · refine (write_S1 h1 h2 hN h4 y (secOf 63) (secOf_len _) _ hst (by omega) (by omega) h3 (by decide) (by omega)).mono fun e w' ⟨hf, he, hd⟩ => ⟨⟨_, he⟩, ?_, hf⟩
    by_cases hl : left = 1
    · rw [if_pos hl] at hd
      exact ⟨now, log, 0, true, hd, h2, h3, h4, by omega, by omega, fun x hx => ⟨(h7 x hx).1, set_getD _ _ _ (h7 x hx).2⟩⟩
    · rw [if_neg hl] at hd
      refine ⟨_, _, _, _, hd, put_ok h2 _ (by omega) _ (secOf_len _), by rw [put_len]; omega, ⟨by simp; omega, ?_⟩, by simp; omega, by omega, ?_⟩
      · intro x hx
        rcases List.mem_append.1 hx with hx | hx
        · exact h4.2 x hx
        · simp at hx; subst hx; exact ⟨by show y < 65536; omega, secOf_len _⟩
      · intro x hx
        rcases List.mem_append.1 hx with hx | hx
        · exact ⟨(h7 x hx).1, set_getD _ _ _ (h7 x hx).2⟩
        · simp at hx; subst hx; exact ⟨rfl, hy9⟩
  · exact (write_off h1 y oa n c).mono fun e w' ⟨he, hw⟩ => ⟨⟨_, he⟩, by rw [← hw]; exact ⟨now, log, left, true, h1, h2, h3, h4, by omega, h6, fun x hx => ⟨(h7 x hx).1, set_getD _ _ _ (h7 x hx).2⟩⟩, by rw [← hw]; exact Fr.refl _ _⟩
theorem ownV_fr {w w' : World} {base b : Nat} {v : Value} {l : List Value} (h : OwnV w b 4 v l) (hf : Fr base w w') : OwnV w' b 4 v l := by
  refine ownsRow_kept h hf.kept fun k hk => ?_
  rcases h.2 with ⟨rfl, _⟩ | ⟨g, cap, cur, rfl, _, hg, _⟩
  · cases hk
  · cases hk; exact ⟨_, _, _, hg, by decide, by decide, by decide, by decide⟩
end Go.Proofs.Ytcmfmjmjamfndaa
