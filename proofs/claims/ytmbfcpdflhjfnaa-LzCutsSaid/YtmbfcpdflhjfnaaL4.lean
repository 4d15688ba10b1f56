import Derived.Test.YtmbfcpdflhjfnaaL3
namespace Go.Lz

theorem lenGo_prefix : ∀ (q t : List UInt8) (m n c : Nat), lenGo (q ++ t) m = some (n, c) → (c ≤ q.length ∧ lenGo q m = some (n, c)) ∨ lenGo q m = none
  | [], t, m, n, c, _ => .inr rfl
  | y :: q, t, m, n, c, h => by
    rw [List.cons_append, lenGo] at h
    rw [lenGo]
    split at h
    · rename_i hy
      rw [if_pos hy]
      cases hg : lenGo (q ++ t) (m + 255) with
      | none => rw [hg] at h; cases h
      | some p =>
        rw [hg] at h
        simp only [Option.map_some, Option.some.injEq, Prod.mk.injEq] at h
        rcases lenGo_prefix q t (m + 255) p.1 p.2 hg with ⟨h1, h2⟩ | h2
        · left
          rw [h2]
          simp only [Option.map_some, Option.some.injEq, Prod.mk.injEq, List.length_cons]
          exact ⟨by omega, h.1, h.2⟩
        · right; rw [h2]; rfl
    · rename_i hy
      rw [if_neg hy]
      simp only [Option.some.injEq, Prod.mk.injEq] at h
      exact .inl ⟨by simp; omega, by simp [h.1, h.2]⟩

theorem lenM_prefix (q t : List UInt8) (m n c : Nat) (h : lenM (q ++ t) m = some (n, c)) : (c ≤ q.length ∧ lenM q m = some (n, c)) ∨ lenM q m = none := by
  unfold lenM at h ⊢
  split at h
  · rename_i hm
    rw [if_pos hm]
    simp only [Option.some.injEq, Prod.mk.injEq] at h
    exact .inl ⟨by omega, by simp [h.1, h.2]⟩
  · rename_i hm
    rw [if_neg hm]
    exact lenGo_prefix q t m n c h

theorem lit_prefix (R : Nat) (t : List UInt8) : ∀ n (q out : List UInt8) (r1 o1 : List UInt8), lit R n (q ++ t) out = .ok (r1, o1) → (∃ q2, lit R n q out = .ok (q2, o1) ∧ r1 = q2 ++ t) ∨ lit R n q out = .error 3
  | 0, q, out, r1, o1, h => by simp [lit] at h; exact .inl ⟨q, by simp [lit, h.2], h.1.symm⟩
  | n+1, [], out, r1, o1, _ => .inr rfl
  | n+1, x :: q, out, r1, o1, h => by
    rw [List.cons_append, lit] at h
    split at h
    · cases h
    · rename_i hf
      rw [lit, if_neg hf]
      exact lit_prefix R t n q _ r1 o1 h

theorem lit_grows (R : Nat) : ∀ n (rest out : List UInt8) r1 o1, lit R n rest out = .ok (r1, o1) → out <+: o1
  | 0, rest, out, r1, o1, h => by simp [lit] at h; rw [h.2]; exact List.prefix_rfl
  | n+1, [], out, r1, o1, h => by simp [lit] at h
  | n+1, x :: rest, out, r1, o1, h => by
    rw [lit] at h
    split at h
    · cases h
    · exact (List.prefix_append _ _).trans (lit_grows R n rest _ r1 o1 h)

theorem mat_grows (R d : Nat) : ∀ n (out o : List UInt8), mat R d n out = .ok o → out <+: o
  | 0, out, o, h => by simp [mat] at h; rw [h]; exact List.prefix_rfl
  | n+1, out, o, h => by
    rw [mat] at h
    split at h
    · cases h
    · exact (List.prefix_append _ _).trans (mat_grows R d n _ o h)

theorem unpC_grows (R : Nat) (K : List UInt8 → List UInt8 → Res) (hK : ∀ r o l, K r o = .ok l → o <+: l) (tok : UInt8) : ∀ (r o l : List UInt8), unpC R K tok r o = .ok l → o <+: l
  | [], o, l, h => by rw [unpC] at h; cases h; exact List.prefix_rfl
  | [_], o, l, h => by rw [unpC] at h; cases h
  | lo :: hi :: rest, o, l, h => by
    rw [unpC] at h
    split at h
    · cases h
    · split at h
      · cases h
      · unfold unpD at h
        split at h
        · cases h
        · rename_i o2 hm
          have h1 := mat_grows R _ _ _ _ hm
          unfold unpE at h
          split at h
          · cases h; exact h1
          · exact h1.trans (hK _ _ _ h)

theorem unp_grows (R : Nat) : ∀ f (rest out l : List UInt8), unp R f rest out = .ok l → out <+: l
  | 0, rest, out, l, h => by simp [unp] at h
  | f+1, [], out, l, h => by simp [unp] at h
  | f+1, t :: r, out, l, h => by
    rw [unp] at h
    split at h
    · cases h
    · unfold unpB at h
      split at h
      · cases h
      · rename_i r1 o1 hlit
        exact (lit_grows R _ _ _ _ _ hlit).trans (unpC_grows R _ (fun r o l h => unp_grows R f r o l h) _ _ _ _ h)

/-- LzCuts: a beginning of packed bytes tells a beginning, or is refused -/
theorem unp_prefix (R : Nat) (t : List UInt8) : ∀ f f' (q out l : List UInt8), unp R f (q ++ t) out = .ok l → (∃ l', unp R f' q out = .ok l' ∧ l' <+: l) ∨ unp R f' q out = .error 3
  | 0, f', q, out, l, h => by simp [unp] at h
  | f+1, 0, q, out, l, _ => .inr (by simp [unp])
  | f+1, f'+1, [], out, l, _ => .inr (by simp [unp])
  | f+1, f'+1, tok :: q, out, l, h => by
    rw [List.cons_append, unp] at h
    rw [unp]
    cases hL : lenM (q ++ t) (tok.toNat / 16) with
    | none => rw [hL] at h; cases h
    | some nc =>
      obtain ⟨n, c⟩ := nc
      rw [hL] at h
      rcases lenM_prefix q t _ _ _ hL with ⟨h1, h2⟩ | h2
      · rw [h2]
        simp only at h ⊢
        rw [List.drop_append_of_le_length h1] at h
        unfold unpB at h ⊢
        cases hlit : lit R n (q.drop c ++ t) out with
        | error e => rw [hlit] at h; cases h
        | ok p =>
          obtain ⟨r1, o1⟩ := p
          rw [hlit] at h
          simp only at h
          rcases lit_prefix R t n _ out r1 o1 hlit with ⟨q2, e1, e2⟩ | e1
          · rw [e1]
            simp only
            have hg := unpC_grows R _ (fun r o l h => unp_grows R f r o l h) _ _ _ _ h
            match q2, e2 with
            | [], e2 => exact .inl ⟨o1, by rw [unpC], hg⟩
            | [_], e2 => exact .inr (by rw [unpC])
            | lo :: hi :: q3, e2 =>
              rw [e2, List.cons_append, List.cons_append, unpC] at h
              rw [unpC]
              split at h
              · cases h
              · rename_i hbad
                rw [if_neg hbad]
                cases hM : lenM (q3 ++ t) (tok.toNat % 16) with
                | none => rw [hM] at h; cases h
                | some mc =>
                  obtain ⟨m, c2⟩ := mc
                  rw [hM] at h
                  rcases lenM_prefix q3 t _ _ _ hM with ⟨g1, g2⟩ | g2
                  · rw [g2]
                    simp only at h ⊢
                    rw [List.drop_append_of_le_length g1] at h
                    unfold unpD at h ⊢
                    cases hmat : mat R (lo.toNat + 256 * hi.toNat) (m + 4) o1 with
                    | error e => rw [hmat] at h; cases h
                    | ok o2 =>
                      rw [hmat] at h
                      simp only [unpE] at h ⊢
                      have hg2 : o2 <+: l := by
                        split at h
                        · cases h; exact List.prefix_rfl
                        · exact unp_grows R f _ _ _ h
                      by_cases hq : q3.drop c2 = []
                      · rw [if_pos hq]; exact .inl ⟨o2, rfl, hg2⟩
                      · rw [if_neg hq]
                        rw [if_neg (by simp only [List.append_eq_nil_iff, not_and]; intro h'; exact absurd h' hq)] at h
                        exact unp_prefix R t f f' _ o2 l h
                  · rw [g2]; exact .inr rfl
          · rw [e1]; exact .inr rfl
      · rw [h2]; exact .inr rfl

theorem unpack_cut (b : List UInt8) (hb : b.length ≤ 1048576) (k : Nat) : (∃ l', unpack ((pack b).take k) b.length = .ok l' ∧ l' <+: b) ∨ unpack ((pack b).take k) b.length = .error 3 := by
  have h1 := unpack_pack b hb b.length (Nat.le_refl _) hb
  unfold unpack at h1 ⊢
  rw [if_neg (by omega)] at h1 ⊢
  simp only [Int.toNat_natCast] at h1 ⊢
  have e : pack b = (pack b).take k ++ (pack b).drop k := (List.take_append_drop k _).symm
  refine unp_prefix b.length ((pack b).drop k) ((pack b).length + 1) _ _ [] b ?_
  rw [← e]
  exact h1

/-! runs -/
theorem rep_getD (n i : Nat) (c : UInt8) (h : i < n) : (List.replicate n c).getD i 0 = c := by
  rw [List.getD_eq_getElem?_getD, List.getElem?_replicate, if_pos h]; rfl

theorem ext_rep (k : Nat) (c : UInt8) : ∀ f n, n ≤ k - 1 → k - 1 - n ≤ f → ext (List.replicate k c) 0 1 f n = k - 1
  | 0, n, h1, h2 => by rw [ext]; omega
  | f+1, n, h1, h2 => by
    rw [ext]
    by_cases h : 1 + n < k
    · rw [if_pos ⟨by simpa using h, by rw [rep_getD _ _ _ (by omega), rep_getD _ _ _ (by omega)]⟩]
      exact ext_rep k c f (n+1) (by omega) (by omega)
    · rw [if_neg (by simp; omega)]; omega

theorem rep_four (k at_ : Nat) (c : UInt8) (h : at_ + 4 ≤ k) : ((List.replicate k c).drop at_).take 4 = [c, c, c, c] := by
  rw [List.drop_replicate, List.take_replicate, Nat.min_eq_left (by omega)]; rfl

theorem pack_rep (k : Nat) (c : UInt8) (h1 : 1001 ≤ k) (h2 : k ≤ 1048576) : (pack (List.replicate k c)).length * 10 < k := by
  unfold pack
  rw [if_neg (by simp; omega)]
  simp only [List.length_replicate]
  obtain ⟨f, rfl⟩ : ∃ f, k = f + 2 := ⟨k - 2, by omega⟩
  have hl : (List.replicate (f + 2) c).length = f + 2 := by simp
  rw [packGo, if_pos (by rw [hl]; omega), rep_four _ 0 c (by omega)]
  simp only [mfind, mupd]
  rw [packGo, if_pos (by rw [hl]; omega), rep_four _ 1 c (by omega)]
  simp only [mfind, if_true]
  rw [if_neg (by omega), hl, ext_rep (f + 2) c (f + 2) 4 (by omega) (by omega)]
  have hk : 0 + 1 + (f + 2 - 1) = f + 2 := by omega
  obtain ⟨f2, rfl⟩ : ∃ f2, f = f2 + 1 := ⟨f - 1, by omega⟩
  rw [packGo, if_neg (by rw [hl]; omega)]
  simp only [List.nil_append, List.length_append, seqL, tailL, List.length_cons, addedL_length, List.length_take, List.length_drop, List.length_replicate]
  split <;> split <;> split <;> omega
end Go.Lz
