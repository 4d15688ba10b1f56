import Derived.Test.YtmcllcepoiakeaaGreatZL
set_option linter.unusedSimpArgs false
set_option linter.unusedVariables false
namespace Go.Lz
def addedL (n : Nat) : List UInt8 := if n < 15 then [] else List.replicate ((n - 15) / 255) 255 ++ [UInt8.ofNat ((n - 15) % 255)]
theorem lenGo_added (k : Nat) : ∀ (m q : Nat) (rest : List UInt8), q < 255 →
    lenGo (List.replicate k 255 ++ [UInt8.ofNat q] ++ rest) m = some (m + 255 * k + q, k + 1) := by
  induction k with
  | zero =>
    intro m q rest hq
    simp only [List.replicate_zero, List.nil_append, List.singleton_append, lenGo]
    have h1 : (UInt8.ofNat q).toNat = q := by rw [UInt8.toNat_ofNat']; omega
    rw [if_neg (by intro h; have := congrArg UInt8.toNat h; rw [h1] at this; simp at this; omega), h1]
    simp
  | succ k ih =>
    intro m q rest hq
    simp only [List.replicate_succ, List.cons_append, lenGo, if_pos]
    have := ih (m + 255) q rest hq
    simp only [List.append_assoc] at this ⊢
    rw [this]
    show some (m + 255 + 255 * k + q, k + 1 + 1) = some (m + 255 * (k + 1) + q, k + 1 + 1)
    rw [show m + 255 + 255 * k + q = m + 255 * (k + 1) + q by omega]
theorem addedL_length (n : Nat) : (addedL n).length = if n < 15 then 0 else (n - 15) / 255 + 1 := by
  unfold addedL; split <;> simp
theorem lenM_added (n : Nat) (rest : List UInt8) : lenM (addedL n ++ rest) (min n 15) = some (n, (addedL n).length) := by
  rw [addedL_length]
  unfold lenM addedL
  by_cases h : n < 15
  · rw [if_pos (by omega), if_pos h, Nat.min_eq_left (by omega)]
  · rw [if_neg (by omega), if_neg h, if_neg h, Nat.min_eq_right (by omega), lenGo_added _ _ _ _ (by omega)]
    simp only [Option.some.injEq, Prod.mk.injEq, and_true]
    omega
theorem lit_ok (room : Nat) : ∀ (x rest out : List UInt8), out.length + x.length ≤ room → lit room x.length (x ++ rest) out = .ok (rest, out ++ x)
  | [], rest, out, _ => by simp [lit]
  | y :: x, rest, out, h => by
    simp only [List.length_cons] at h
    simp only [List.length_cons, List.cons_append, lit]
    rw [if_neg (by omega), lit_ok room x rest (out ++ [y]) (by simp; omega)]
    simp
theorem lit_long (room : Nat) : ∀ (x rest out : List UInt8), room < out.length + x.length → out.length ≤ room → lit room x.length (x ++ rest) out = .error 2
  | [], rest, out, h, h' => by simp at h; omega
  | y :: x, rest, out, h, h' => by
    simp only [List.length_cons] at h
    simp only [List.length_cons, List.cons_append, lit]
    by_cases he : out.length = room
    · rw [if_pos he]
    · rw [if_neg he]
      exact lit_long room x rest (out ++ [y]) (by simp; omega) (by simp; omega)
def matL (d : Nat) : Nat → List UInt8 → List UInt8
  | 0, out => out
  | n+1, out => matL d n (out ++ [out.getD (out.length - d) 0])
theorem matL_length (d : Nat) : ∀ n out, (matL d n out).length = out.length + n
  | 0, out => rfl
  | n+1, out => by rw [matL, matL_length d n]; simp; omega
theorem mat_ok (room d : Nat) : ∀ n (out : List UInt8), out.length + n ≤ room → mat room d n out = .ok (matL d n out)
  | 0, out, _ => rfl
  | n+1, out, h => by rw [mat, matL, if_neg (by omega), mat_ok room d n _ (by simp; omega)]
theorem mat_long (room d : Nat) : ∀ n (out : List UInt8), room < out.length + n → out.length ≤ room → mat room d n out = .error 2
  | 0, out, h, h' => by simp at h; omega
  | n+1, out, h, h' => by
    rw [mat]
    by_cases he : out.length = room
    · rw [if_pos he]
    · rw [if_neg he]; exact mat_long room d n _ (by simp; omega) (by simp; omega)
def tokL (l m : Nat) : UInt8 := UInt8.ofNat (min l 15 * 16 + min m 15)
def seqL (plain : List UInt8) (far m : Nat) : List UInt8 :=
  tokL plain.length m :: (addedL plain.length ++ (plain ++ (UInt8.ofNat far :: UInt8.ofNat (far / 256) :: addedL m)))
def tailL (tail : List UInt8) : List UInt8 := UInt8.ofNat (min tail.length 15 * 16) :: (addedL tail.length ++ tail)
theorem tok_hi (l m : Nat) : (tokL l m).toNat / 16 = min l 15 := by
  unfold tokL; rw [UInt8.toNat_ofNat']; omega
theorem tok_lo (l m : Nat) : (tokL l m).toNat % 16 = min m 15 := by
  unfold tokL; rw [UInt8.toNat_ofNat']; omega
theorem drop_app {α} (a b : List α) : (a ++ b).drop a.length = b := by simp
/-- a sequence is read as it was laid -/
theorem unp_seq (room f : Nat) (plain : List UInt8) (far m : Nat) (rest out : List UInt8) (hf : far < 65536) :
    unp room (f+1) (seqL plain far m ++ rest) out =
      match lit room plain.length (plain ++ (UInt8.ofNat far :: UInt8.ofNat (far / 256) :: (addedL m ++ rest))) out with
      | .error e => .error e
      | .ok (_, o) => if far = 0 ∨ o.length < far then .error 3 else unpD room (unp room f) far (m + 4) rest o := by
  have e1 : seqL plain far m ++ rest = tokL plain.length m :: (addedL plain.length ++ (plain ++ (UInt8.ofNat far :: UInt8.ofNat (far / 256) :: (addedL m ++ rest)))) := by
    simp [seqL]
  rw [e1, unp, tok_hi, lenM_added]
  simp only [drop_app, unpB]
  have hfar : (UInt8.ofNat far).toNat + 256 * (UInt8.ofNat (far / 256)).toNat = far := by
    rw [UInt8.toNat_ofNat', UInt8.toNat_ofNat']; omega
  by_cases hl : out.length + plain.length ≤ room
  · rw [lit_ok room plain _ out hl]
    simp only [unpC, hfar, tok_lo, lenM_added, drop_app]
  · by_cases ho : out.length ≤ room
    · rw [lit_long room plain _ out (by omega) ho]
    · -- more than there is room for: not met, but the two sides are the same all the same
      cases hlit : lit room plain.length (plain ++ (UInt8.ofNat far :: UInt8.ofNat (far / 256) :: (addedL m ++ rest))) out with
      | error e => rfl
      | ok p =>
        have : ∀ (x rest out : List UInt8) (p : List UInt8 × List UInt8), room < out.length → lit room x.length (x ++ rest) out = .ok p → p.1 = rest := by
          intro x
          induction x with
          | nil => intro rest out p _ h; simp [lit] at h; rw [← h]
          | cons y x ih =>
            intro rest out p ho h
            simp only [List.length_cons, List.cons_append, lit] at h
            rw [if_neg (by omega)] at h
            exact ih rest (out ++ [y]) p (by simp; omega) h
        have hp := this plain _ out p (by omega) hlit
        obtain ⟨p1, p2⟩ := p
        simp only at hp
        subst hp
        simp only [unpC, hfar, tok_lo, lenM_added, drop_app]
theorem unp_tail (room f : Nat) (tail out : List UInt8) :
    unp room (f+1) (tailL tail) out = match lit room tail.length tail out with
      | .error e => .error e
      | .ok (_, o) => .ok o := by
  have e1 : (UInt8.ofNat (min tail.length 15 * 16)) = tokL tail.length 0 := by simp [tokL]
  unfold tailL
  rw [e1, unp, tok_hi, lenM_added]
  simp only [drop_app, unpB]
  cases hlit : lit room tail.length tail out with
  | error e => rfl
  | ok p =>
    have : ∀ (x out : List UInt8) (p : List UInt8 × List UInt8), lit room x.length x out = .ok p → p.1 = [] := by
      intro x
      induction x with
      | nil => intro out p h; simp [lit] at h; rw [← h]
      | cons y x ih =>
        intro out p h
        simp only [List.length_cons, lit] at h
        split at h
        · cases h
        · exact ih (out ++ [y]) p h
    have hp := this tail out p hlit
    obtain ⟨p1, p2⟩ := p
    simp only at hp
    subst hp
    rfl
/-- LzHand's law -/
theorem hand_law (plain tail : List UInt8) (f n : Nat) (hf : 1 ≤ f) (hfp : f ≤ plain.length) (hp : plain.length ≤ 60000) (room : Nat) (fuel : Nat) (hfu : 2 ≤ fuel) :
    unp room fuel (seqL plain f n ++ tailL tail) [] =
      if plain.length + (n + 4) + tail.length ≤ room then .ok (matL f (n + 4) plain ++ tail) else .error 2 := by
  obtain ⟨fu, rfl⟩ : ∃ fu, fuel = fu + 1 + 1 := ⟨fuel - 2, by omega⟩
  rw [unp_seq room (fu + 1) plain f n _ _ (by omega)]
  by_cases h1 : plain.length ≤ room
  · rw [lit_ok room plain _ [] (by simpa using h1)]
    simp only [List.nil_append]
    rw [if_neg (by omega)]
    unfold unpD
    by_cases h2 : plain.length + (n + 4) ≤ room
    · rw [mat_ok room f (n+4) plain h2]
      simp only [unpE]
      rw [if_neg (by simp [tailL]), unp_tail]
      by_cases h3 : plain.length + (n + 4) + tail.length ≤ room
      · rw [if_pos h3]
        have := lit_ok room tail [] (matL f (n+4) plain) (by rw [matL_length]; omega)
        rw [List.append_nil] at this
        rw [this]
      · rw [if_neg h3]
        have := lit_long room tail [] (matL f (n+4) plain) (by rw [matL_length]; omega) (by rw [matL_length]; omega)
        rw [List.append_nil] at this
        rw [this]
    · rw [mat_long room f (n+4) plain (by omega) h1, if_neg (by omega)]
  · rw [lit_long room plain _ [] (by simp; omega) (by simp), if_neg (by omega)]
/-- LzFar's law -/
theorem far_law (plain tail : List UInt8) (far : Nat) (hfar : far < 65536) (hbad : far = 0 ∨ plain.length < far) (room : Nat) (hr : plain.length ≤ room) (fuel : Nat) (hfu : 1 ≤ fuel) (m : Nat) :
    unp room fuel (seqL plain far m ++ tail) [] = .error 3 := by
  obtain ⟨fu, rfl⟩ : ∃ fu, fuel = fu + 1 := ⟨fuel - 1, by omega⟩
  rw [unp_seq room fu plain far m _ _ hfar, lit_ok room plain _ [] (by simpa using hr)]
  simp only [List.nil_append]
  rw [if_pos hbad]
/-- LzRoom's law: more than there may be is never told -/
theorem lit_le (room : Nat) : ∀ n (rest out : List UInt8) p, lit room n rest out = .ok p → out.length ≤ room → p.2.length ≤ room
  | 0, rest, out, p, h, ho => by simp [lit] at h; subst h; exact ho
  | n+1, [], out, p, h, _ => by simp [lit] at h
  | n+1, x :: rest, out, p, h, ho => by
    rw [lit] at h
    split at h
    · cases h
    · exact lit_le room n rest (out ++ [x]) p h (by simp; omega)
theorem mat_le (room d : Nat) : ∀ n (out : List UInt8) o, mat room d n out = .ok o → out.length ≤ room → o.length ≤ room
  | 0, out, o, h, ho => by simp [mat] at h; subst h; exact ho
  | n+1, out, o, h, ho => by
    rw [mat] at h
    split at h
    · cases h
    · exact mat_le room d n _ o h (by simp; omega)
theorem unp_le (room : Nat) : ∀ f (rest out : List UInt8) l, unp room f rest out = .ok l → out.length ≤ room → l.length ≤ room
  | 0, rest, out, l, h, _ => by simp [unp] at h
  | f+1, [], out, l, h, _ => by simp [unp] at h
  | f+1, t :: r, out, l, h, ho => by
    rw [unp] at h
    split at h
    · cases h
    · rename_i n c hl
      unfold unpB at h
      split at h
      · cases h
      · rename_i r1 o1 hlit
        have hol := lit_le room _ _ _ _ hlit ho
        match r1, h with
        | [], h => simp [unpC] at h; subst h; exact hol
        | [_], h => simp [unpC] at h
        | lo :: hi :: rest, h =>
          rw [unpC] at h
          split at h
          · cases h
          · split at h
            · cases h
            · rename_i m c2 hm
              unfold unpD at h
              split at h
              · cases h
              · rename_i o2 hmat
                have ho2 := mat_le room _ _ _ _ hmat hol
                unfold unpE at h
                split at h
                · cases h; exact ho2
                · exact unp_le room f _ _ l h ho2
theorem unpack_le (bs : List UInt8) (room : Int) (l : List UInt8) (h : unpack bs room = .ok l) : (l.length : Int) ≤ room := by
  unfold unpack at h
  split at h
  · cases h
  · have := unp_le _ _ _ _ _ h (by simp)
    omega
abbrev Mp := List (List UInt8 × Nat)
def mfind : Mp → List UInt8 → Option Nat
  | [], _ => none
  | (k', v') :: r, k => if k' = k then some v' else mfind r k
def mupd : Mp → List UInt8 → Nat → Mp
  | [], k, v => [(k, v)]
  | (k', v') :: r, k, v => if k' = k then (k, v) :: r else (k', v') :: mupd r k v
/-- how far two places are alike -/
def ext (b : List UInt8) (was at_ : Nat) : Nat → Nat → Nat
  | 0, n => n
  | f+1, n => if at_ + n < b.length ∧ b.getD (was + n) 0 = b.getD (at_ + n) 0 then ext b was at_ f (n+1) else n
def packGo (b : List UInt8) : Nat → Mp → Nat → Nat → List UInt8 → List UInt8
  | 0, _, fr, _, out => out ++ tailL (b.drop fr)
  | f+1, m, fr, at_, out =>
    if at_ + 4 ≤ b.length then
      match mfind m ((b.drop at_).take 4) with
      | none => packGo b f (mupd m ((b.drop at_).take 4) at_) fr (at_+1) out
      | some was =>
        if 65535 < at_ - was then packGo b f (mupd m ((b.drop at_).take 4) at_) fr (at_+1) out
        else packGo b f (mupd m ((b.drop at_).take 4) at_) (at_ + ext b was at_ b.length 4) (at_ + ext b was at_ b.length 4)
          (out ++ seqL ((b.drop fr).take (at_ - fr)) (at_ - was) (ext b was at_ b.length 4 - 4))
    else out ++ tailL (b.drop fr)
/-- the bytes packed -/
def pack (b : List UInt8) : List UInt8 := if 1048576 < b.length then [] else packGo b (b.length + 1) [] 0 0 []
theorem ext_spec (b : List UInt8) (was at_ : Nat) : ∀ f n, at_ + n ≤ b.length → (∀ i, i < n → b.getD (was + i) 0 = b.getD (at_ + i) 0) →
    n ≤ ext b was at_ f n ∧ at_ + ext b was at_ f n ≤ b.length ∧ ∀ i, i < ext b was at_ f n → b.getD (was + i) 0 = b.getD (at_ + i) 0
  | 0, n, h1, h2 => ⟨Nat.le_refl _, h1, h2⟩
  | f+1, n, h1, h2 => by
    rw [ext]
    split
    · rename_i h
      have := ext_spec b was at_ f (n+1) (by omega) (fun i hi => by
        rcases Nat.lt_or_ge i n with h3 | h3
        · exact h2 i h3
        · obtain rfl : i = n := by omega
          exact h.2)
      exact ⟨by omega, this.2.1, this.2.2⟩
    · exact ⟨Nat.le_refl _, h1, h2⟩
theorem mfind_mem : ∀ (m : Mp) k v, mfind m k = some v → (k, v) ∈ m
  | [], k, v, h => by simp [mfind] at h
  | (k', v') :: r, k, v, h => by
    rw [mfind] at h
    split at h
    · rename_i e; subst e; cases h; simp
    · exact List.mem_cons_of_mem _ (mfind_mem r k v h)
theorem mupd_mem : ∀ (m : Mp) k v x, x ∈ mupd m k v → x = (k, v) ∨ x ∈ m
  | [], k, v, x, h => by simp [mupd] at h; exact .inl h
  | (k', v') :: r, k, v, x, h => by
    rw [mupd] at h
    split at h
    · rcases List.mem_cons.1 h with h | h
      · exact .inl h
      · exact .inr (List.mem_cons_of_mem _ h)
    · rcases List.mem_cons.1 h with h | h
      · exact .inr (by rw [h]; simp)
      · rcases mupd_mem r k v x h with h | h
        · exact .inl h
        · exact .inr (List.mem_cons_of_mem _ h)
theorem take_snoc' (b : List UInt8) (n : Nat) (h : n < b.length) : b.take n ++ [b.getD n 0] = b.take (n+1) := by
  rw [List.take_succ_eq_append_getElem h, List.getD_eq_getElem?_getD, List.getElem?_eq_getElem h]; rfl
theorem matL_take (b : List UInt8) (d : Nat) (hd : 1 ≤ d) : ∀ n at_, d ≤ at_ → at_ + n ≤ b.length → (∀ i, i < n → b.getD (at_ - d + i) 0 = b.getD (at_ + i) 0) → matL d n (b.take at_) = b.take (at_ + n)
  | 0, at_, _, _, _ => rfl
  | n+1, at_, h1, h2, h3 => by
    rw [matL]
    have hl : (b.take at_).length = at_ := by simp; omega
    have e : (b.take at_).getD ((b.take at_).length - d) 0 = b.getD at_ 0 := by
      rw [hl]
      have := h3 0 (by omega)
      simp only [Nat.add_zero] at this
      rw [← this, List.getD_eq_getElem?_getD, List.getD_eq_getElem?_getD, List.getElem?_take, if_pos (by omega)]
    rw [e, take_snoc' b at_ (by omega), matL_take b d hd n (at_+1) (by omega) (by omega) (fun i hi => by
      have := h3 (i+1) (by omega)
      rw [show at_ + 1 - d + i = at_ - d + (i + 1) by omega, show at_ + 1 + i = at_ + (i + 1) by omega]; exact this)]
    congr 1; omega
theorem four_eq (b : List UInt8) (v at_ : Nat) (hv : v + 4 ≤ b.length) (ha : at_ + 4 ≤ b.length) (h : (b.drop v).take 4 = (b.drop at_).take 4) : ∀ i, i < 4 → b.getD (v + i) 0 = b.getD (at_ + i) 0 := by
  intro i hi
  have := congrArg (fun l => l.getD i 0) h
  simp only [List.getD_eq_getElem?_getD, List.getElem?_take, hi, if_true, List.getElem?_drop] at this
  rw [List.getD_eq_getElem?_getD, List.getD_eq_getElem?_getD, this]
def Seen (b : List UInt8) (m : Mp) (at_ : Nat) : Prop := ∀ k v, (k, v) ∈ m → v < at_ ∧ v + 4 ≤ b.length ∧ (b.drop v).take 4 = k
theorem Seen.upd {b : List UInt8} {m : Mp} {at_ : Nat} (h : Seen b m at_) (ha : at_ + 4 ≤ b.length) {c : Nat} (hc : at_ < c) : Seen b (mupd m ((b.drop at_).take 4) at_) c := by
  intro k v hk
  rcases mupd_mem m _ _ _ hk with e | e
  · cases e; exact ⟨hc, ha, rfl⟩
  · have := h k v e; exact ⟨by omega, this.2.1, this.2.2⟩
/-- what 'out' tells: the first fr bytes -/
def Tells (b : List UInt8) (room : Nat) (out : List UInt8) (fr : Nat) : Prop :=
  ∃ c, c ≤ out.length ∧ ∀ f rest, rest ≠ [] → unp room (f + c) (out ++ rest) [] = unp room f rest (b.take fr)
theorem tells_seq {b : List UInt8} {room : Nat} {out : List UInt8} {fr at_ was n : Nat} (h : Tells b room out fr) (hr : b.length ≤ room) (h1 : fr ≤ at_) (h2 : was < at_) (hn : 4 ≤ n) (h3 : at_ + n ≤ b.length) (hd : at_ - was ≤ 65535)
    (he : ∀ i, i < n → b.getD (was + i) 0 = b.getD (at_ + i) 0) : Tells b room (out ++ seqL ((b.drop fr).take (at_ - fr)) (at_ - was) (n - 4)) (at_ + n) := by
  obtain ⟨c, hc, ht⟩ := h
  refine ⟨c + 1, by simp [seqL]; omega, fun f rest hrest => ?_⟩
  have := ht (f + 1) (seqL ((b.drop fr).take (at_ - fr)) (at_ - was) (n - 4) ++ rest) (by simp [seqL])
  rw [List.append_assoc, show f + (c + 1) = f + 1 + c by omega, this, unp_seq room f _ _ _ _ _ (by omega)]
  have hpl : ((b.drop fr).take (at_ - fr)).length = at_ - fr := by simp; omega
  have hjoin : b.take fr ++ (b.drop fr).take (at_ - fr) = b.take at_ := by
    rw [← List.take_add, show fr + (at_ - fr) = at_ by omega]
  have hl := lit_ok room ((b.drop fr).take (at_ - fr)) (UInt8.ofNat (at_ - was) :: UInt8.ofNat ((at_ - was) / 256) :: (addedL (n - 4) ++ rest)) (b.take fr) (by rw [hpl]; simp; omega)
  rw [hl]
  simp only [hjoin]
  have hta : (b.take at_).length = at_ := by simp; omega
  rw [if_neg (by rw [hta]; omega)]
  unfold unpD
  rw [show n - 4 + 4 = n by omega, mat_ok room (at_ - was) n (b.take at_) (by rw [hta]; omega)]
  simp only [unpE, if_neg hrest]
  rw [matL_take b (at_ - was) (by omega) n at_ (by omega) h3 (fun i hi => by rw [show at_ - (at_ - was) + i = was + i by omega]; exact he i hi)]
theorem tells_end {b : List UInt8} {room : Nat} {out : List UInt8} {fr : Nat} (h : Tells b room out fr) (hr : b.length ≤ room) (hf : fr ≤ b.length) :
    unp room ((out ++ tailL (b.drop fr)).length + 1) (out ++ tailL (b.drop fr)) [] = .ok b := by
  obtain ⟨c, hc, ht⟩ := h
  have e : (out ++ tailL (b.drop fr)).length + 1 = ((out ++ tailL (b.drop fr)).length - c) + 1 + c := by
    rw [List.length_append]; omega
  rw [e, ht _ _ (by simp [tailL]), unp_tail]
  have hl := lit_ok room (b.drop fr) [] (b.take fr) (by simp; omega)
  rw [List.append_nil] at hl
  rw [hl]
  simp
theorem packGo_tells (b : List UInt8) (room : Nat) (hr : b.length ≤ room) : ∀ f m fr at_ out, Seen b m at_ → fr ≤ at_ → at_ ≤ b.length → Tells b room out fr →
    unp room ((packGo b f m fr at_ out).length + 1) (packGo b f m fr at_ out) [] = .ok b
  | 0, m, fr, at_, out, _, h1, h2, h3 => by rw [packGo]; exact tells_end h3 hr (by omega)
  | f+1, m, fr, at_, out, hs, h1, h2, h3 => by
    rw [packGo]
    split
    · rename_i h4
      split
      · exact packGo_tells b room hr f _ fr (at_+1) out (hs.upd h4 (by omega)) (by omega) (by omega) h3
      · rename_i was hw
        obtain ⟨g1, g2, g3⟩ := hs _ _ (mfind_mem _ _ _ hw)
        split
        · exact packGo_tells b room hr f _ fr (at_+1) out (hs.upd h4 (by omega)) (by omega) (by omega) h3
        · obtain ⟨e1, e2, e3⟩ := ext_spec b was at_ b.length 4 h4 (four_eq b was at_ g2 h4 g3)
          exact packGo_tells b room hr f _ _ _ _ (hs.upd h4 (by omega)) (Nat.le_refl _) e2 (tells_seq h3 hr h1 g1 e1 e2 (by omega) e3)
    · exact tells_end h3 hr (by omega)
/-- LzBack: what is packed is unpacked -/
theorem unpack_pack (b : List UInt8) (hb : b.length ≤ 1048576) (room : Nat) (h1 : b.length ≤ room) (h2 : room ≤ 1048576) : unpack (pack b) room = .ok b := by
  unfold unpack pack
  rw [if_neg (by omega), if_neg (by omega)]
  simp only [Int.toNat_natCast]
  exact packGo_tells b room h1 _ _ _ _ _ (fun _ _ h => by simp at h) (by omega) (by omega) ⟨0, by simp, fun f rest _ => by simp⟩
/-! how long -/
theorem seqL_len (plain : List UInt8) (far m : Nat) : (seqL plain far m).length ≤ plain.length + (m + 4) + plain.length / 255 := by
  simp only [seqL, List.length_cons, List.length_append, addedL_length]
  split <;> split <;> omega
theorem tailL_len (t : List UInt8) : (tailL t).length ≤ t.length + t.length / 255 + 2 := by
  simp only [tailL, List.length_cons, List.length_append, addedL_length]
  split <;> omega
theorem packGo_len (b : List UInt8) : ∀ f m fr at_ out, Seen b m at_ → fr ≤ at_ → at_ ≤ b.length → out.length ≤ fr + fr / 255 → (packGo b f m fr at_ out).length ≤ b.length + b.length / 255 + 2
  | 0, m, fr, at_, out, _, h1, h2, h3 => by
    rw [packGo, List.length_append]
    have := tailL_len (b.drop fr)
    simp only [List.length_drop] at this
    omega
  | f+1, m, fr, at_, out, hs, h1, h2, h3 => by
    rw [packGo]
    split
    · rename_i h4
      split
      · exact packGo_len b f _ fr (at_+1) out (hs.upd h4 (by omega)) (by omega) (by omega) h3
      · rename_i was hw
        obtain ⟨g1, g2, g3⟩ := hs _ _ (mfind_mem _ _ _ hw)
        split
        · exact packGo_len b f _ fr (at_+1) out (hs.upd h4 (by omega)) (by omega) (by omega) h3
        · obtain ⟨e1, e2, e3⟩ := ext_spec b was at_ b.length 4 h4 (four_eq b was at_ g2 h4 g3)
          refine packGo_len b f _ _ _ _ (hs.upd h4 (by omega)) (Nat.le_refl _) e2 ?_
          have := seqL_len ((b.drop fr).take (at_ - fr)) (at_ - was) (ext b was at_ b.length 4 - 4)
          have hpl : ((b.drop fr).take (at_ - fr)).length = at_ - fr := by simp; omega
          rw [hpl] at this
          rw [List.length_append]
          omega
    · rw [List.length_append]
      have := tailL_len (b.drop fr)
      simp only [List.length_drop] at this
      omega
theorem pack_len (b : List UInt8) (hb : b.length ≤ 1048576) : (pack b).length ≤ b.length + b.length / 255 + 2 := by
  unfold pack
  rw [if_neg (by omega)]
  exact packGo_len b _ _ _ _ _ (fun _ _ h => by simp at h) (by omega) (by omega) (by simp)
theorem pack_ne (b : List UInt8) (hb : b.length ≤ 1048576) : pack b ≠ [] := by
  intro h
  have := unpack_pack b hb b.length (Nat.le_refl _) hb
  rw [h] at this
  unfold unpack at this
  rw [if_neg (by omega)] at this
  simp [unp] at this
/-! less room -/
theorem lit_less (r R : Nat) (hr : r ≤ R) : ∀ n (rest out : List UInt8) p, lit R n rest out = .ok p → out.length ≤ r → lit r n rest out = .ok p ∧ p.2.length ≤ r ∨ lit r n rest out = .error 2
  | 0, rest, out, p, h, ho => by simp [lit] at h; subst h; exact .inl ⟨rfl, ho⟩
  | n+1, [], out, p, h, _ => by simp [lit] at h
  | n+1, x :: rest, out, p, h, ho => by
    rw [lit] at h
    split at h
    · cases h
    · rw [lit]
      by_cases e : out.length = r
      · exact .inr (by rw [if_pos e])
      · rw [if_neg e]; exact lit_less r R hr n rest _ p h (by simp; omega)
theorem mat_less (r R d : Nat) (hr : r ≤ R) : ∀ n (out : List UInt8) o, mat R d n out = .ok o → out.length ≤ r → mat r d n out = .ok o ∧ o.length ≤ r ∨ mat r d n out = .error 2
  | 0, out, o, h, ho => by simp [mat] at h; subst h; exact .inl ⟨rfl, ho⟩
  | n+1, out, o, h, ho => by
    rw [mat] at h
    split at h
    · cases h
    · rw [mat]
      by_cases e : out.length = r
      · exact .inr (by rw [if_pos e])
      · rw [if_neg e]; exact mat_less r R d hr n _ o h (by simp; omega)
theorem unp_less (r R : Nat) (hr : r ≤ R) : ∀ f (rest out : List UInt8) l, unp R f rest out = .ok l → out.length ≤ r → r < l.length → unp r f rest out = .error 2
  | 0, rest, out, l, h, _, _ => by simp [unp] at h
  | f+1, [], out, l, h, _, _ => by simp [unp] at h
  | f+1, t :: q, out, l, h, ho, hl => by
    rw [unp] at h ⊢
    cases hL : lenM q (t.toNat / 16) with
    | none => rw [hL] at h; cases h
    | some nc =>
      obtain ⟨n, c⟩ := nc
      rw [hL] at h
      simp only at h ⊢
      unfold unpB at h ⊢
      cases hlit : lit R n (q.drop c) out with
      | error e => rw [hlit] at h; cases h
      | ok p =>
        rw [hlit] at h
        obtain ⟨r1, o1⟩ := p
        rcases lit_less r R hr n _ out _ hlit ho with ⟨e1, e2⟩ | e1
        · rw [e1]
          simp only at h e2 ⊢
          match r1, h with
          | [], h => rw [unpC] at h; cases h; omega
          | [_], h => rw [unpC] at h; cases h
          | lo :: hi :: rest, h =>
            rw [unpC] at h ⊢
            split at h
            · cases h
            · rename_i hbad
              rw [if_neg hbad]
              cases hM : lenM rest (t.toNat % 16) with
              | none => rw [hM] at h; cases h
              | some mc =>
                obtain ⟨m, c2⟩ := mc
                rw [hM] at h
                simp only at h ⊢
                unfold unpD at h ⊢
                cases hmat : mat R (lo.toNat + 256 * hi.toNat) (m + 4) o1 with
                | error e => rw [hmat] at h; cases h
                | ok o2 =>
                  rw [hmat] at h
                  rcases mat_less r R _ hr _ _ _ hmat e2 with ⟨e3, e4⟩ | e3
                  · rw [e3]
                    simp only [unpE] at h ⊢
                    split at h
                    · cases h; omega
                    · rename_i hne
                      rw [if_neg hne]
                      exact unp_less r R hr f _ o2 l h e4 hl
                  · rw [e3]
        · rw [e1]
/-- LzLess -/
theorem unpack_less (b : List UInt8) (hb : b.length ≤ 1048576) (r : Nat) (h : r < b.length) : unpack (pack b) r = .error 2 := by
  have h1 := unpack_pack b hb b.length (Nat.le_refl _) hb
  unfold unpack at h1 ⊢
  rw [if_neg (by omega)] at h1 ⊢
  simp only [Int.toNat_natCast] at h1 ⊢
  exact unp_less r b.length (by omega) _ _ _ _ h1 (by simp) h
end Go.Lz
