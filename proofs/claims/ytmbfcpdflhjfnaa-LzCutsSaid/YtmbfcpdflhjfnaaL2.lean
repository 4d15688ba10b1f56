import Derived.Test.YtmbfcpdflhjfnaaL
namespace Go.Lz

def addedL (n : Nat) : List UInt8 := if n < 15 then [] else List.replicate ((n - 15) / 255) 255 ++ [UInt8.ofNat ((n - 15) % 255)]

theorem lenGo_added (k : Nat) : ∀ (m q : Nat) (rest : List UInt8), q < 255 →
    lenGo (List.replicate k 255 ++ [UInt8.ofNat q] ++ rest) m = some (m + 255 * k + q, k + 1) := by
  induction k with
  | zero =>
    intro m q rest hq
    simp only [List.replicate_zero, List.nil_append, List.singleton_append, lenGo]
    have h1 : (UInt8.ofNat q).toNat = q := by rw [UInt8.toNat_ofNat']; omega
    rw [if_neg (by intro h; have := congrArg UInt8.toNat h; rw [h1] at this; simp at this; omega), h1]
    simp
  | succ k ih =>
    intro m q rest hq
    simp only [List.replicate_succ, List.cons_append, lenGo, if_pos]
    have := ih (m + 255) q rest hq
    simp only [List.append_assoc] at this ⊢
    rw [this]
    show some (m + 255 + 255 * k + q, k + 1 + 1) = some (m + 255 * (k + 1) + q, k + 1 + 1)
    rw [show m + 255 + 255 * k + q = m + 255 * (k + 1) + q by omega]

theorem addedL_length (n : Nat) : (addedL n).length = if n < 15 then 0 else (n - 15) / 255 + 1 := by
  unfold addedL; split <;> simp

theorem lenM_added (n : Nat) (rest : List UInt8) : lenM (addedL n ++ rest) (min n 15) = some (n, (addedL n).length) := by
  rw [addedL_length]
  unfold lenM addedL
  by_cases h : n < 15
  · rw [if_pos (by omega), if_pos h, Nat.min_eq_left (by omega)]
  · rw [if_neg (by omega), if_neg h, if_neg h, Nat.min_eq_right (by omega), lenGo_added _ _ _ _ (by omega)]
    simp only [Option.some.injEq, Prod.mk.injEq, and_true]
    omega

theorem lit_ok (room : Nat) : ∀ (x rest out : List UInt8), out.length + x.length ≤ room → lit room x.length (x ++ rest) out = .ok (rest, out ++ x)
  | [], rest, out, _ => by simp [lit]
  | y :: x, rest, out, h => by
    simp only [List.length_cons] at h
    simp only [List.length_cons, List.cons_append, lit]
    rw [if_neg (by omega), lit_ok room x rest (out ++ [y]) (by simp; omega)]
    simp

theorem lit_long (room : Nat) : ∀ (x rest out : List UInt8), room < out.length + x.length → out.length ≤ room → lit room x.length (x ++ rest) out = .error 2
  | [], rest, out, h, h' => by simp at h; omega
  | y :: x, rest, out, h, h' => by
    simp only [List.length_cons] at h
    simp only [List.length_cons, List.cons_append, lit]
    by_cases he : out.length = room
    · rw [if_pos he]
    · rw [if_neg he]
      exact lit_long room x rest (out ++ [y]) (by simp; omega) (by simp; omega)

def matL (d : Nat) : Nat → List UInt8 → List UInt8
  | 0, out => out
  | n+1, out => matL d n (out ++ [out.getD (out.length - d) 0])

theorem matL_length (d : Nat) : ∀ n out, (matL d n out).length = out.length + n
  | 0, out => rfl
  | n+1, out => by rw [matL, matL_length d n]; simp; omega

theorem mat_ok (room d : Nat) : ∀ n (out : List UInt8), out.length + n ≤ room → mat room d n out = .ok (matL d n out)
  | 0, out, _ => rfl
  | n+1, out, h => by rw [mat, matL, if_neg (by omega), mat_ok room d n _ (by simp; omega)]

theorem mat_long (room d : Nat) : ∀ n (out : List UInt8), room < out.length + n → out.length ≤ room → mat room d n out = .error 2
  | 0, out, h, h' => by simp at h; omega
  | n+1, out, h, h' => by
    rw [mat]
    by_cases he : out.length = room
    · rw [if_pos he]
    · rw [if_neg he]; exact mat_long room d n _ (by simp; omega) (by simp; omega)

def tokL (l m : Nat) : UInt8 := UInt8.ofNat (min l 15 * 16 + min m 15)
def seqL (plain : List UInt8) (far m : Nat) : List UInt8 :=
  tokL plain.length m :: (addedL plain.length ++ (plain ++ (UInt8.ofNat far :: UInt8.ofNat (far / 256) :: addedL m)))
def tailL (tail : List UInt8) : List UInt8 := UInt8.ofNat (min tail.length 15 * 16) :: (addedL tail.length ++ tail)

theorem tok_hi (l m : Nat) : (tokL l m).toNat / 16 = min l 15 := by
  unfold tokL; rw [UInt8.toNat_ofNat']; omega
theorem tok_lo (l m : Nat) : (tokL l m).toNat % 16 = min m 15 := by
  unfold tokL; rw [UInt8.toNat_ofNat']; omega

theorem drop_app {α} (a b : List α) : (a ++ b).drop a.length = b := by simp

/-- a sequence is read as it was laid -/
theorem unp_seq (room f : Nat) (plain : List UInt8) (far m : Nat) (rest out : List UInt8) (hf : far < 65536) :
    unp room (f+1) (seqL plain far m ++ rest) out =
      match lit room plain.length (plain ++ (UInt8.ofNat far :: UInt8.ofNat (far / 256) :: (addedL m ++ rest))) out with
      | .error e => .error e
      | .ok (_, o) => if far = 0 ∨ o.length < far then .error 3 else unpD room (unp room f) far (m + 4) rest o := by
  have e1 : seqL plain far m ++ rest = tokL plain.length m :: (addedL plain.length ++ (plain ++ (UInt8.ofNat far :: UInt8.ofNat (far / 256) :: (addedL m ++ rest)))) := by
    simp [seqL]
  rw [e1, unp, tok_hi, lenM_added]
  simp only [drop_app, unpB]
  have hfar : (UInt8.ofNat far).toNat + 256 * (UInt8.ofNat (far / 256)).toNat = far := by
    rw [UInt8.toNat_ofNat', UInt8.toNat_ofNat']; omega
  by_cases hl : out.length + plain.length ≤ room
  · rw [lit_ok room plain _ out hl]
    simp only [unpC, hfar, tok_lo, lenM_added, drop_app]
  · by_cases ho : out.length ≤ room
    · rw [lit_long room plain _ out (by omega) ho]
    · -- more than there is room for: not met, but the two sides are the same all the same
      cases hlit : lit room plain.length (plain ++ (UInt8.ofNat far :: UInt8.ofNat (far / 256) :: (addedL m ++ rest))) out with
      | error e => rfl
      | ok p =>
        have : ∀ (x rest out : List UInt8) (p : List UInt8 × List UInt8), room < out.length → lit room x.length (x ++ rest) out = .ok p → p.1 = rest := by
          intro x
          induction x with
          | nil => intro rest out p _ h; simp [lit] at h; rw [← h]
          | cons y x ih =>
            intro rest out p ho h
            simp only [List.length_cons, List.cons_append, lit] at h
            rw [if_neg (by omega)] at h
            exact ih rest (out ++ [y]) p (by simp; omega) h
        have hp := this plain _ out p (by omega) hlit
        obtain ⟨p1, p2⟩ := p
        simp only at hp
        subst hp
        simp only [unpC, hfar, tok_lo, lenM_added, drop_app]

theorem unp_tail (room f : Nat) (tail out : List UInt8) :
    unp room (f+1) (tailL tail) out = match lit room tail.length tail out with
      | .error e => .error e
      | .ok (_, o) => .ok o := by
  have e1 : (UInt8.ofNat (min tail.length 15 * 16)) = tokL tail.length 0 := by simp [tokL]
  unfold tailL
  rw [e1, unp, tok_hi, lenM_added]
  simp only [drop_app, unpB]
  cases hlit : lit room tail.length tail out with
  | error e => rfl
  | ok p =>
    have : ∀ (x out : List UInt8) (p : List UInt8 × List UInt8), lit room x.length x out = .ok p → p.1 = [] := by
      intro x
      induction x with
      | nil => intro out p h; simp [lit] at h; rw [← h]
      | cons y x ih =>
        intro out p h
        simp only [List.length_cons, lit] at h
        split at h
        · cases h
        · exact ih (out ++ [y]) p h
    have hp := this tail out p hlit
    obtain ⟨p1, p2⟩ := p
    simp only at hp
    subst hp
    rfl

/-- LzHand's law -/
theorem hand_law (plain tail : List UInt8) (f n : Nat) (hf : 1 ≤ f) (hfp : f ≤ plain.length) (hp : plain.length ≤ 60000) (room : Nat) (fuel : Nat) (hfu : 2 ≤ fuel) :
    unp room fuel (seqL plain f n ++ tailL tail) [] =
      if plain.length + (n + 4) + tail.length ≤ room then .ok (matL f (n + 4) plain ++ tail) else .error 2 := by
  obtain ⟨fu, rfl⟩ : ∃ fu, fuel = fu + 1 + 1 := ⟨fuel - 2, by omega⟩
  rw [unp_seq room (fu + 1) plain f n _ _ (by omega)]
  by_cases h1 : plain.length ≤ room
  · rw [lit_ok room plain _ [] (by simpa using h1)]
    simp only [List.nil_append]
    rw [if_neg (by omega)]
    unfold unpD
    by_cases h2 : plain.length + (n + 4) ≤ room
    · rw [mat_ok room f (n+4) plain h2]
      simp only [unpE]
      rw [if_neg (by simp [tailL]), unp_tail]
      by_cases h3 : plain.length + (n + 4) + tail.length ≤ room
      · rw [if_pos h3]
        have := lit_ok room tail [] (matL f (n+4) plain) (by rw [matL_length]; omega)
        rw [List.append_nil] at this
        rw [this]
      · rw [if_neg h3]
        have := lit_long room tail [] (matL f (n+4) plain) (by rw [matL_length]; omega) (by rw [matL_length]; omega)
        rw [List.append_nil] at this
        rw [this]
    · rw [mat_long room f (n+4) plain (by omega) h1, if_neg (by omega)]
  · rw [lit_long room plain _ [] (by simp; omega) (by simp), if_neg (by omega)]

/-- LzFar's law -/
theorem far_law (plain tail : List UInt8) (far : Nat) (hfar : far < 65536) (hbad : far = 0 ∨ plain.length < far) (room : Nat) (hr : plain.length ≤ room) (fuel : Nat) (hfu : 1 ≤ fuel) (m : Nat) :
    unp room fuel (seqL plain far m ++ tail) [] = .error 3 := by
  obtain ⟨fu, rfl⟩ : ∃ fu, fuel = fu + 1 := ⟨fuel - 1, by omega⟩
  rw [unp_seq room fu plain far m _ _ hfar, lit_ok room plain _ [] (by simpa using hr)]
  simp only [List.nil_append]
  rw [if_pos hbad]

/-- LzRoom's law: more than there may be is never told -/
theorem lit_le (room : Nat) : ∀ n (rest out : List UInt8) p, lit room n rest out = .ok p → out.length ≤ room → p.2.length ≤ room
  | 0, rest, out, p, h, ho => by simp [lit] at h; subst h; exact ho
  | n+1, [], out, p, h, _ => by simp [lit] at h
  | n+1, x :: rest, out, p, h, ho => by
    rw [lit] at h
    split at h
    · cases h
    · exact lit_le room n rest (out ++ [x]) p h (by simp; omega)

theorem mat_le (room d : Nat) : ∀ n (out : List UInt8) o, mat room d n out = .ok o → out.length ≤ room → o.length ≤ room
  | 0, out, o, h, ho => by simp [mat] at h; subst h; exact ho
  | n+1, out, o, h, ho => by
    rw [mat] at h
    split at h
    · cases h
    · exact mat_le room d n _ o h (by simp; omega)

theorem unp_le (room : Nat) : ∀ f (rest out : List UInt8) l, unp room f rest out = .ok l → out.length ≤ room → l.length ≤ room
  | 0, rest, out, l, h, _ => by simp [unp] at h
  | f+1, [], out, l, h, _ => by simp [unp] at h
  | f+1, t :: r, out, l, h, ho => by
    rw [unp] at h
    split at h
    · cases h
    · rename_i n c hl
      unfold unpB at h
      split at h
      · cases h
      · rename_i r1 o1 hlit
        have hol := lit_le room _ _ _ _ hlit ho
        match r1, h with
        | [], h => simp [unpC] at h; subst h; exact hol
        | [_], h => simp [unpC] at h
        | lo :: hi :: rest, h =>
          rw [unpC] at h
          split at h
          · cases h
          · split at h
            · cases h
            · rename_i m c2 hm
              unfold unpD at h
              split at h
              · cases h
              · rename_i o2 hmat
                have ho2 := mat_le room _ _ _ _ hmat hol
                unfold unpE at h
                split at h
                · cases h; exact ho2
                · exact unp_le room f _ _ l h ho2

theorem unpack_le (bs : List UInt8) (room : Int) (l : List UInt8) (h : unpack bs room = .ok l) : (l.length : Int) ≤ room := by
  unfold unpack at h
  split at h
  · cases h
  · have := unp_le _ _ _ _ _ h (by simp)
    omega
end Go.Lz
