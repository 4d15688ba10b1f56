import Derived.Test.YtmbfcpdflhjfnaaL2
namespace Go.Lz

abbrev Mp := List (List UInt8 × Nat)
def mfind : Mp → List UInt8 → Option Nat
  | [], _ => none
  | (k', v') :: r, k => if k' = k then some v' else mfind r k
def mupd : Mp → List UInt8 → Nat → Mp
  | [], k, v => [(k, v)]
  | (k', v') :: r, k, v => if k' = k then (k, v) :: r else (k', v') :: mupd r k v

/-- how far two places are alike -/
def ext (b : List UInt8) (was at_ : Nat) : Nat → Nat → Nat
  | 0, n => n
  | f+1, n => if at_ + n < b.length ∧ b.getD (was + n) 0 = b.getD (at_ + n) 0 then ext b was at_ f (n+1) else n

def packGo (b : List UInt8) : Nat → Mp → Nat → Nat → List UInt8 → List UInt8
  | 0, _, fr, _, out => out ++ tailL (b.drop fr)
  | f+1, m, fr, at_, out =>
    if at_ + 4 ≤ b.length then
      match mfind m ((b.drop at_).take 4) with
      | none => packGo b f (mupd m ((b.drop at_).take 4) at_) fr (at_+1) out
      | some was =>
        if 65535 < at_ - was then packGo b f (mupd m ((b.drop at_).take 4) at_) fr (at_+1) out
        else packGo b f (mupd m ((b.drop at_).take 4) at_) (at_ + ext b was at_ b.length 4) (at_ + ext b was at_ b.length 4)
          (out ++ seqL ((b.drop fr).take (at_ - fr)) (at_ - was) (ext b was at_ b.length 4 - 4))
    else out ++ tailL (b.drop fr)

/-- the bytes packed -/
def pack (b : List UInt8) : List UInt8 := if 1048576 < b.length then [] else packGo b (b.length + 1) [] 0 0 []

theorem ext_spec (b : List UInt8) (was at_ : Nat) : ∀ f n, at_ + n ≤ b.length → (∀ i, i < n → b.getD (was + i) 0 = b.getD (at_ + i) 0) →
    n ≤ ext b was at_ f n ∧ at_ + ext b was at_ f n ≤ b.length ∧ ∀ i, i < ext b was at_ f n → b.getD (was + i) 0 = b.getD (at_ + i) 0
  | 0, n, h1, h2 => ⟨Nat.le_refl _, h1, h2⟩
  | f+1, n, h1, h2 => by
    rw [ext]
    split
    · rename_i h
      have := ext_spec b was at_ f (n+1) (by omega) (fun i hi => by
        rcases Nat.lt_or_ge i n with h3 | h3
        · exact h2 i h3
        · obtain rfl : i = n := by omega
          exact h.2)
      exact ⟨by omega, this.2.1, this.2.2⟩
    · exact ⟨Nat.le_refl _, h1, h2⟩

theorem mfind_mem : ∀ (m : Mp) k v, mfind m k = some v → (k, v) ∈ m
  | [], k, v, h => by simp [mfind] at h
  | (k', v') :: r, k, v, h => by
    rw [mfind] at h
    split at h
    · rename_i e; subst e; cases h; simp
    · exact List.mem_cons_of_mem _ (mfind_mem r k v h)

theorem mupd_mem : ∀ (m : Mp) k v x, x ∈ mupd m k v → x = (k, v) ∨ x ∈ m
  | [], k, v, x, h => by simp [mupd] at h; exact .inl h
  | (k', v') :: r, k, v, x, h => by
    rw [mupd] at h
    split at h
    · rcases List.mem_cons.1 h with h | h
      · exact .inl h
      · exact .inr (List.mem_cons_of_mem _ h)
    · rcases List.mem_cons.1 h with h | h
      · exact .inr (by rw [h]; simp)
      · rcases mupd_mem r k v x h with h | h
        · exact .inl h
        · exact .inr (List.mem_cons_of_mem _ h)

theorem take_snoc' (b : List UInt8) (n : Nat) (h : n < b.length) : b.take n ++ [b.getD n 0] = b.take (n+1) := by
  rw [List.take_succ_eq_append_getElem h, List.getD_eq_getElem?_getD, List.getElem?_eq_getElem h]; rfl

theorem matL_take (b : List UInt8) (d : Nat) (hd : 1 ≤ d) : ∀ n at_, d ≤ at_ → at_ + n ≤ b.length → (∀ i, i < n → b.getD (at_ - d + i) 0 = b.getD (at_ + i) 0) → matL d n (b.take at_) = b.take (at_ + n)
  | 0, at_, _, _, _ => rfl
  | n+1, at_, h1, h2, h3 => by
    rw [matL]
    have hl : (b.take at_).length = at_ := by simp; omega
    have e : (b.take at_).getD ((b.take at_).length - d) 0 = b.getD at_ 0 := by
      rw [hl]
      have := h3 0 (by omega)
      simp only [Nat.add_zero] at this
      rw [← this, List.getD_eq_getElem?_getD, List.getD_eq_getElem?_getD, List.getElem?_take, if_pos (by omega)]
    rw [e, take_snoc' b at_ (by omega), matL_take b d hd n (at_+1) (by omega) (by omega) (fun i hi => by
      have := h3 (i+1) (by omega)
      rw [show at_ + 1 - d + i = at_ - d + (i + 1) by omega, show at_ + 1 + i = at_ + (i + 1) by omega]; exact this)]
    congr 1; omega

theorem four_eq (b : List UInt8) (v at_ : Nat) (hv : v + 4 ≤ b.length) (ha : at_ + 4 ≤ b.length) (h : (b.drop v).take 4 = (b.drop at_).take 4) : ∀ i, i < 4 → b.getD (v + i) 0 = b.getD (at_ + i) 0 := by
  intro i hi
  have := congrArg (fun l => l.getD i 0) h
  simp only [List.getD_eq_getElem?_getD, List.getElem?_take, hi, if_true, List.getElem?_drop] at this
  rw [List.getD_eq_getElem?_getD, List.getD_eq_getElem?_getD, this]

def Seen (b : List UInt8) (m : Mp) (at_ : Nat) : Prop := ∀ k v, (k, v) ∈ m → v < at_ ∧ v + 4 ≤ b.length ∧ (b.drop v).take 4 = k

theorem Seen.upd {b : List UInt8} {m : Mp} {at_ : Nat} (h : Seen b m at_) (ha : at_ + 4 ≤ b.length) {c : Nat} (hc : at_ < c) : Seen b (mupd m ((b.drop at_).take 4) at_) c := by
  intro k v hk
  rcases mupd_mem m _ _ _ hk with e | e
  · cases e; exact ⟨hc, ha, rfl⟩
  · have := h k v e; exact ⟨by omega, this.2.1, this.2.2⟩

/-- what 'out' tells: the first fr bytes -/
def Tells (b : List UInt8) (room : Nat) (out : List UInt8) (fr : Nat) : Prop :=
  ∃ c, c ≤ out.length ∧ ∀ f rest, rest ≠ [] → unp room (f + c) (out ++ rest) [] = unp room f rest (b.take fr)

theorem tells_seq {b : List UInt8} {room : Nat} {out : List UInt8} {fr at_ was n : Nat} (h : Tells b room out fr) (hr : b.length ≤ room) (h1 : fr ≤ at_) (h2 : was < at_) (hn : 4 ≤ n) (h3 : at_ + n ≤ b.length) (hd : at_ - was ≤ 65535)
    (he : ∀ i, i < n → b.getD (was + i) 0 = b.getD (at_ + i) 0) : Tells b room (out ++ seqL ((b.drop fr).take (at_ - fr)) (at_ - was) (n - 4)) (at_ + n) := by
  obtain ⟨c, hc, ht⟩ := h
  refine ⟨c + 1, by simp [seqL]; omega, fun f rest hrest => ?_⟩
  have := ht (f + 1) (seqL ((b.drop fr).take (at_ - fr)) (at_ - was) (n - 4) ++ rest) (by simp [seqL])
  rw [List.append_assoc, show f + (c + 1) = f + 1 + c by omega, this, unp_seq room f _ _ _ _ _ (by omega)]
  have hpl : ((b.drop fr).take (at_ - fr)).length = at_ - fr := by simp; omega
  have hjoin : b.take fr ++ (b.drop fr).take (at_ - fr) = b.take at_ := by
    rw [← List.take_add, show fr + (at_ - fr) = at_ by omega]
  have hl := lit_ok room ((b.drop fr).take (at_ - fr)) (UInt8.ofNat (at_ - was) :: UInt8.ofNat ((at_ - was) / 256) :: (addedL (n - 4) ++ rest)) (b.take fr) (by rw [hpl]; simp; omega)
  rw [hl]
  simp only [hjoin]
  have hta : (b.take at_).length = at_ := by simp; omega
  rw [if_neg (by rw [hta]; omega)]
  unfold unpD
  rw [show n - 4 + 4 = n by omega, mat_ok room (at_ - was) n (b.take at_) (by rw [hta]; omega)]
  simp only [unpE, if_neg hrest]
  rw [matL_take b (at_ - was) (by omega) n at_ (by omega) h3 (fun i hi => by rw [show at_ - (at_ - was) + i = was + i by omega]; exact he i hi)]

theorem tells_end {b : List UInt8} {room : Nat} {out : List UInt8} {fr : Nat} (h : Tells b room out fr) (hr : b.length ≤ room) (hf : fr ≤ b.length) :
    unp room ((out ++ tailL (b.drop fr)).length + 1) (out ++ tailL (b.drop fr)) [] = .ok b := by
  obtain ⟨c, hc, ht⟩ := h
  have e : (out ++ tailL (b.drop fr)).length + 1 = ((out ++ tailL (b.drop fr)).length - c) + 1 + c := by
    rw [List.length_append]; omega
  rw [e, ht _ _ (by simp [tailL]), unp_tail]
  have hl := lit_ok room (b.drop fr) [] (b.take fr) (by simp; omega)
  rw [List.append_nil] at hl
  rw [hl]
  simp

theorem packGo_tells (b : List UInt8) (room : Nat) (hr : b.length ≤ room) : ∀ f m fr at_ out, Seen b m at_ → fr ≤ at_ → at_ ≤ b.length → Tells b room out fr →
    unp room ((packGo b f m fr at_ out).length + 1) (packGo b f m fr at_ out) [] = .ok b
  | 0, m, fr, at_, out, _, h1, h2, h3 => by rw [packGo]; exact tells_end h3 hr (by omega)
  | f+1, m, fr, at_, out, hs, h1, h2, h3 => by
    rw [packGo]
    split
    · rename_i h4
      split
      · exact packGo_tells b room hr f _ fr (at_+1) out (hs.upd h4 (by omega)) (by omega) (by omega) h3
      · rename_i was hw
        obtain ⟨g1, g2, g3⟩ := hs _ _ (mfind_mem _ _ _ hw)
        split
        · exact packGo_tells b room hr f _ fr (at_+1) out (hs.upd h4 (by omega)) (by omega) (by omega) h3
        · obtain ⟨e1, e2, e3⟩ := ext_spec b was at_ b.length 4 h4 (four_eq b was at_ g2 h4 g3)
          exact packGo_tells b room hr f _ _ _ _ (hs.upd h4 (by omega)) (Nat.le_refl _) e2 (tells_seq h3 hr h1 g1 e1 e2 (by omega) e3)
    · exact tells_end h3 hr (by omega)

/-- LzBack: what is packed is unpacked -/
theorem unpack_pack (b : List UInt8) (hb : b.length ≤ 1048576) (room : Nat) (h1 : b.length ≤ room) (h2 : room ≤ 1048576) : unpack (pack b) room = .ok b := by
  unfold unpack pack
  rw [if_neg (by omega), if_neg (by omega)]
  simp only [Int.toNat_natCast]
  exact packGo_tells b room h1 _ _ _ _ _ (fun _ _ h => by simp at h) (by omega) (by omega) ⟨0, by simp, fun f rest _ => by simp⟩

/-! how long -/
theorem seqL_len (plain : List UInt8) (far m : Nat) : (seqL plain far m).length ≤ plain.length + (m + 4) + plain.length / 255 := by
  simp only [seqL, List.length_cons, List.length_append, addedL_length]
  split <;> split <;> omega
theorem tailL_len (t : List UInt8) : (tailL t).length ≤ t.length + t.length / 255 + 2 := by
  simp only [tailL, List.length_cons, List.length_append, addedL_length]
  split <;> omega

theorem packGo_len (b : List UInt8) : ∀ f m fr at_ out, Seen b m at_ → fr ≤ at_ → at_ ≤ b.length → out.length ≤ fr + fr / 255 → (packGo b f m fr at_ out).length ≤ b.length + b.length / 255 + 2
  | 0, m, fr, at_, out, _, h1, h2, h3 => by
    rw [packGo, List.length_append]
    have := tailL_len (b.drop fr)
    simp only [List.length_drop] at this
    omega
  | f+1, m, fr, at_, out, hs, h1, h2, h3 => by
    rw [packGo]
    split
    · rename_i h4
      split
      · exact packGo_len b f _ fr (at_+1) out (hs.upd h4 (by omega)) (by omega) (by omega) h3
      · rename_i was hw
        obtain ⟨g1, g2, g3⟩ := hs _ _ (mfind_mem _ _ _ hw)
        split
        · exact packGo_len b f _ fr (at_+1) out (hs.upd h4 (by omega)) (by omega) (by omega) h3
        · obtain ⟨e1, e2, e3⟩ := ext_spec b was at_ b.length 4 h4 (four_eq b was at_ g2 h4 g3)
          refine packGo_len b f _ _ _ _ (hs.upd h4 (by omega)) (Nat.le_refl _) e2 ?_
          have := seqL_len ((b.drop fr).take (at_ - fr)) (at_ - was) (ext b was at_ b.length 4 - 4)
          have hpl : ((b.drop fr).take (at_ - fr)).length = at_ - fr := by simp; omega
          rw [hpl] at this
          rw [List.length_append]
          omega
    · rw [List.length_append]
      have := tailL_len (b.drop fr)
      simp only [List.length_drop] at this
      omega

theorem pack_len (b : List UInt8) (hb : b.length ≤ 1048576) : (pack b).length ≤ b.length + b.length / 255 + 2 := by
  unfold pack
  rw [if_neg (by omega)]
  exact packGo_len b _ _ _ _ _ (fun _ _ h => by simp at h) (by omega) (by omega) (by simp)

theorem pack_ne (b : List UInt8) (hb : b.length ≤ 1048576) : pack b ≠ [] := by
  intro h
  have := unpack_pack b hb b.length (Nat.le_refl _) hb
  rw [h] at this
  unfold unpack at this
  rw [if_neg (by omega)] at this
  simp [unp] at this

/-! less room -/
theorem lit_less (r R : Nat) (hr : r ≤ R) : ∀ n (rest out : List UInt8) p, lit R n rest out = .ok p → out.length ≤ r → lit r n rest out = .ok p ∧ p.2.length ≤ r ∨ lit r n rest out = .error 2
  | 0, rest, out, p, h, ho => by simp [lit] at h; subst h; exact .inl ⟨rfl, ho⟩
  | n+1, [], out, p, h, _ => by simp [lit] at h
  | n+1, x :: rest, out, p, h, ho => by
    rw [lit] at h
    split at h
    · cases h
    · rw [lit]
      by_cases e : out.length = r
      · exact .inr (by rw [if_pos e])
      · rw [if_neg e]; exact lit_less r R hr n rest _ p h (by simp; omega)

theorem mat_less (r R d : Nat) (hr : r ≤ R) : ∀ n (out : List UInt8) o, mat R d n out = .ok o → out.length ≤ r → mat r d n out = .ok o ∧ o.length ≤ r ∨ mat r d n out = .error 2
  | 0, out, o, h, ho => by simp [mat] at h; subst h; exact .inl ⟨rfl, ho⟩
  | n+1, out, o, h, ho => by
    rw [mat] at h
    split at h
    · cases h
    · rw [mat]
      by_cases e : out.length = r
      · exact .inr (by rw [if_pos e])
      · rw [if_neg e]; exact mat_less r R d hr n _ o h (by simp; omega)

theorem unp_less (r R : Nat) (hr : r ≤ R) : ∀ f (rest out : List UInt8) l, unp R f rest out = .ok l → out.length ≤ r → r < l.length → unp r f rest out = .error 2
  | 0, rest, out, l, h, _, _ => by simp [unp] at h
  | f+1, [], out, l, h, _, _ => by simp [unp] at h
  | f+1, t :: q, out, l, h, ho, hl => by
    rw [unp] at h ⊢
    cases hL : lenM q (t.toNat / 16) with
    | none => rw [hL] at h; cases h
    | some nc =>
      obtain ⟨n, c⟩ := nc
      rw [hL] at h
      simp only at h ⊢
      unfold unpB at h ⊢
      cases hlit : lit R n (q.drop c) out with
      | error e => rw [hlit] at h; cases h
      | ok p =>
        rw [hlit] at h
        obtain ⟨r1, o1⟩ := p
        rcases lit_less r R hr n _ out _ hlit ho with ⟨e1, e2⟩ | e1
        · rw [e1]
          simp only at h e2 ⊢
          match r1, h with
          | [], h => rw [unpC] at h; cases h; omega
          | [_], h => rw [unpC] at h; cases h
          | lo :: hi :: rest, h =>
            rw [unpC] at h ⊢
            split at h
            · cases h
            · rename_i hbad
              rw [if_neg hbad]
              cases hM : lenM rest (t.toNat % 16) with
              | none => rw [hM] at h; cases h
              | some mc =>
                obtain ⟨m, c2⟩ := mc
                rw [hM] at h
                simp only at h ⊢
                unfold unpD at h ⊢
                cases hmat : mat R (lo.toNat + 256 * hi.toNat) (m + 4) o1 with
                | error e => rw [hmat] at h; cases h
                | ok o2 =>
                  rw [hmat] at h
                  rcases mat_less r R _ hr _ _ _ hmat e2 with ⟨e3, e4⟩ | e3
                  · rw [e3]
                    simp only [unpE] at h ⊢
                    split at h
                    · cases h; omega
                    · rename_i hne
                      rw [if_neg hne]
                      exact unp_less r R hr f _ o2 l h e4 hl
                  · rw [e3]
        · rw [e1]

/-- LzLess -/
theorem unpack_less (b : List UInt8) (hb : b.length ≤ 1048576) (r : Nat) (h : r < b.length) : unpack (pack b) r = .error 2 := by
  have h1 := unpack_pack b hb b.length (Nat.le_refl _) hb
  unfold unpack at h1 ⊢
  rw [if_neg (by omega)] at h1 ⊢
  simp only [Int.toNat_natCast] at h1 ⊢
  exact unp_less r b.length (by omega) _ _ _ _ h1 (by simp) h
end Go.Lz
