import Derived.WalkKit
import Derived.WalkSpells
import Derived.WalkLawsBesides
import Derived.Laws.EntriesVeiled
import Derived.Laws.BitsAllLaws

namespace Go.Mx
open Go.RowKit

theorem hid {p : Prop} (h : p) : Hid p := h

theorem cs_same {w : World} {a : Addr} {u v : Value} (h : w.cell? a = some u) : (w.setCell a v).cell? a = some v := by first | exact World.cell?_setCell_same _ _ _ h | exact World.cell?_setCell_same' _ _ _ (by rw [h]; rfl)

theorem cs_ne {w : World} {b o b' o' : Nat} {v : Value} (h : b ≠ b') : (w.setCell ⟨b, o, none⟩ v).cell? ⟨b', o', none⟩ = w.cell? ⟨b', o', none⟩ :=
  World.cell?_setCell_other w _ _ _ (by simp [h])

theorem fz_set {w : World} {a a' : Addr} {v : Value} : (w.setCell a v).frozen? a' = w.frozen? a' := by simp

theorem setCell_self {w : World} {a : Addr} {v : Value} (h : w.cell? a = some v) : w.setCell a v = w := by
  cases w with | mk heap tape drawn os output =>
  unfold World.setCell
  unfold World.cell? at h
  simp only [World.mk.injEq, and_true]
  simp only at h
  split at h
  · rename_i c t f hb
    split at h
    · cases h
    · rename_i hs
      apply Array.ext_getElem?
      intro i
      rw [Array.getElem?_modify]
      split
      · rename_i hi
        subst hi
        rw [hb]
        simp only [Option.map_some, hs, if_false, Bool.false_eq_true]
        congr 2
        apply Array.ext_getElem?
        intro j
        rw [Array.getElem?_setIfInBounds]
        split
        · rename_i hj; subst hj
          split
          · rw [h]
          · rename_i hlt; rw [Array.getElem?_eq_none (by omega)]
        · rfl
      · rfl
  · cases h

theorem setCell_twice (w : World) (a : Addr) (v u : Value) : (w.setCell a v).setCell a u = w.setCell a u := by
  unfold World.setCell
  simp only
  congr 1
  apply Array.ext_getElem?
  intro i
  simp only [Array.getElem?_modify]
  split
  · cases w.heap[i]? with
    | none => rfl
    | some o =>
      cases o <;> simp only [Option.map_some]
      split
      · rfl
      · congr 2
        apply Array.ext_getElem?
        intro j
        simp only [Array.getElem?_setIfInBounds, Array.size_setIfInBounds]
        split <;> rfl
  · rfl

abbrev u8 (b : UInt8) : Value := .int .u8 (b.toNat : Int)

/-- the bytes from place o of block b on -/
def RdB (w : World) (b o : Nat) (bs : List UInt8) : Prop := ∀ i, i < bs.length → w.cell? ⟨b, o + i, none⟩ = some (u8 (bs.getD i 0))

theorem RdB.at {w : World} {b o : Nat} {bs : List UInt8} (h : RdB w b o bs) {k : Nat} (hk : k < bs.length) : w.cell? ⟨b, o + k, none⟩ = some (u8 (bs.getD k 0)) := h k hk

theorem RdB.setCell {w : World} {b o : Nat} {bs : List UInt8} (h : RdB w b o bs) {p q : Nat} {v : Value} (hp : p ≠ b) : RdB (w.setCell ⟨p, q, none⟩ v) b o bs :=
  fun i hi => by rw [cs_ne hp]; exact h i hi

theorem RdB.below {w w' : World} {B b o : Nat} {bs : List UInt8} (h : RdB w b o bs) (hb : Below B w w') (hB : b < B) : RdB w' b o bs :=
  fun i hi => by rw [hb.cell (p := ⟨b, o + i, none⟩) hB]; exact h i hi

theorem RdB.lt {w : World} {b o : Nat} {bs : List UInt8} (h : RdB w b o bs) (hn : bs ≠ []) : b < w.heap.size := by
  cases bs with
  | nil => exact absurd rfl hn
  | cons x r => exact World.block_lt_of_cell? w ⟨b, o + 0, none⟩ (h 0 (by simp))

theorem drop_getD (bs : List UInt8) (k : Nat) (hk : k < bs.length) : bs.drop k = bs.getD k 0 :: bs.drop (k+1) := by
  rw [List.drop_eq_getElem_cons hk, List.getD_eq_getElem?_getD, List.getElem?_eq_getElem hk]; rfl

/-- a slice of bytes that the call itself has made -/
def OwnB (w : World) (base : Nat) (e : TypeId) (v : Value) (l : List UInt8) : Prop := w.ownsRow base e 1 v l.length (l.map u8)

theorem OwnB.nil (w : World) (base : Nat) (e : TypeId) : OwnB w base e (.slice none 0 0) [] := World.ownsRow_nil w base e 1

theorem OwnB.below {w w' : World} {base B : Nat} {e : TypeId} {v : Value} {l : List UInt8} (h : OwnB w base e v l) (hb : Below B w w') (hv : ∀ k, v.ownBlock = some k → k < B) : OwnB w' base e v l := by
  refine ⟨h.1, ?_⟩
  rcases h.2 with hn | ⟨g, cap, cur, rfl, hbg, hgg, rest⟩
  · exact .inl hn
  · exact .inr ⟨g, cap, cur, rfl, hbg, by rw [hb.block g (hv g rfl)]; exact hgg, rest⟩

theorem OwnB.setCell {w : World} {base : Nat} {e : TypeId} {v : Value} {l : List UInt8} (h : OwnB w base e v l) {p q : Nat} (hp : p < base) (u : Value) : OwnB (w.setCell ⟨p, q, none⟩ u) base e v l :=
  ownsRow_setCell_below h (a := ⟨p, q, none⟩) hp u

theorem OwnB.shape {w : World} {base : Nat} {e : TypeId} {v : Value} {l : List UInt8} (h : OwnB w base e v l) :
    (v = .slice none 0 0 ∧ l = []) ∨ ∃ g cap, v = .slice (some ⟨g, 0, none⟩) l.length cap ∧ base ≤ g ∧ g < w.heap.size ∧ l.length ≤ cap ∧ cap ≤ maxLen ∧ RdB w g 0 l := by
  have hc := fun g (hg : v.ownBlock = some g) => World.ownsRow.cells h hg
  have hl := World.ownsRow.lt h
  rcases h.2 with ⟨rfl, h0⟩ | ⟨g, cap, cur, rfl, hbg, hgg, hn, hm, hs, ht⟩
  · exact .inl ⟨rfl, List.eq_nil_of_length_eq_zero h0⟩
  · refine .inr ⟨g, cap, rfl, hbg, (hl g rfl).2, hn, hm, fun i hi => ?_⟩
    have := hc g rfl i (u8 (l.getD i 0)) (by simp [List.getElem?_map, List.getElem?_eq_getElem hi])
    have e : (⟨g, 0, none⟩ : Addr).add i = ⟨g, 0 + i, none⟩ := by unfold Addr.add; split <;> simp_all
    rw [e] at this; exact this

theorem OwnB.any_base {w : World} {base base' : Nat} {e : TypeId} {v : Value} {l : List UInt8} (h : OwnB w base e v l) (hb : base' ≤ base) : OwnB w base' e v l := by
  refine ⟨h.1, ?_⟩
  rcases h.2 with hn | ⟨g, cap, cur, rfl, hbg, rest⟩
  · exact .inl hn
  · exact .inr ⟨g, cap, cur, rfl, by omega, rest⟩

/-- 'append(out, x)' of one byte onto a slice of the call's own -/
theorem append_byte {P : Program} (w : World) {ops : Array Oper} {rest : List Oper} {o : Oper} {a : Act} {Q : Exit → Act → World → Prop} (hgd : o.guard = none) (s x : Operand) (t e : TypeId)
    (ho : o.op = .call { callee := .builtin .append, args := #[s, x], argTypes := #[t, t] })
    (ht : P.underlying t = some (.slice e)) (hi : (P.info? e).map (fun i => (i.zero, i.size, i.bytes)) = some (some (.int .u8 0), 1, 1))
    (base : Nat) (v : Value) (l : List UInt8) (b : UInt8) (hs : a.eval s = v) (hown : OwnB w base e v l) (g c : Nat) (hx : a.eval x = .slice (some ⟨g, 0, none⟩) 1 c)
    (hcell : w.cell? ⟨g, 0, none⟩ = some (u8 b)) (hlen : l.length + 1 ≤ 140737488355328) (hB : base ≤ w.heap.size)
    (h : ∀ v' w', OwnB w' base e v' (l ++ [b]) → Below base w w' → wpList P ops Q rest (a.put o.dst v') w') : wpList P ops Q (o :: rest) a w := by
  obtain ⟨i0, hi0, hz0, hz1, hz2⟩ := info_parts hi
  refine wpList_append_own w hgd s x t ho base e i0 _ 1 1 ht hi0 hz0 hz1 hz2 rfl (by decide) v l.length _ hs hown ⟨g, 0, none⟩ 1 c [u8 b] hx rfl ?_ ?_ ?_ ?_ hB ?_
  · intro j u hj
    match j, hj with
    | 0, hj => simp at hj; subst hj; simpa [Addr.add] using hcell
  · intro u hu; simp at hu; subst hu; rfl
  · unfold maxLen; omega
  · omega
  · intro v' w' ho' hg' _
    refine h v' w' ?_ ?_
    · unfold OwnB; simpa using ho'
    · exact (Below.refl base w).grown hg' hB (fun k hk => (World.ownsRow.lt hown k hk).1)

/-- a value that reads as these bytes, in blocks below B -/
def SlB (w : World) (B : Nat) (v : Value) (bs : List UInt8) : Prop :=
  ∃ oa cap, v = .slice oa bs.length cap ∧ bs.length ≤ cap ∧ cap ≤ maxLen ∧ (bs ≠ [] → ∃ bb bo, oa = some ⟨bb, bo, none⟩ ∧ bb < B ∧ RdB w bb bo bs)

theorem SlB.below {w w' : World} {B B' : Nat} {v : Value} {bs : List UInt8} (h : SlB w B v bs) (hb : Below B' w w') (hB : B ≤ B') : SlB w' B v bs := by
  obtain ⟨oa, cap, rfl, h1, h2, h3⟩ := h
  refine ⟨oa, cap, rfl, h1, h2, fun hn => ?_⟩
  obtain ⟨bb, bo, rfl, hl, hr⟩ := h3 hn
  exact ⟨bb, bo, rfl, hl, hr.below hb (by omega)⟩

theorem SlB.mono {w : World} {B B' : Nat} {v : Value} {bs : List UInt8} (h : SlB w B v bs) (hB : B ≤ B') : SlB w B' v bs := by
  obtain ⟨oa, cap, rfl, h1, h2, h3⟩ := h
  refine ⟨oa, cap, rfl, h1, h2, fun hn => ?_⟩
  obtain ⟨bb, bo, rfl, hl, hr⟩ := h3 hn
  exact ⟨bb, bo, rfl, by omega, hr⟩

theorem SlB.setCell {w : World} {B : Nat} {v : Value} {bs : List UInt8} (h : SlB w B v bs) {p q : Nat} (u : Value) (hp : B ≤ p) : SlB (w.setCell ⟨p, q, none⟩ u) B v bs :=
  h.below ((Below.refl B w).setCell (p := ⟨p, q, none⟩) hp u) (Nat.le_refl _)

theorem SlB.nil (w : World) (B : Nat) : SlB w B (.slice none 0 0) [] := ⟨none, 0, rfl, by simp, by simp [maxLen], fun h => absurd rfl h⟩

theorem OwnB.slB {w : World} {base : Nat} {e : TypeId} {v : Value} {l : List UInt8} (h : OwnB w base e v l) : SlB w w.heap.size v l := by
  rcases h.shape with ⟨rfl, rfl⟩ | ⟨g, cap, rfl, h1, h2, h3, h4, h5⟩
  · exact SlB.nil _ _
  · exact ⟨_, cap, rfl, h3, h4, fun _ => ⟨g, 0, rfl, h2, h5⟩⟩

theorem len_sl {P : Program} {t ty e : TypeId} (ht : P.underlying t = some (.slice e)) {v : Value} {oa : Option Addr} {n c : Nat} (hv : v = .slice oa n c) (w : World) :
    (Builtin.len_ #[t] ty #[v]).run P w = .ok (.int .i64 n) w := by
  subst hv
  cases oa <;> simp [Builtin.len_, run_underlying ht, go_sem]

theorem len_own {P : Program} {t ty e : TypeId} (ht : P.underlying t = some (.slice e)) {w0 : World} {base : Nat} {v : Value} {l : List UInt8} (h : OwnB w0 base e v l) (w : World) :
    (Builtin.len_ #[t] ty #[v]).run P w = .ok (.int .i64 l.length) w := by
  rcases h.shape with ⟨rfl, rfl⟩ | ⟨g, cap, rfl, h1, h2, h3, h4, h5⟩
  · exact len_sl ht rfl w
  · exact len_sl ht rfl w

theorem OwnB.alloc {w : World} {base : Nat} {e : TypeId} {v : Value} {l : List UInt8} (h : OwnB w base e v l) (o : Obj) : OwnB (w.alloc o) base e v l := World.ownsRow.alloc h o

theorem cell_alloc1 (w : World) (v : Value) (e : TypeId) : (w.alloc (.cells #[v] e)).cell? ⟨w.heap.size, 0, none⟩ = some v := by go_simp

theorem OwnB.at {w : World} {base : Nat} {e : TypeId} {v : Value} {l : List UInt8} (h : OwnB w base e v l) (i : Nat) (hi : i < l.length) :
    ∃ g cap, v = .slice (some ⟨g, 0, none⟩) l.length cap ∧ base ≤ g ∧ l.length ≤ cap ∧ cap ≤ maxLen ∧ w.cell? ⟨g, i, none⟩ = some (u8 (l.getD i 0)) := by
  rcases h.shape with ⟨rfl, rfl⟩ | ⟨g, cap, rfl, h1, h2, h3, h4, h5⟩
  · simp at hi
  · exact ⟨g, cap, rfl, h1, h3, h4, by have := h5 i hi; rwa [Nat.zero_add] at this⟩

theorem or_hi (lo hi : Nat) (h1 : lo < 256) (h2 : hi < 256) : bits .or .i64 (lo : Int) ((hi : Int) * 256) = ((lo + 256 * hi : Nat) : Int) := by
  have e : ∀ n : Nat, n < 65536 → (BitVec.ofInt 64 (n:Int)).toNat = n := by
    intro n hn; simp [BitVec.toNat_ofInt]; omega
  have e2 : lo ||| hi * 256 = lo + 256 * hi := by
    have := Nat.shiftLeft_add_eq_or_of_lt (i := 8) (b := lo) (by omega) hi
    rw [Nat.shiftLeft_eq] at this
    rw [Nat.or_comm]
    exact this.symm.trans (by omega)
  rw [show (hi : Int) * 256 = ((hi * 256 : Nat) : Int) by simp]
  have e3 : (BitVec.ofInt 64 (lo:Int) ||| BitVec.ofInt 64 ((hi * 256 : Nat) : Int)).toNat = lo + 256 * hi := by
    rw [BitVec.toNat_or, e lo (by omega), e (hi * 256) (by omega), e2]
  show IntKind.i64.wrap ((BitVec.ofInt 64 (lo:Int) ||| BitVec.ofInt 64 ((hi * 256 : Nat) : Int)).toNat : Int) = _
  rw [e3]
  simp [IntKind.wrap, IntKind.bits, IntKind.signed]
  omega

end Go.Mx
