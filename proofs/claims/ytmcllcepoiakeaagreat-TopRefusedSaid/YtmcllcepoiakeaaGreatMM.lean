import Derived.WalkKit
import Derived.WalkSpells
import Derived.WalkLawsBesides
import Derived.Laws.EntriesVeiled
import Derived.Laws.BitsAllLaws
import Derived.Laws.IdiomStrings
import Derived.Laws.BytesArg
import Derived.Laws.OwnMore
import Derived.Laws.Slices
set_option linter.unusedSimpArgs false
set_option linter.unusedVariables false
namespace Go.Mx
open Go.RowKit
theorem hid {p : Prop} (h : p) : Hid p := h
theorem cs_same {w : World} {a : Addr} {u v : Value} (h : w.cell? a = some u) : (w.setCell a v).cell? a = some v := by first | exact World.cell?_setCell_same _ _ _ h | exact World.cell?_setCell_same' _ _ _ (by rw [h]; rfl)
theorem cs_ne {w : World} {b o b' o' : Nat} {v : Value} (h : b ≠ b') : (w.setCell ⟨b, o, none⟩ v).cell? ⟨b', o', none⟩ = w.cell? ⟨b', o', none⟩ :=
  World.cell?_setCell_other w _ _ _ (by simp [h])
theorem fz_set {w : World} {a a' : Addr} {v : Value} : (w.setCell a v).frozen? a' = w.frozen? a' := by simp
theorem setCell_self {w : World} {a : Addr} {v : Value} (h : w.cell? a = some v) : w.setCell a v = w := by
  cases w with | mk heap tape drawn os output =>
  unfold World.setCell
  unfold World.cell? at h
  simp only [World.mk.injEq, and_true]
  simp only at h
  split at h
  · rename_i c t f hb
    split at h
    · cases h
    · rename_i hs
      apply Array.ext_getElem?
      intro i
      rw [Array.getElem?_modify]
      split
      · rename_i hi
        subst hi
        rw [hb]
        simp only [Option.map_some, hs, if_false, Bool.false_eq_true]
        congr 2
        apply Array.ext_getElem?
        intro j
        rw [Array.getElem?_setIfInBounds]
        split
        · rename_i hj; subst hj
          split
          · rw [h]
          · rename_i hlt; rw [Array.getElem?_eq_none (by omega)]
        · rfl
      · rfl
  · cases h
theorem setCell_twice (w : World) (a : Addr) (v u : Value) : (w.setCell a v).setCell a u = w.setCell a u := by
  unfold World.setCell
  simp only
  congr 1
  apply Array.ext_getElem?
  intro i
  simp only [Array.getElem?_modify]
  split
  · cases w.heap[i]? with
    | none => rfl
    | some o =>
      cases o <;> simp only [Option.map_some]
      split
      · rfl
      · congr 2
        apply Array.ext_getElem?
        intro j
        simp only [Array.getElem?_setIfInBounds, Array.size_setIfInBounds]
        split <;> rfl
  · rfl
abbrev u8 (b : UInt8) : Value := .int .u8 (b.toNat : Int)
/-- the bytes from place o of block b on -/
def RdB (w : World) (b o : Nat) (bs : List UInt8) : Prop := ∀ i, i < bs.length → w.cell? ⟨b, o + i, none⟩ = some (u8 (bs.getD i 0))
theorem RdB.at {w : World} {b o : Nat} {bs : List UInt8} (h : RdB w b o bs) {k : Nat} (hk : k < bs.length) : w.cell? ⟨b, o + k, none⟩ = some (u8 (bs.getD k 0)) := h k hk
theorem RdB.setCell {w : World} {b o : Nat} {bs : List UInt8} (h : RdB w b o bs) {p q : Nat} {v : Value} (hp : p ≠ b) : RdB (w.setCell ⟨p, q, none⟩ v) b o bs :=
  fun i hi => by rw [cs_ne hp]; exact h i hi
theorem RdB.below {w w' : World} {B b o : Nat} {bs : List UInt8} (h : RdB w b o bs) (hb : Below B w w') (hB : b < B) : RdB w' b o bs :=
  fun i hi => by rw [hb.cell (p := ⟨b, o + i, none⟩) hB]; exact h i hi
theorem RdB.lt {w : World} {b o : Nat} {bs : List UInt8} (h : RdB w b o bs) (hn : bs ≠ []) : b < w.heap.size := by
  cases bs with
  | nil => exact absurd rfl hn
  | cons x r => exact World.block_lt_of_cell? w ⟨b, o + 0, none⟩ (h 0 (by simp))
theorem drop_getD (bs : List UInt8) (k : Nat) (hk : k < bs.length) : bs.drop k = bs.getD k 0 :: bs.drop (k+1) := by
  rw [List.drop_eq_getElem_cons hk, List.getD_eq_getElem?_getD, List.getElem?_eq_getElem hk]; rfl
/-- a slice of bytes that the call itself has made -/
def OwnB (w : World) (base : Nat) (e : TypeId) (v : Value) (l : List UInt8) : Prop := w.ownsRow base e 1 v l.length (l.map u8)
theorem OwnB.nil (w : World) (base : Nat) (e : TypeId) : OwnB w base e (.slice none 0 0) [] := World.ownsRow_nil w base e 1
theorem OwnB.below {w w' : World} {base B : Nat} {e : TypeId} {v : Value} {l : List UInt8} (h : OwnB w base e v l) (hb : Below B w w') (hv : ∀ k, v.ownBlock = some k → k < B) : OwnB w' base e v l := by
  refine ⟨h.1, ?_⟩
  rcases h.2 with hn | ⟨g, cap, cur, rfl, hbg, hgg, rest⟩
  · exact .inl hn
  · exact .inr ⟨g, cap, cur, rfl, hbg, by rw [hb.block g (hv g rfl)]; exact hgg, rest⟩
theorem OwnB.setCell {w : World} {base : Nat} {e : TypeId} {v : Value} {l : List UInt8} (h : OwnB w base e v l) {p q : Nat} (hp : p < base) (u : Value) : OwnB (w.setCell ⟨p, q, none⟩ u) base e v l :=
  ownsRow_setCell_below h (a := ⟨p, q, none⟩) hp u
theorem OwnB.shape {w : World} {base : Nat} {e : TypeId} {v : Value} {l : List UInt8} (h : OwnB w base e v l) :
    (v = .slice none 0 0 ∧ l = []) ∨ ∃ g cap, v = .slice (some ⟨g, 0, none⟩) l.length cap ∧ base ≤ g ∧ g < w.heap.size ∧ l.length ≤ cap ∧ cap ≤ maxLen ∧ RdB w g 0 l := by
  have hc := fun g (hg : v.ownBlock = some g) => World.ownsRow.cells h hg
  have hl := World.ownsRow.lt h
  rcases h.2 with ⟨rfl, h0⟩ | ⟨g, cap, cur, rfl, hbg, hgg, hn, hm, hs, ht⟩
  · exact .inl ⟨rfl, List.eq_nil_of_length_eq_zero h0⟩
  · refine .inr ⟨g, cap, rfl, hbg, (hl g rfl).2, hn, hm, fun i hi => ?_⟩
    have := hc g rfl i (u8 (l.getD i 0)) (by simp [List.getElem?_map, List.getElem?_eq_getElem hi])
    have e : (⟨g, 0, none⟩ : Addr).add i = ⟨g, 0 + i, none⟩ := by unfold Addr.add; split <;> simp_all
    rw [e] at this; exact this
theorem OwnB.any_base {w : World} {base base' : Nat} {e : TypeId} {v : Value} {l : List UInt8} (h : OwnB w base e v l) (hb : base' ≤ base) : OwnB w base' e v l := by
  refine ⟨h.1, ?_⟩
  rcases h.2 with hn | ⟨g, cap, cur, rfl, hbg, rest⟩
  · exact .inl hn
  · exact .inr ⟨g, cap, cur, rfl, by omega, rest⟩
/-- 'append(out, x)' of one byte onto a slice of the call's own -/
theorem append_byte {P : Program} (w : World) {ops : Array Oper} {rest : List Oper} {o : Oper} {a : Act} {Q : Exit → Act → World → Prop} (hgd : o.guard = none) (s x : Operand) (t e : TypeId)
    (ho : o.op = .call { callee := .builtin .append, args := #[s, x], argTypes := #[t, t] })
    (ht : P.underlying t = some (.slice e)) (hi : (P.info? e).map (fun i => (i.zero, i.size, i.bytes)) = some (some (.int .u8 0), 1, 1))
    (base : Nat) (v : Value) (l : List UInt8) (b : UInt8) (hs : a.eval s = v) (hown : OwnB w base e v l) (g c : Nat) (hx : a.eval x = .slice (some ⟨g, 0, none⟩) 1 c)
    (hcell : w.cell? ⟨g, 0, none⟩ = some (u8 b)) (hlen : l.length + 1 ≤ 140737488355328) (hB : base ≤ w.heap.size)
    (h : ∀ v' w', OwnB w' base e v' (l ++ [b]) → Below base w w' → wpList P ops Q rest (a.put o.dst v') w') : wpList P ops Q (o :: rest) a w := by
  obtain ⟨i0, hi0, hz0, hz1, hz2⟩ := info_parts hi
  refine wpList_append_own w hgd s x t ho base e i0 _ 1 1 ht hi0 hz0 hz1 hz2 rfl (by decide) v l.length _ hs hown ⟨g, 0, none⟩ 1 c [u8 b] hx rfl ?_ ?_ ?_ ?_ hB ?_
  · intro j u hj
    match j, hj with
    | 0, hj => simp at hj; subst hj; simpa [Addr.add] using hcell
  · intro u hu; simp at hu; subst hu; rfl
  · unfold maxLen; omega
  · omega
  · intro v' w' ho' hg' _
    refine h v' w' ?_ ?_
    · unfold OwnB; simpa using ho'
    · exact (Below.refl base w).grown hg' hB (fun k hk => (World.ownsRow.lt hown k hk).1)
/-- a value that reads as these bytes, in blocks below B -/
def SlB (w : World) (B : Nat) (v : Value) (bs : List UInt8) : Prop :=
  ∃ oa cap, v = .slice oa bs.length cap ∧ bs.length ≤ cap ∧ cap ≤ maxLen ∧ (bs ≠ [] → ∃ bb bo, oa = some ⟨bb, bo, none⟩ ∧ bb < B ∧ RdB w bb bo bs)
theorem SlB.below {w w' : World} {B B' : Nat} {v : Value} {bs : List UInt8} (h : SlB w B v bs) (hb : Below B' w w') (hB : B ≤ B') : SlB w' B v bs := by
  obtain ⟨oa, cap, rfl, h1, h2, h3⟩ := h
  refine ⟨oa, cap, rfl, h1, h2, fun hn => ?_⟩
  obtain ⟨bb, bo, rfl, hl, hr⟩ := h3 hn
  exact ⟨bb, bo, rfl, hl, hr.below hb (by omega)⟩
theorem SlB.mono {w : World} {B B' : Nat} {v : Value} {bs : List UInt8} (h : SlB w B v bs) (hB : B ≤ B') : SlB w B' v bs := by
  obtain ⟨oa, cap, rfl, h1, h2, h3⟩ := h
  refine ⟨oa, cap, rfl, h1, h2, fun hn => ?_⟩
  obtain ⟨bb, bo, rfl, hl, hr⟩ := h3 hn
  exact ⟨bb, bo, rfl, by omega, hr⟩
theorem SlB.setCell {w : World} {B : Nat} {v : Value} {bs : List UInt8} (h : SlB w B v bs) {p q : Nat} (u : Value) (hp : B ≤ p) : SlB (w.setCell ⟨p, q, none⟩ u) B v bs :=
  h.below ((Below.refl B w).setCell (p := ⟨p, q, none⟩) hp u) (Nat.le_refl _)
theorem SlB.nil (w : World) (B : Nat) : SlB w B (.slice none 0 0) [] := ⟨none, 0, rfl, by simp, by simp [maxLen], fun h => absurd rfl h⟩
theorem OwnB.slB {w : World} {base : Nat} {e : TypeId} {v : Value} {l : List UInt8} (h : OwnB w base e v l) : SlB w w.heap.size v l := by
  rcases h.shape with ⟨rfl, rfl⟩ | ⟨g, cap, rfl, h1, h2, h3, h4, h5⟩
  · exact SlB.nil _ _
  · exact ⟨_, cap, rfl, h3, h4, fun _ => ⟨g, 0, rfl, h2, h5⟩⟩
theorem len_sl {P : Program} {t ty e : TypeId} (ht : P.underlying t = some (.slice e)) {v : Value} {oa : Option Addr} {n c : Nat} (hv : v = .slice oa n c) (w : World) :
    (Builtin.len_ #[t] ty #[v]).run P w = .ok (.int .i64 n) w := by
  subst hv
  cases oa <;> simp [Builtin.len_, run_underlying ht, go_sem]
theorem len_own {P : Program} {t ty e : TypeId} (ht : P.underlying t = some (.slice e)) {w0 : World} {base : Nat} {v : Value} {l : List UInt8} (h : OwnB w0 base e v l) (w : World) :
    (Builtin.len_ #[t] ty #[v]).run P w = .ok (.int .i64 l.length) w := by
  rcases h.shape with ⟨rfl, rfl⟩ | ⟨g, cap, rfl, h1, h2, h3, h4, h5⟩
  · exact len_sl ht rfl w
  · exact len_sl ht rfl w
theorem OwnB.alloc {w : World} {base : Nat} {e : TypeId} {v : Value} {l : List UInt8} (h : OwnB w base e v l) (o : Obj) : OwnB (w.alloc o) base e v l := World.ownsRow.alloc h o
theorem cell_alloc1 (w : World) (v : Value) (e : TypeId) : (w.alloc (.cells #[v] e)).cell? ⟨w.heap.size, 0, none⟩ = some v := by go_simp
theorem OwnB.at {w : World} {base : Nat} {e : TypeId} {v : Value} {l : List UInt8} (h : OwnB w base e v l) (i : Nat) (hi : i < l.length) :
    ∃ g cap, v = .slice (some ⟨g, 0, none⟩) l.length cap ∧ base ≤ g ∧ l.length ≤ cap ∧ cap ≤ maxLen ∧ w.cell? ⟨g, i, none⟩ = some (u8 (l.getD i 0)) := by
  rcases h.shape with ⟨rfl, rfl⟩ | ⟨g, cap, rfl, h1, h2, h3, h4, h5⟩
  · simp at hi
  · exact ⟨g, cap, rfl, h1, h3, h4, by have := h5 i hi; rwa [Nat.zero_add] at this⟩
theorem or_hi (lo hi : Nat) (h1 : lo < 256) (h2 : hi < 256) : bits .or .i64 (lo : Int) ((hi : Int) * 256) = ((lo + 256 * hi : Nat) : Int) := by
  have e : ∀ n : Nat, n < 65536 → (BitVec.ofInt 64 (n:Int)).toNat = n := by
    intro n hn; simp [BitVec.toNat_ofInt]; omega
  have e2 : lo ||| hi * 256 = lo + 256 * hi := by
    have := Nat.shiftLeft_add_eq_or_of_lt (i := 8) (b := lo) (by omega) hi
    rw [Nat.shiftLeft_eq] at this
    rw [Nat.or_comm]
    exact this.symm.trans (by omega)
  rw [show (hi : Int) * 256 = ((hi * 256 : Nat) : Int) by simp]
  have e3 : (BitVec.ofInt 64 (lo:Int) ||| BitVec.ofInt 64 ((hi * 256 : Nat) : Int)).toNat = lo + 256 * hi := by
    rw [BitVec.toNat_or, e lo (by omega), e (hi * 256) (by omega), e2]
  show IntKind.i64.wrap ((BitVec.ofInt 64 (lo:Int) ||| BitVec.ofInt 64 ((hi * 256 : Nat) : Int)).toNat : Int) = _
  rw [e3]
  simp [IntKind.wrap, IntKind.bits, IntKind.signed]
  omega
end Go.Mx
namespace Go.Mx
open Go.RowKit
theorem conv_sl {P : Program} {src dst e : TypeId} (hs : P.underlying src = some (.slice e)) (he : P.underlying e = some (.int .u8)) (hd : P.underlying dst = some .string)
    {w : World} {B : Nat} {v : Value} {bs : List UInt8} (h : SlB w B v bs) : (convert src dst v).run P w = .ok (.string ⟨bs.toArray⟩) w := by
  obtain ⟨oa, cap, rfl, h1, h2, h3⟩ := h
  cases oa with
  | none =>
    by_cases hb : bs = []
    · subst hb; exact run_convert_bytes_nil w src e hs he _ _ dst hd
    · obtain ⟨bb, bo, hh, _⟩ := h3 hb; cases hh
  | some a =>
    refine run_convert_bytes_back w src dst e a cap bs hs he hd ?_
    intro j hj
    obtain ⟨bb, bo, hh, _, hr⟩ := h3 (by rintro rfl; simp at hj)
    cases hh
    have := hr j hj
    have e : (⟨bb, bo, none⟩ : Addr).add j = ⟨bb, bo + j, none⟩ := by unfold Addr.add; split <;> simp_all
    rw [e, this]
    simp [List.getElem?_eq_getElem hj]
theorem sl_lit (w : World) (l : List UInt8) (e : TypeId) (hl : l.length ≤ maxLen) : SlB (w.alloc (.cells (l.map u8).toArray e)) (w.heap.size + 1) (.slice (some ⟨w.heap.size, 0, none⟩) l.length l.length) l := by
  refine ⟨_, _, rfl, Nat.le_refl _, hl, fun _ => ⟨w.heap.size, 0, rfl, by omega, fun i hi => ?_⟩⟩
  rw [World.cell?_alloc_at (l.map u8).toArray e w.heap.size (0 + i) rfl, Nat.zero_add]
  simp [List.getElem?_eq_getElem hi]
/-- what came in as a slice of bytes -/
def IsRow (k : IntKind) (w : World) (a : Option Addr) (len cap : Nat) (zs : List Int) : Prop :=
  (a = none ∧ len = 0 ∧ cap = 0 ∧ zs = []) ∨
  ∃ x, a = some x ∧ len ≤ cap ∧ cap ≤ maxLen ∧ zs.length = cap ∧ (∀ i, i < zs.length → w.cell? (x.add i) = some (.int k (zs.getD i 0))) ∧ ∀ n ∈ zs, (Lit.int k n).wf = true
theorem wf_u8 {n : Int} (h : (Lit.int .u8 n).wf = true) : 0 ≤ n ∧ n ≤ 255 := by
  simpa [Lit.wf, IntKind.min, IntKind.max, IntKind.signed, IntKind.bits] using h
theorem IsRow.slB {w : World} {a : Option Addr} {len cap : Nat} {zs : List Int} (h : IsRow .u8 w a len cap zs) : ∃ bs : List UInt8, bs.length = len ∧ SlB w w.heap.size (.slice a len cap) bs := by
  rcases h with ⟨rfl, rfl, rfl, rfl⟩ | ⟨x, rfl, h1, h2, h3, h4, h5⟩
  · exact ⟨[], rfl, SlB.nil _ _⟩
  · have hl : ((zs.take len).map (fun n => UInt8.ofNat n.toNat)).length = len := by simp; omega
    refine ⟨(zs.take len).map (fun n => UInt8.ofNat n.toNat), hl, some x, cap, by rw [hl], by omega, h2, fun hn => ?_⟩
    have hlen : 0 < len := by
      rw [← hl]; exact List.length_pos_iff.2 hn
    have hsp : x.spot = none := by
      have := h4 0 (by omega)
      unfold World.cell? at this
      split at this
      · split at this
        · cases this
        · rename_i hs
          cases hx : x.spot with
          | none => rfl
          | some sp => simp [Addr.add, hx] at hs
      · cases this
    have hadd : ∀ i, x.add i = ⟨x.block, x.off + i, none⟩ := by
      intro i
      obtain ⟨b, o, s⟩ := x
      simp only at hsp
      subst hsp
      unfold Addr.add; split <;> simp_all
    refine ⟨x.block, x.off, by obtain ⟨b, o, s⟩ := x; simp only at hsp; subst hsp; rfl, ?_, ?_⟩
    · have := h4 0 (by omega)
      exact World.block_lt_of_cell? w (x.add 0) this |> fun h => by rw [hadd] at h; exact h
    · intro i hi
      rw [hl] at hi
      have := h4 i (by omega)
      rw [hadd] at this
      rw [this]
      have hz : zs.getD i 0 ∈ zs := by
        rw [List.getD_eq_getElem?_getD, List.getElem?_eq_getElem (by omega : i < zs.length)]
        exact List.getElem_mem _
      have hw := wf_u8 (h5 _ hz)
      have e : ((zs.take len).map (fun n => UInt8.ofNat n.toNat)).getD i 0 = UInt8.ofNat (zs.getD i 0).toNat := by
        simp [List.getD_eq_getElem?_getD, List.getElem?_take, hi, List.getElem?_eq_getElem (by omega : i < zs.length)]
      rw [e]
      congr 2
      rw [UInt8.toNat_ofNat']
      omega
end Go.Mx
namespace Go.Mx
open Go.RowKit
theorem run_append_nosrc {P : Program} {w : World} {base : Nat} {t ty e : TypeId} {i : TypeInfo} {size : Nat} (ht : P.underlying t = some (.slice e)) (hi : P.info? e = some i)
    {v : Value} {n : Nat} {xs : List Value} (hown : w.ownsRow base e size v n xs) (c : Nat) : (Builtin.append_ #[t, t] ty #[v, .slice none 0 c]).run P w = .ok v w := by
  rcases hown.2 with ⟨rfl, rfl⟩ | ⟨g, cap, cur, rfl, _, _, hnc, _⟩
  · simp [Builtin.append_, run_underlying ht, sizeOf, typeInfo, hi, Builtin.lenOf, Builtin.firstCells]
  · simp [Builtin.append_, run_underlying ht, sizeOf, typeInfo, hi, Builtin.lenOf, Builtin.firstCells, hnc, storeCells]
/-- 'append(out, xs...)' onto a slice of bytes of the call's own, from whatever reads -/
theorem append_sl {P : Program} (w : World) {ops : Array Oper} {rest : List Oper} {o : Oper} {a : Act} {Q : Exit → Act → World → Prop} (hgd : o.guard = none) (s x : Operand) (t e : TypeId)
    (ho : o.op = .call { callee := .builtin .append, args := #[s, x], argTypes := #[t, t] })
    (ht : P.underlying t = some (.slice e)) (hi : (P.info? e).map (fun i => (i.zero, i.size, i.bytes)) = some (some (.int .u8 0), 1, 1))
    (base : Nat) (v : Value) (l : List UInt8) (hs : a.eval s = v) (hown : OwnB w base e v l) (xv : Value) (bs : List UInt8) (B : Nat) (hx : a.eval x = xv) (hsl : SlB w B xv bs)
    (hlen : l.length + bs.length ≤ 140737488355328) (hB : base ≤ w.heap.size)
    (h : ∀ v' w', OwnB w' base e v' (l ++ bs) → Below base w w' → wpList P ops Q rest (a.put o.dst v') w') : wpList P ops Q (o :: rest) a w := by
  obtain ⟨i0, hi0, hz0, hz1, hz2⟩ := info_parts hi
  obtain ⟨oa, cap, rfl, h1, h2, h3⟩ := hsl
  cases oa with
  | none =>
    have hb : bs = [] := by
      cases bs with
      | nil => rfl
      | cons y r => obtain ⟨_, _, hh, _⟩ := h3 (by simp); cases hh
    subst hb
    refine wpList_plain hgd fun K hK => ?_
    have hrun := run_append_nosrc (P := P) (w := w) (ty := o.type) ht hi0 hown cap
    unfold Oper.wp
    simp [execOp, ho, resolve, invoke, builtin, hs, hx, hrun, Result.andThen]
    exact hK _ _ (h v w (by simpa using hown) (Below.refl _ _))
  | some ad =>
    refine wpList_append_own w hgd s x t ho base e i0 _ 1 1 ht hi0 hz0 hz1 hz2 rfl (by decide) v l.length _ hs hown ad bs.length cap (bs.map u8) hx (by simp) ?_ ?_ ?_ ?_ hB ?_
    · intro j u hj
      simp only [List.getElem?_map] at hj
      cases hb : bs[j]? with
      | none => rw [hb] at hj; cases hj
      | some y =>
        rw [hb] at hj
        simp only [Option.map_some, Option.some.injEq] at hj
        subst hj
        have hjl : j < bs.length := (List.getElem?_eq_some_iff.1 hb).1
        obtain ⟨bb, bo, hh, _, hr⟩ := h3 (by rintro rfl; simp at hjl)
        cases hh
        have e : (⟨bb, bo, none⟩ : Addr).add j = ⟨bb, bo + j, none⟩ := by unfold Addr.add; split <;> simp_all
        rw [e, hr j hjl, List.getD_eq_getElem?_getD, hb]
        rfl
    · intro u hu; simp at hu; obtain ⟨y, _, rfl⟩ := hu; rfl
    · unfold maxLen; omega
    · omega
    · intro v' w' ho' hg' _
      refine h v' w' ?_ ?_
      · unfold OwnB; simpa using ho'
      · exact (Below.refl base w).grown hg' hB (fun k hk => (World.ownsRow.lt hown k hk).1)
theorem cell_u8 (w : World) (X : Int) (b : UInt8) (e : TypeId) (h : X = b.toNat) : (w.alloc (.cells #[.int .u8 X] e)).cell? ⟨w.heap.size, 0, none⟩ = some (u8 b) := by
  subst h; exact cell_alloc1 _ _ _
theorem sl2 (w : World) (X Y : Int) (x y : UInt8) (e : TypeId) (hx : X = x.toNat) (hy : Y = y.toNat) :
    SlB (w.alloc (.cells #[.int .u8 X, .int .u8 Y] e)) (w.heap.size + 1) (.slice (some ⟨w.heap.size, 0, none⟩) 2 2) [x, y] := by
  subst hx; subst hy; exact sl_lit w [x, y] e (by simp [maxLen])
theorem OwnB.lt {w : World} {base : Nat} {e : TypeId} {v : Value} {l : List UInt8} (h : OwnB w base e v l) : ∀ k, v.ownBlock = some k → k < w.heap.size := fun k hk => (World.ownsRow.lt h k hk).2
theorem wf_u16 {n : Int} (h : (Lit.int .u16 n).wf = true) : 0 ≤ n ∧ n ≤ 65535 := by
  simpa [Lit.wf, IntKind.min, IntKind.max, IntKind.signed, IntKind.bits] using h
theorem own_empty (w : World) (e : TypeId) : OwnB (w.alloc (.cells #[] e)) w.heap.size e (.slice (some ⟨w.heap.size, 0, none⟩) 0 0) [] :=
  World.ownsRow_made w #[] 0 (Nat.le_refl _) (by simp [maxLen]) (by simp)
end Go.Mx
namespace Go.Mx
open Go.RowKit
theorem heap_setCell_at (w : World) (g i : Nat) (u : Value) (cur : Array Value) (e : TypeId) (fr : Nat × Nat) (h : w.heap[g]? = some (.cells cur e fr)) :
    (w.setCell ⟨g, i, none⟩ u).heap[g]? = some (.cells (cur.setIfInBounds i u) e fr) := by
  unfold World.setCell
  simp [Array.getElem?_modify, h]
/-- a store into a slice of bytes of the call's own -/
theorem OwnB.store {w : World} {base : Nat} {e : TypeId} {g n c : Nat} {l : List UInt8} (h : OwnB w base e (.slice (some ⟨g, 0, none⟩) n c) l) (i : Nat) (b : UInt8) :
    OwnB (w.setCell ⟨g, i, none⟩ (u8 b)) base e (.slice (some ⟨g, 0, none⟩) n c) (l.set i b) ∨ l.length ≤ i := by
  rcases Nat.lt_or_ge i l.length with hi | hi
  · left
    rcases h with ⟨h1, h2 | ⟨g', cap, cur, hv, hb, hg, hn, hm, hs, ht⟩⟩
    · obtain ⟨hv, _⟩ := h2; cases hv
    · cases hv
      refine ⟨by simp, .inr ⟨g, _, cur.setIfInBounds i (u8 b), by simp, hb, heap_setCell_at w g i _ cur e _ hg, by simpa using hn, hm, by simpa using hs, ?_⟩⟩
      rw [Array.toList_setIfInBounds, List.take_set, List.length_set, ht, List.map_set]
  · exact .inr hi
theorem OwnB.fz {w : World} {base : Nat} {e : TypeId} {g n c : Nat} {l : List UInt8} (h : OwnB w base e (.slice (some ⟨g, 0, none⟩) n c) l) (i : Nat) : w.frozen? ⟨g, i, none⟩ = false := by
  rcases h with ⟨h1, h2 | ⟨g', cap, cur, hv, hb, hg, _⟩⟩
  · obtain ⟨hv, _⟩ := h2; cases hv
  · cases hv
    simp [World.frozen?, hg]
theorem OwnB.cellAt {w : World} {base : Nat} {e : TypeId} {g n c : Nat} {l : List UInt8} (h : OwnB w base e (.slice (some ⟨g, 0, none⟩) n c) l) (i : Nat) (hi : i < l.length) : w.cell? ⟨g, i, none⟩ = some (u8 (l.getD i 0)) := by
  obtain ⟨g', c', hv, _, _, _, hc⟩ := h.at i hi
  simp only [Value.slice.injEq, Option.some.injEq, Addr.mk.injEq] at hv
  obtain ⟨⟨rfl, _⟩, _, _⟩ := hv
  exact hc
theorem wf_u32 {n : Int} (h : (Lit.int .u32 n).wf = true) : ∃ s : BitVec 32, n = s.toNat := by
  have h : 0 ≤ n ∧ n ≤ 4294967295 := by simpa [Lit.wf, IntKind.min, IntKind.max, IntKind.signed, IntKind.bits] using h
  obtain ⟨m, rfl⟩ := Int.eq_ofNat_of_zero_le h.1
  exact ⟨BitVec.ofNat 32 m, by rw [BitVec.toNat_ofNat]; omega⟩
theorem wf_u8' {n : Int} (h : (Lit.int .u8 n).wf = true) : ∃ s : UInt8, n = s.toNat := by
  have h := wf_u8 h
  obtain ⟨m, rfl⟩ := Int.eq_ofNat_of_zero_le h.1
  exact ⟨UInt8.ofNat m, by rw [UInt8.toNat_ofNat']; omega⟩
/-- 'make([]byte, n)' -/
theorem make_bytes {P : Program} (w : World) {ops : Array Oper} {rest : List Oper} {o : Oper} {a : Act} {Q : Exit → Act → World → Prop} (hg : o.guard = none) (l c : Operand) (t e : TypeId)
    (hop : o.op = Op.makeSlice t l c) (ht : P.underlying t = some (.slice e)) (hi : (P.info? e).map (fun i => (i.zero, i.size, i.bytes)) = some (some (.int .u8 0), 1, 1))
    (base : Nat) (kl kc : IntKind) (L C : Int) (n : Nat) (hl : a.eval l = .int kl L) (hc : a.eval c = .int kc C) (hL : L = (n : Int)) (hC : C = (n : Int)) (hn : n ≤ 140737488355328) (hB : base ≤ w.heap.size)
    (h : ∀ v w', OwnB w' base e v (List.replicate n 0) → Below w.heap.size w w' → v = .slice (some ⟨w.heap.size, 0, none⟩) n n → wpList P ops Q rest (a.put o.dst v) w') : wpList P ops Q (o :: rest) a w := by
  obtain ⟨i0, hi0, hz0, hz1, hz2⟩ := info_parts hi
  refine wpList_make_full w hg l c t hop base e i0 _ 1 ht hi0 hz0 hz1 kl kc L C n hl hc hL hC (by rw [hz2]; omega) (by unfold maxLen; omega) hB ?_
  intro w' ho hgr
  refine h _ w' ?_ ⟨hgr.os, hgr.tape, hgr.output, hgr.size, fun k hk => hgr.block k hk (by simp)⟩ rfl
  unfold OwnB
  have e1 : (madeCells (Value.int .u8 0).cells (n * 1)).toList = (List.replicate n (0 : UInt8)).map u8 := by
    rw [show (Value.int .u8 0).cells = #[Value.int .u8 0] from rfl, toList_madeCells_one]
    simp
  rw [e1] at ho
  simpa using ho
end Go.Mx
namespace Go.Mx
open Go.RowKit
theorem RdB.cut {w : World} {b o : Nat} {bs : List UInt8} (h : RdB w b o bs) (lo hi : Nat) : RdB w b (o + lo) ((bs.take hi).drop lo) := by
  intro i hi'
  simp only [List.length_drop, List.length_take] at hi'
  have e : o + lo + i = o + (lo + i) := by omega
  rw [e, h.at (k := lo + i) (by omega)]
  congr 2
  simp only [List.getD_eq_getElem?_getD, List.getElem?_drop, List.getElem?_take]
  rw [if_pos (by omega)]
theorem SlB.cut {w : World} {B n cap : Nat} {oa : Option Addr} {bs : List UInt8} (h : SlB w B (.slice oa n cap) bs) (lo hi : Nat) (h1 : lo ≤ hi) (h2 : hi ≤ bs.length) : SlB w B (sliced oa lo hi cap 1) ((bs.take hi).drop lo) := by
  obtain ⟨oa', cap', he, hc, hm, hr⟩ := h
  cases he
  have hl : ((bs.take hi).drop lo).length = hi - lo := by simp; omega
  unfold sliced
  refine ⟨_, _, by rw [hl], by rw [hl]; omega, by omega, fun hn => ?_⟩
  have hlt : lo < hi := by
    rcases Nat.lt_or_ge lo hi with h | h
    · exact h
    · exact absurd (List.eq_nil_of_length_eq_zero (by rw [hl]; omega)) hn
  obtain ⟨bb, bo, rfl, hlb, hrd⟩ := hr (by rintro rfl; simp at h2; omega)
  refine ⟨bb, bo + lo, ?_, hlb, hrd.cut lo hi⟩
  rw [if_neg (by omega)]
  simp [Addr.add]
theorem SlB.len {w : World} {B : Nat} {v : Value} {bs : List UInt8} (h : SlB w B v bs) {P : Program} {t e ty : TypeId} (ht : P.underlying t = some (.slice e)) (w' : World) :
    (Builtin.len_ #[t] ty #[v]).run P w' = .ok (.int .i64 bs.length) w' := by
  obtain ⟨oa', cap', rfl, _⟩ := h
  exact len_sl ht rfl w'
section
variable {w : World} {B : Nat} {v : Value} {bs : List UInt8} {P : Program} {t e : TypeId}
/-- 'b[:hi]' -/
theorem SlB.to (h : SlB w B v bs) (ht : P.underlying t = some (.slice e)) (hs : ∀ w, (sizeOf e).run P w = .ok 1 w) (hi : Nat) (h2 : hi ≤ bs.length) :
    ∃ v', SlB w B v' (bs.take hi) ∧ ∀ w' (k : IntKind), (Instr.slice t v none (some (.int k (hi : Int))) none).run P w' = .ok v' w' := by
  obtain ⟨oa', cap', rfl, hc, hm, hr⟩ := id h
  have ht' : P.underlying t = some (.slice (P.elem t)) := by rw [ht]; simp [Program.elem, ht]
  have hel : P.elem t = e := by simp [Program.elem, ht]
  refine ⟨sliced oa' 0 hi cap' 1, by simpa using h.cut 0 hi (Nat.zero_le _) h2, fun w' k => ?_⟩
  rw [run_slice_h (h := (hi : Int)) (ht := ht') (h0 := by omega) (h2 := by omega), hel, hs]
  simp [Result.andThen]
/-- 'b[lo:]' -/
theorem SlB.from (h : SlB w B v bs) (ht : P.underlying t = some (.slice e)) (hs : ∀ w, (sizeOf e).run P w = .ok 1 w) (lo : Nat) (h2 : lo ≤ bs.length) :
    ∃ v', SlB w B v' (bs.drop lo) ∧ ∀ w' (k : IntKind), (Instr.slice t v (some (.int k (lo : Int))) none none).run P w' = .ok v' w' := by
  obtain ⟨oa', cap', rfl, hc, hm, hr⟩ := id h
  have ht' : P.underlying t = some (.slice (P.elem t)) := by rw [ht]; simp [Program.elem, ht]
  have hel : P.elem t = e := by simp [Program.elem, ht]
  refine ⟨sliced oa' lo bs.length cap' 1, by simpa using h.cut lo bs.length h2 (Nat.le_refl _), fun w' k => ?_⟩
  rw [run_slice_l (l := (lo : Int)) (ht := ht') (h0 := by omega) (h1 := by omega), hel, hs]
  simp [Result.andThen]
/-- 'b[lo:hi]' -/
theorem SlB.part (h : SlB w B v bs) (ht : P.underlying t = some (.slice e)) (hs : ∀ w, (sizeOf e).run P w = .ok 1 w) (lo hi : Nat) (h1 : lo ≤ hi) (h2 : hi ≤ bs.length) :
    ∃ v', SlB w B v' ((bs.take hi).drop lo) ∧ ∀ w' (k k' : IntKind), (Instr.slice t v (some (.int k (lo : Int))) (some (.int k' (hi : Int))) none).run P w' = .ok v' w' := by
  obtain ⟨oa', cap', rfl, hc, hm, hr⟩ := id h
  have ht' : P.underlying t = some (.slice (P.elem t)) := by rw [ht]; simp [Program.elem, ht]
  have hel : P.elem t = e := by simp [Program.elem, ht]
  refine ⟨sliced oa' lo hi cap' 1, h.cut lo hi h1 h2, fun w' k k' => ?_⟩
  rw [run_slice_lh (l := (lo : Int)) (h := (hi : Int)) (ht := ht') (h0 := by omega) (h1 := by omega) (h2 := by omega), hel, hs]
  simp [Result.andThen]
end
theorem idx (a : Int) (n : Nat) (hn : 0 < n) : ∃ k : Nat, k < n ∧ (IntKind.u64.wrap a).tmod (n : Int) = (k : Int) := by
  rw [IntKind.wrap_u64, tmod_of_emod]
  have h1 := Int.emod_nonneg (a % 18446744073709551616) (show (n : Int) ≠ 0 by omega)
  have h2 := Int.emod_lt_of_pos (a % 18446744073709551616) (show (0 : Int) < n by omega)
  obtain ⟨k, hk⟩ := Int.eq_ofNat_of_zero_le h1
  exact ⟨k, by omega, hk⟩
end Go.Mx
namespace Go.Mx
open Go.RowKit
/-- 'b[i]': its place, and what stands there -/
theorem SlB.addr {w : World} {B : Nat} {v : Value} {bs : List UInt8} {P : Program} {t e : TypeId} (h : SlB w B v bs) (ht : P.underlying t = some (.slice e)) (hs : ∀ w, (sizeOf e).run P w = .ok 1 w) (i : Nat) (hi : i < bs.length) :
    ∃ b o, b < B ∧ (∀ w' (k : IntKind), (Instr.indexAt t v (.int k (i : Int))).run P w' = .ok (.pointer (some ⟨b, o, none⟩)) w') ∧ w.cell? ⟨b, o, none⟩ = some (u8 (bs.getD i 0)) := by
  obtain ⟨oa', cap', rfl, hc, hm, hr⟩ := id h
  have ht' : P.underlying t = some (.slice (P.elem t)) := by rw [ht]; simp [Program.elem, ht]
  have hel : P.elem t = e := by simp [Program.elem, ht]
  obtain ⟨bb, bo, rfl, hlb, hrd⟩ := hr (by rintro rfl; simp at hi)
  refine ⟨bb, bo + i, hlb, fun w' k => ?_, hrd.at hi⟩
  rw [run_indexAt_slice (h := ht'), if_pos (by omega), hel, hs]
  simp [Result.andThen, Addr.add]
end Go.Mx
