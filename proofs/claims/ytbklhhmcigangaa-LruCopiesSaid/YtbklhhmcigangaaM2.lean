import Derived.Test.YtbklhhmcigangaaM
import Derived.Laws.IdiomStrings
import Derived.Laws.BytesArg
namespace Go.Mx
open Go.RowKit

theorem conv_sl {P : Program} {src dst e : TypeId} (hs : P.underlying src = some (.slice e)) (he : P.underlying e = some (.int .u8)) (hd : P.underlying dst = some .string)
    {w : World} {B : Nat} {v : Value} {bs : List UInt8} (h : SlB w B v bs) : (convert src dst v).run P w = .ok (.string ⟨bs.toArray⟩) w := by
  obtain ⟨oa, cap, rfl, h1, h2, h3⟩ := h
  cases oa with
  | none =>
    by_cases hb : bs = []
    · subst hb; exact run_convert_bytes_nil w src e hs he _ _ dst hd
    · obtain ⟨bb, bo, hh, _⟩ := h3 hb; cases hh
  | some a =>
    refine run_convert_bytes_back w src dst e a cap bs hs he hd ?_
    intro j hj
    obtain ⟨bb, bo, hh, _, hr⟩ := h3 (by rintro rfl; simp at hj)
    cases hh
    have := hr j hj
    have e : (⟨bb, bo, none⟩ : Addr).add j = ⟨bb, bo + j, none⟩ := by unfold Addr.add; split <;> simp_all
    rw [e, this]
    simp [List.getElem?_eq_getElem hj]

theorem sl_lit (w : World) (l : List UInt8) (e : TypeId) (hl : l.length ≤ maxLen) : SlB (w.alloc (.cells (l.map u8).toArray e)) (w.heap.size + 1) (.slice (some ⟨w.heap.size, 0, none⟩) l.length l.length) l := by
  refine ⟨_, _, rfl, Nat.le_refl _, hl, fun _ => ⟨w.heap.size, 0, rfl, by omega, fun i hi => ?_⟩⟩
  rw [World.cell?_alloc_at (l.map u8).toArray e w.heap.size (0 + i) rfl, Nat.zero_add]
  simp [List.getElem?_eq_getElem hi]

/-- what came in as a slice of bytes -/
def IsRow (k : IntKind) (w : World) (a : Option Addr) (len cap : Nat) (zs : List Int) : Prop :=
  (a = none ∧ len = 0 ∧ cap = 0 ∧ zs = []) ∨
  ∃ x, a = some x ∧ len ≤ cap ∧ cap ≤ maxLen ∧ zs.length = cap ∧ (∀ i, i < zs.length → w.cell? (x.add i) = some (.int k (zs.getD i 0))) ∧ ∀ n ∈ zs, (Lit.int k n).wf = true

theorem wf_u8 {n : Int} (h : (Lit.int .u8 n).wf = true) : 0 ≤ n ∧ n ≤ 255 := by
  simpa [Lit.wf, IntKind.min, IntKind.max, IntKind.signed, IntKind.bits] using h

theorem IsRow.slB {w : World} {a : Option Addr} {len cap : Nat} {zs : List Int} (h : IsRow .u8 w a len cap zs) : ∃ bs : List UInt8, bs.length = len ∧ SlB w w.heap.size (.slice a len cap) bs := by
  rcases h with ⟨rfl, rfl, rfl, rfl⟩ | ⟨x, rfl, h1, h2, h3, h4, h5⟩
  · exact ⟨[], rfl, SlB.nil _ _⟩
  · have hl : ((zs.take len).map (fun n => UInt8.ofNat n.toNat)).length = len := by simp; omega
    refine ⟨(zs.take len).map (fun n => UInt8.ofNat n.toNat), hl, some x, cap, by rw [hl], by omega, h2, fun hn => ?_⟩
    have hlen : 0 < len := by
      rw [← hl]; exact List.length_pos_iff.2 hn
    have hsp : x.spot = none := by
      have := h4 0 (by omega)
      unfold World.cell? at this
      split at this
      · split at this
        · cases this
        · rename_i hs
          cases hx : x.spot with
          | none => rfl
          | some sp => simp [Addr.add, hx] at hs
      · cases this
    have hadd : ∀ i, x.add i = ⟨x.block, x.off + i, none⟩ := by
      intro i
      obtain ⟨b, o, s⟩ := x
      simp only at hsp
      subst hsp
      unfold Addr.add; split <;> simp_all
    refine ⟨x.block, x.off, by obtain ⟨b, o, s⟩ := x; simp only at hsp; subst hsp; rfl, ?_, ?_⟩
    · have := h4 0 (by omega)
      exact World.block_lt_of_cell? w (x.add 0) this |> fun h => by rw [hadd] at h; exact h
    · intro i hi
      rw [hl] at hi
      have := h4 i (by omega)
      rw [hadd] at this
      rw [this]
      have hz : zs.getD i 0 ∈ zs := by
        rw [List.getD_eq_getElem?_getD, List.getElem?_eq_getElem (by omega : i < zs.length)]
        exact List.getElem_mem _
      have hw := wf_u8 (h5 _ hz)
      have e : ((zs.take len).map (fun n => UInt8.ofNat n.toNat)).getD i 0 = UInt8.ofNat (zs.getD i 0).toNat := by
        simp [List.getD_eq_getElem?_getD, List.getElem?_take, hi, List.getElem?_eq_getElem (by omega : i < zs.length)]
      rw [e]
      congr 2
      rw [UInt8.toNat_ofNat']
      omega

end Go.Mx
