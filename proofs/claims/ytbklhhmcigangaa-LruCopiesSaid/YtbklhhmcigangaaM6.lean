import Derived.Test.YtbklhhmcigangaaM5
namespace Go.Mx
open Go.RowKit

/-- 'b[i]': its place, and what stands there -/
theorem SlB.addr {w : World} {B : Nat} {v : Value} {bs : List UInt8} {P : Program} {t e : TypeId} (h : SlB w B v bs) (ht : P.underlying t = some (.slice e)) (hs : ∀ w, (sizeOf e).run P w = .ok 1 w) (i : Nat) (hi : i < bs.length) :
    ∃ b o, b < B ∧ (∀ w' (k : IntKind), (Instr.indexAt t v (.int k (i : Int))).run P w' = .ok (.pointer (some ⟨b, o, none⟩)) w') ∧ w.cell? ⟨b, o, none⟩ = some (u8 (bs.getD i 0)) := by
  obtain ⟨oa', cap', rfl, hc, hm, hr⟩ := id h
  have ht' : P.underlying t = some (.slice (P.elem t)) := by rw [ht]; simp [Program.elem, ht]
  have hel : P.elem t = e := by simp [Program.elem, ht]
  obtain ⟨bb, bo, rfl, hlb, hrd⟩ := hr (by rintro rfl; simp at hi)
  refine ⟨bb, bo + i, hlb, fun w' k => ?_, hrd.at hi⟩
  rw [run_indexAt_slice (h := ht'), if_pos (by omega), hel, hs]
  simp [Result.andThen, Addr.add]
end Go.Mx
