import Derived.Test.YtoccgpddmhhlgaaBN
namespace Go.Proofs.Ytoccgpddmhhlgaa
open Go.RowKit Go.Mx Go.Crc Go.Str Go.Bun
set_option linter.unusedSimpArgs false
set_option linter.unusedVariables false

theorem slB_convs {w : World} {v : Value} {bs : List UInt8} (h : SlB w w.heap.size v bs) : ∀ w', Below w.heap.size w w' → (convert 25 9 v).run Try.prog w' = .ok (.string ⟨bs.toArray⟩) w' := fun w' hb =>
  conv_sl (P := Try.prog) (src := 25) (dst := 9) (e := 5) Try.underlying25 Try.underlying5 Try.underlying9 (h.below hb (Nat.le_refl _))

set_option maxRecDepth 100000 in
set_option maxHeartbeats 2000000 in
theorem bsame_any (l : List Prt) (av bv : Value) (w : World) (ha : SlPt w w.heap.size av l) (hb : SlPt w w.heap.size bv l) :
    Calls Try.prog 30 #[av, bv] w fun e w' => e = .returned (.bool true) ∧ Below w.heap.size w w' := by
  have hla := fun w' => ha.len (ty := 3) w'
  have hlb := fun w' => hb.lenR (ty := 3) w'
  have hsm := ha.small
  have HA := hid ha
  have HB := hid hb
  clear ha hb
  go_enter Try.func30, Try.ntmps30
  go_wp2_with fail
  go_loopw [5] (fun i wr => ∃ k : Nat, k ≤ l.length ∧ i = .int .i64 k ∧ Below w.heap.size w wr) (fun i _ => l.length - (intOf i).toNat)
  case atStart => exact ⟨0, by omega, rfl, Below.refl _ _⟩
  case round =>
    obtain ⟨k, hk, rfl, hbl⟩ := hrel
    by_cases hlt : k < l.length
    · obtain ⟨b, o, dv, hbb, hia, i0, i1, hd⟩ := (HA.out.below hbl (Nat.le_refl _)).at k hlt
      obtain ⟨b', o', dv', hbb', hia', j0, j1, hd'⟩ := (HB.out.below hbl (Nat.le_refl _)).atR k hlt
      have hbz := hbl.size
      obtain ⟨p, hp⟩ : ∃ p, p = l.getD k default := ⟨_, rfl⟩
      rw [← hp] at i0 j0 hd hd'
      obtain ⟨s, da⟩ := p
      simp only at i0 j0 hd hd'
      have hc := slB_convs (hd.mono hbz)
      have hc' := slB_convs (hd'.mono hbz)
      obtain ⟨xa, xn, xc, rfl⟩ := slB_shape hd
      obtain ⟨ya, yn, yc, rfl⟩ := slB_shape hd'
      have M0 : ∀ w', Below wr.heap.size wr w' → w'.cell? ⟨b, o, none⟩ = some (.string ⟨s.toArray⟩) := fun w' h => (h.cell (p := ⟨b, o, none⟩) (by show b < _; omega)).trans i0
      have M1 : ∀ w', Below wr.heap.size wr w' → w'.cell? ⟨b, o + 1, none⟩ = some (.slice xa xn xc) := fun w' h => (h.cell (p := ⟨b, o + 1, none⟩) (by show b < _; omega)).trans i1
      have N0 : ∀ w', Below wr.heap.size wr w' → w'.cell? ⟨b', o', none⟩ = some (.string ⟨s.toArray⟩) := fun w' h => (h.cell (p := ⟨b', o', none⟩) (by show b' < _; omega)).trans j0
      have N1 : ∀ w', Below wr.heap.size wr w' → w'.cell? ⟨b', o' + 1, none⟩ = some (.slice ya yn yc) := fun w' h => (h.cell (p := ⟨b', o' + 1, none⟩) (by show b' < _; omega)).trans j1
      have HBL := hid hbl
      clear hd hd' i0 i1 j0 j1 hp hbl
      go_wp2_with fail
      go_region_held3 (fun w' => Below wr.heap.size wr w') (first | exact (Below.refl _ _).drew | assumption | exact Below.drew (by assumption)) (first | fail)
      have hbl' := HBL.out.drew
      go_wp2_with fail
      go_roundw
      case rel => exact ⟨k + 1, by omega, by go_num, hbl'⟩
      case measure => simp [intOf]; omega
    · obtain rfl : k = l.length := by omega
      go_wp2_with fail
      go_ret
      exact ⟨rfl, hbl⟩
end Go.Proofs.Ytoccgpddmhhlgaa
