import Derived.Test.YtoccgpddmhhlgaaBK
import Derived.Shelf.SlSorted.Search
namespace Go.Proofs.Ytoccgpddmhhlgaa
open Go.RowKit Go.Mx Go.Crc Go.Str Go.Bun
set_option linter.unusedSimpArgs false
set_option linter.unusedVariables false

set_option maxRecDepth 100000 in
theorem find1_any (its : List Itm) (rv : Value) (nm : List UInt8) (a c i : Nat) (w : World) (ha : w.cell? ⟨a, 0, none⟩ = some rv) (hc : w.cell? ⟨c, 0, none⟩ = some (.string ⟨nm.toArray⟩)) (hs : SlG w w.heap.size 4 rv (irows its its.length)) (hi : i < its.length) :
    Calls Try.prog 48 #[.int .i64 i, .pointer (some ⟨a, 0, none⟩), .pointer (some ⟨c, 0, none⟩)] w fun e w' => e = .returned (.bool (!lss (its.getD i default).name nm)) ∧ Below w.heap.size w w' := by
  obtain ⟨b, o, hb, hia, i0, i1, i2, i3⟩ := irow_at hs i hi
  obtain ⟨s, hs'⟩ : ∃ s, s = (its.getD i default).name := ⟨_, rfl⟩
  rw [← hs'] at i0 ⊢
  obtain ⟨oa, n, cp, rfl, _⟩ : ∃ oa n cp, rv = .slice oa n cp ∧ True := by obtain ⟨oa, cp, rfl, _⟩ := hs; exact ⟨_, _, _, rfl, trivial⟩
  clear hs hs' i1 i2 i3
  go_enter Try.func48, Try.ntmps48
  go_wp2_with fail
  go_quiet (fail)
  go_wp2
  go_ret
  exact ⟨rfl, below_drewN (Below.refl _ _) _⟩

set_option maxRecDepth 100000 in
set_option maxHeartbeats 1000000 in
theorem search_any (n : Nat) (p : Nat → Bool) (cb : Array Value) (w : World) (hn : n ≤ 1000) (hf : ∀ w' i, Below w.heap.size w w' → i < n → Calls Try.prog 48 (#[.int .i64 (i : Int)] ++ cb) w' fun e w'' => e = .returned (.bool (p i)) ∧ Below w'.heap.size w' w'')
    (hm : ∀ a b, a ≤ b → b < n → p a = true → p b = true) :
    Calls Try.prog 47 #[.int .i64 n, .func (.func 48) #[] cb] w fun e w' => ∃ i : Nat, e = .returned (.int .i64 i) ∧ i ≤ n ∧ (∀ t, t < i → p t = false) ∧ (∀ t, i ≤ t → t < n → p t = true) ∧ Below w.heap.size w w' := by
  have HF := hid hf
  have HM := hid hm
  clear hf hm
  go_enter Try.func47, Try.ntmps47
  go_wp2_with fail
  go_loopw [5, 6] (fun s5 s6 wr => ∃ lo hi : Nat, s5 = .int .i64 lo ∧ s6 = .int .i64 hi ∧ lo ≤ hi ∧ hi ≤ n ∧ Hid ((∀ t, t < lo → p t = false) ∧ (∀ t, hi ≤ t → t < n → p t = true)) ∧ Below w.heap.size w wr) (fun s5 s6 _ => (intOf s6).toNat - (intOf s5).toNat)
  case atStart => exact ⟨0, n, rfl, rfl, by omega, by omega, hid ⟨fun t h => by omega, fun t h1 h2 => by omega⟩, Below.refl _ _⟩
  case round =>
    obtain ⟨lo, hi, rfl, rfl, hlh, hin, I, hbl⟩ := hrel
    by_cases hlt : lo < hi
    · have hw1 : IntKind.u64.wrap ((lo : Int) + (hi : Int)) = (lo : Int) + hi := by rw [IntKind.wrap_u64]; omega
      have hw2 : IntKind.i64.wrap (((lo : Int) + (hi : Int)) / 2) = ((lo : Int) + hi) / 2 := IntWalk.i64_in _ (by omega)
      have hc := HF.out wr ((lo + hi) / 2) hbl (by omega)
      rw [show (((lo + hi) / 2 : Nat) : Int) = ((lo : Int) + (hi : Int)) / 2 by omega] at hc
      cases hp : p ((lo + hi) / 2) <;> rw [hp] at hc
      · have HP := hid hp
        have HC := hid hc
        clear hp hc
        go_wp2_with fail
        refine HC.out.mono ?_
        rintro e w1 ⟨rfl, hb1⟩
        have hbl' := hbl.trans (hb1.mono hbl.size)
        go_wp2_with fail
        go_roundw
        case rel =>
          have I2 : Hid ((∀ t, t < (lo + hi) / 2 + 1 → p t = false) ∧ (∀ t, hi ≤ t → t < n → p t = true)) := hid ⟨fun t ht => (by
            cases h : p t with
            | false => rfl
            | true => have := HM.out t ((lo + hi) / 2) (by omega) (by omega) h; rw [HP.out] at this; cases this), I.out.2⟩
          exact ⟨(lo + hi) / 2 + 1, hi, by rw [show ((lo : Int) + (hi : Int)) / 2 + 1 = (((lo + hi) / 2 + 1 : Nat) : Int) by omega], rfl, by omega, hin, I2, hbl'⟩
        case measure => simp [intOf]; omega
      · have HP := hid hp
        have HC := hid hc
        clear hp hc
        go_wp2_with fail
        refine HC.out.mono ?_
        rintro e w1 ⟨rfl, hb1⟩
        have hbl' := hbl.trans (hb1.mono hbl.size)
        go_wp2_with fail
        go_roundw
        case rel =>
          have I2 : Hid ((∀ t, t < lo → p t = false) ∧ (∀ t, (lo + hi) / 2 ≤ t → t < n → p t = true)) := hid ⟨I.out.1, fun t ht htn => HM.out ((lo + hi) / 2) t ht htn HP.out⟩
          exact ⟨lo, (lo + hi) / 2, rfl, by rw [show ((lo : Int) + (hi : Int)) / 2 = (((lo + hi) / 2 : Nat) : Int) by omega], by omega, by omega, I2, hbl'⟩
        case measure => simp [intOf]; omega
    · obtain rfl : hi = lo := by omega
      go_wp2
      go_ret
      exact ⟨_, rfl, hin, I.out.1, I.out.2, hbl⟩
end Go.Proofs.Ytoccgpddmhhlgaa
