import Derived.Test.YtoccgpddmhhlgaaBH
import Derived.Test.YtoccgpddmhhlgaaP
namespace Go.Proofs.Ytoccgpddmhhlgaa
open Go.RowKit Go.Mx Go.Crc Go.Str Go.Bun
set_option linter.unusedSimpArgs false
set_option linter.unusedVariables false

theorem atB_mid (pre x post : List UInt8) (a n : Nat) (ha : pre.length = a) (hn : x.length = n) : atB (pre ++ (x ++ post)) a n = x := by
  subst ha hn
  rw [atB_eq, List.drop_left' rfl, List.take_left' rfl]
theorem deL_le' (n v : Nat) (h : v < 256 ^ n) : deL (le n v) = v := by rw [deL_le, Nat.mod_eq_of_lt h]

/-- the reader's cells -/
def rcells (bv rv : Value) (dn mu from_ bad : Int) : Array Value := #[bv, .int .u32 dn, .int .i32 mu, .int .u32 0, rv, .int .i64 from_, .int .i64 bad]
def Rdr (w : World) (p : Nat) (bv rv : Value) (dn mu from_ bad : Int) : Prop := w.heap[p]? = some (.cells (rcells bv rv dn mu from_ bad) 95 (0, 0))
theorem Rdr.cells {w : World} {p : Nat} {bv rv : Value} {dn mu from_ bad : Int} (h : Rdr w p bv rv dn mu from_ bad) : w.cell? ⟨p, 0, none⟩ = some bv ∧ w.cell? ⟨p, 1, none⟩ = some (.int .u32 dn) ∧ w.cell? ⟨p, 2, none⟩ = some (.int .i32 mu) ∧ w.cell? ⟨p, 4, none⟩ = some rv ∧ w.cell? ⟨p, 5, none⟩ = some (.int .i64 from_) ∧ w.cell? ⟨p, 6, none⟩ = some (.int .i64 bad) ∧ ∀ o, w.frozen? ⟨p, o, none⟩ = false := by
  unfold Rdr at h
  refine ⟨?_, ?_, ?_, ?_, ?_, ?_, fun o => ?_⟩ <;> simp [World.cell?, World.frozen?, h, rcells]

theorem get_in (b : List UInt8) (bv : Value) (a n v : Nat) (w : World) (hb : SlB w w.heap.size bv b) (hl : b.length ≤ 1000000000) (ha : a ≤ 4000000000) (h1 : 1 ≤ n) (h4 : n ≤ 4) (hin : a + n ≤ b.length) (hv : deL (atB b a n) = v) :
    Calls Try.prog 66 #[bv, .int .i64 a, .int .i64 n, .bool false] w fun e w' => e = .returned (.tuple #[.int .u64 v, .int .i64 0]) ∧ w = w' :=
  (get_any b bv a n w hb hl ha h1 h4).mono fun e w' ⟨g1, g2⟩ => by rw [if_pos hin, hv] at g2; exact ⟨g2, g1⟩
theorem there_in (b : List UInt8) (bv : Value) (a n : Nat) (x : List UInt8) (w : World) (hb : SlB w w.heap.size bv b) (hl : b.length ≤ 1000000000) (ha : a ≤ 4000000000) (hn : n ≤ 4000000000) (hin : a + n ≤ b.length) (hx : atB b a n = x) :
    Calls Try.prog 71 #[bv, .int .i64 a, .int .i64 n] w fun e w' => (∃ v, e = .returned (.tuple #[v, .bool true]) ∧ SlB w w.heap.size v x) ∧ w = w' :=
  (there_any b bv a n w hb hl ha hn).mono fun e w' ⟨g1, g2⟩ => by rw [if_pos hin, hx] at g2; exact ⟨g2, g1⟩

set_option maxRecDepth 100000 in
theorem bnumr_any (b : List UInt8) (bv : Value) (p a n : Nat) (w : World) (h0 : w.cell? ⟨p, 0, none⟩ = some bv) (hb : SlB w w.heap.size bv b) (hl : b.length ≤ 1000000000) (ha : a ≤ 1000000000) (h1 : 1 ≤ n) (h4 : n ≤ 4) (hin : a + n ≤ b.length) :
    Calls Try.prog 61 #[.pointer (some ⟨p, 0, none⟩), .int .i64 a, .int .i64 n] w fun e w' => e = .returned (.tuple #[.int .i64 (deL (atB b a n)), .bool true]) ∧ w = w' := by
  have hlt := deL_lt (atB b a n)
  rw [atB_length b a n hin] at hlt
  have h256 : 256 ^ n ≤ 4294967296 := Nat.le_trans (Nat.pow_le_pow_right (by omega) h4) (by decide)
  obtain ⟨v, hv⟩ : ∃ v, v = deL (atB b a n) := ⟨_, rfl⟩
  rw [← hv] at hlt ⊢
  have HC := hid (get_in b bv a n v w hb hl (by omega) h1 h4 hin hv.symm)
  have hv4 : v < 4294967296 := Nat.lt_of_lt_of_le hlt h256
  have hw : IntKind.i64.wrap (v : Int) = (v : Int) := IntWalk.i64_in _ (by omega)
  obtain ⟨oa, nn, cp, rfl⟩ := slB_shape hb
  clear hlt h256 hv hb
  go_enter Try.func61, Try.ntmps61
  go_wp2_with fail
  refine HC.out.mono ?_
  rintro e w' ⟨rfl, rfl⟩
  go_wp2
  go_ret2
  exact ⟨rfl, rfl⟩

set_option maxRecDepth 100000 in
theorem bread_any (b : List UInt8) (bv : Value) (a : Nat) (nm : List UInt8) (w : World) (hb : SlB w w.heap.size bv b) (hl : b.length ≤ 1000000000) (ha : a ≤ 1000000000) (h1 : deL (atB b a 2) = nm.length) (h2 : atB b (a + 2) nm.length = nm) (hin : a + 2 + nm.length ≤ b.length) :
    Calls Try.prog 76 #[bv, .int .i64 a] w fun e w' => e = .returned (.tuple #[.string ⟨nm.toArray⟩, .int .i64 (a + 2 + nm.length : Nat), .int .i64 0]) ∧ w = w' := by
  have HC := hid (get_in b bv a 2 nm.length w hb hl (by omega) (by omega) (by omega) (by omega) h1)
  have HT := hid (there_in b bv (a + 2) nm.length nm w hb hl (by omega) (by omega) hin h2)
  have hw : IntKind.i64.wrap (nm.length : Int) = (nm.length : Int) := IntWalk.i64_in _ (by omega)
  obtain ⟨N, hN⟩ : ∃ N, N = nm.length := ⟨_, rfl⟩
  rw [← hN] at HC HT hw hin h1 ⊢
  clear h1 h2 hb hN
  go_enter Try.func76, Try.ntmps76
  go_wp2_with fail
  refine HC.out.mono ?_
  rintro e w' ⟨rfl, rfl⟩
  have HT2 : Hid (Calls Try.prog 71 #[bv, .int .i64 ((a : Int) + 2), .int .i64 N] w fun e w' => (∃ v, e = .returned (.tuple #[v, .bool true]) ∧ SlB w w.heap.size v nm) ∧ w = w') := by
    have := HT.out
    rw [show ((a + 2 : Nat) : Int) = (a : Int) + 2 by omega] at this
    exact hid this
  go_wp2_with fail
  refine HT2.out.mono ?_
  rintro e w' ⟨⟨v, rfl, hs⟩, rfl⟩
  have hc := conv_sl (P := Try.prog) (src := 25) (dst := 9) (e := 5) Try.underlying25 Try.underlying5 Try.underlying9 hs
  clear hs HC HT HT2
  go_wp2
  go_ret3
  exact ⟨by congr 3, rfl⟩

/-- a row of the index stands at a place of b -/
structure RowAt (b : List UInt8) (a : Nat) (nm : List UInt8) (x n s : Nat) : Prop where
  fl : deL (atB b a 2) = nm.length
  fnm : atB b (a + 2) nm.length = nm
  fx : deL (atB b (a + 2 + nm.length) 4) = x
  fn : deL (atB b (a + 2 + nm.length + 4) 4) = n
  fs : deL (atB b (a + 2 + nm.length + 8) 4) = s
  len : a + 14 + nm.length ≤ b.length

set_option maxRecDepth 100000 in
theorem brow_any (b : List UInt8) (bv : Value) (p a : Nat) (nm : List UInt8) (x n s : Nat) (w : World) (h0 : w.cell? ⟨p, 0, none⟩ = some bv) (hp : p < w.heap.size) (hb : SlB w w.heap.size bv b) (hl : b.length ≤ 100000000) (ha : RowAt b a nm x n s) :
    Calls Try.prog 69 #[.pointer (some ⟨p, 0, none⟩), .int .i64 a] w fun e w' => e = .returned (.tuple #[.agg #[.string ⟨nm.toArray⟩, .int .i64 x, .int .i64 n, .int .u32 s], .int .i64 (a + 14 + nm.length : Nat), .bool true]) ∧ Below w.heap.size w w' := by
  have hlen := ha.len
  have hb1 : Below w.heap.size w (w.alloc (.cells #[.string ⟨#[]⟩, .int .i64 0, .int .i64 0, .int .u32 0] 99)) := (Below.refl _ _).alloc (Nat.le_refl _) _
  have hbs := (hb.below hb1 (Nat.le_refl _)).mono hb1.size
  have g0 := (hb1.cell (p := ⟨p, 0, none⟩) hp).trans h0
  have HR := hid (bread_any b bv a nm _ hbs (by omega) (by omega) ha.fl ha.fnm (by omega))
  have N1 := bnumr_any b bv p (a + 2 + nm.length) 4 _ g0 hbs (by omega) (by omega) (by omega) (by omega) (by omega)
  have N2 := bnumr_any b bv p (a + 2 + nm.length + 4) 4 _ g0 hbs (by omega) (by omega) (by omega) (by omega) (by omega)
  have N3 := bnumr_any b bv p (a + 2 + nm.length + 8) 4 _ g0 hbs (by omega) (by omega) (by omega) (by omega) (by omega)
  rw [ha.fx] at N1
  rw [ha.fn] at N2
  rw [ha.fs] at N3
  rw [show ((4 : Nat) : Int) = 4 from rfl] at N1 N2 N3
  have hs4 : s < 4294967296 := by
    have := deL_lt (atB b (a + 2 + nm.length + 8) 4)
    rw [atB_length _ _ _ (by omega), ha.fs] at this
    exact this
  obtain ⟨A, hA⟩ : ∃ A, A = a + 2 + nm.length := ⟨_, rfl⟩
  rw [← hA] at N1 N2 N3 HR
  rw [show ((A + 4 : Nat) : Int) = (A : Int) + 4 by omega] at N2
  rw [show ((A + 8 : Nat) : Int) = (A : Int) + 8 by omega] at N3
  have hAe : a + 14 + nm.length = A + 12 := by omega
  rw [hAe]
  have hAl : A + 12 ≤ 100000000 := by omega
  have hws : IntKind.u32.wrap (s : Int) = (s : Int) := by rw [IntKind.wrap_u32]; omega
  have HN1 := hid N1; have HN2 := hid N2; have HN3 := hid N3
  have HB := hid hb1
  obtain ⟨oa, nn, cp, rfl⟩ := slB_shape hb
  clear N1 N2 N3 hA hAe ha hbs hb hb1 g0 hlen
  go_enter Try.func69, Try.ntmps69
  go_wp2_with fail
  refine HR.out.mono ?_
  rintro e w' ⟨rfl, rfl⟩
  go_wp2_with (first
    | (go_at_call 61; (first
      | ((with_reducible refine HN1.out.mono ?_); rintro e w' ⟨rfl, rfl⟩)
      | ((with_reducible refine HN2.out.mono ?_); rintro e w' ⟨rfl, rfl⟩)
      | ((with_reducible refine HN3.out.mono ?_); rintro e w' ⟨rfl, rfl⟩))))
  refine bodyPost_ret (v := .tuple #[.agg #[.string ⟨nm.toArray⟩, .int .i64 x, .int .i64 n, .int .u32 s], .int .i64 ((A : Int) + 12), .bool true]) (by simp [results, Try.results69, go_sem]) rfl ⟨by congr 4, ?_⟩
  exact (Below.refl _ _).alloc (Nat.le_refl _) _
end Go.Proofs.Ytoccgpddmhhlgaa
