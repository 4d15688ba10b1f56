import Derived.Test.YtoccgpddmhhlgaaBB
import Derived.Test.YtoccgpddmhhlgaaA
import Derived.Lib.AppendStr
namespace Go.Mx
open Go.RowKit
set_option linter.unusedSimpArgs false
set_option linter.unusedVariables false
/-- 'append(b, s...)' of a string's bytes -/
theorem append_str {P : Program} (w : World) {ops : Array Oper} {rest : List Oper} {o : Oper} {a : Act} {Q : Exit → Act → World → Prop} (hgd : o.guard = none) (s x : Operand) (t u e : TypeId)
    (ho : o.op = .call { callee := .builtin .append, args := #[s, x], argTypes := #[t, u] })
    (ht : P.underlying t = some (.slice e)) (hu : P.underlying u = some .string) (hi : (P.info? e).map (fun i => (i.zero, i.size, i.bytes)) = some (some (.int .u8 0), 1, 1))
    (base : Nat) (v : Value) (l : List UInt8) (hs : a.eval s = v) (hown : OwnB w base e v l) (bs : List UInt8) (hx : a.eval x = .string ⟨bs.toArray⟩)
    (hlen : l.length + bs.length ≤ 140737488355328) (hB : base ≤ w.heap.size)
    (h : ∀ v' w', OwnB w' base e v' (l ++ bs) → Below base w w' → wpList P ops Q rest (a.put o.dst v') w') : wpList P ops Q (o :: rest) a w := by
  obtain ⟨i0, hi0, hz0, hz1, hz2⟩ := info_parts hi
  have hz : (ByteArray.mk bs.toArray).size = bs.length := by simp [ByteArray.size]
  refine Lib.wpList_append_own_string w hgd s x t u ho base e i0 ht hu hi0 hz0 hz1 hz2 v l.length _ hs hown ⟨bs.toArray⟩ hx ?_ ?_ hB ?_
  · rw [hz]; unfold maxLen; omega
  · rw [hz]; omega
  · intro v' w' ho' hg' _
    refine h v' w' ?_ ((Below.refl base w).grown hg' hB (fun k hk => (World.ownsRow.lt hown k hk).1))
    unfold OwnB
    have e1 : Lib.strCells ⟨bs.toArray⟩ = bs.map u8 := by simp [Lib.strCells]
    rw [hz, e1] at ho'
    simpa using ho'
end Go.Mx
namespace Go.Proofs.Ytoccgpddmhhlgaa
open Go.RowKit Go.Mx Go.Crc Go.Str Go.Bun
set_option linter.unusedSimpArgs false
set_option linter.unusedVariables false

theorem aadd (b o : Nat) (x y : Int) (w : World) (hc : w.cell? ⟨b, o, none⟩ = some (.int .i64 x)) (hz : w.frozen? ⟨b, o, none⟩ = false) (h1 : -9223372036854775808 ≤ x + y ∧ x + y ≤ 9223372036854775807) :
    Calls Try.prog 50 #[.pointer (some ⟨b, o, none⟩), .int .i64 y] w fun e w' => e = .returned (.int .i64 (x + y)) ∧ w' = w.setCell ⟨b, o, none⟩ (.int .i64 (x + y)) := by
  have hadd := run_call_add (P := Try.prog) Try.func62 (by kernel_rfl) (by kernel_rfl) (by kernel_rfl) .i64 (by kernel_rfl) (y := y) (s := x + y) hc hz (by simp [go_sem]; rw [IntWalk.i64_in _ (by omega)])
  go_enter Try.func50, Try.ntmps50
  go_wp2
  go_ret
  exact ⟨rfl, rfl⟩
theorem aload (b o : Nat) (x : Int) (w : World) (hc : w.cell? ⟨b, o, none⟩ = some (.int .i64 x)) :
    Calls Try.prog 51 #[.pointer (some ⟨b, o, none⟩)] w fun e w' => e = .returned (.int .i64 x) ∧ w' = w := by
  have hld := run_call_load (P := Try.prog) Try.func63 (by kernel_rfl) (by kernel_rfl) (by kernel_rfl) .i64 (by kernel_rfl) hc
  go_enter Try.func51, Try.ntmps51
  go_wp2
  go_ret
  exact ⟨rfl, rfl⟩

set_option maxRecDepth 100000 in
set_option maxHeartbeats 2000000 in
theorem text_any (bs : List UInt8) (bv : Value) (s : List UInt8) (w : World) (hb : SlB w w.heap.size bv bs) (hlen : bs.length ≤ 1000000000) (hs : s.length ≤ 65535) :
    Calls Try.prog 35 #[bv, .string ⟨s.toArray⟩] w fun e w' => ∃ ov, e = .returned (.tuple #[ov, .int .i64 0]) ∧ OwnB w' w.heap.size 5 ov (bs ++ (le 2 s.length ++ s)) ∧ Below w.heap.size w w' := by
  go_enter Try.func35, Try.ntmps35
  go_wp2_with fail
  refine (aadd _ _ 0 s.length _ (by go_simp) (by go_simp) (by omega)).mono ?_
  rintro e w1 ⟨rfl, rfl⟩
  go_wp2_with fail
  refine (aload _ _ s.length _ (by go_simp)).mono ?_
  rintro e w2 ⟨rfl, rfl⟩
  have hwu := wr_u64 s.length (by omega)
  have hb1 : Below w.heap.size w (w.alloc (.cells #[.int .i64 s.length] 105)) := (Below.refl _ _).alloc (Nat.le_refl _) _
  have HC := hid (put_any bs bv 2 s.length _ ((hb.below hb1 (Nat.le_refl _)).mono hb1.size) hlen (by omega) (by omega) (by omega))
  have HB1 := hid hb1
  clear hb1
  go_wp2_with (first | (go_at_call 51; refine (aload _ _ s.length _ (by go_simp)).mono ?_; rintro e w2 ⟨rfl, rfl⟩))
  refine HC.out.mono ?_
  rintro e w3 ⟨ov, rfl, ho3, hb3⟩
  have hb3' := HB1.out.trans (hb3.mono HB1.out.size)
  have ho3' := ho3.any_base (base' := w.heap.size) HB1.out.size
  have HB3 := hid hb3'
  clear hb3 hb3' ho3
  go_wp2_with (at_builtin; refine append_str _ rfl _ _ 25 9 5 rfl Try.underlying25 Try.underlying9 Try.info5 w.heap.size _ _ rfl ho3' s rfl ?_ ?_ ?_)
  · simp [le_length]; omega
  · exact HB3.out.size
  intro v4 w4 ho4 hb4
  go_wp2
  go_ret2
  exact ⟨_, rfl, ho4, HB3.out.trans hb4⟩

theorem le2_eq (n : Nat) : le 2 n = [UInt8.ofNat n, UInt8.ofNat (n / 256)] := by simp [le, List.range_succ]
set_option maxRecDepth 100000 in
set_option maxHeartbeats 2000000 in
theorem rtext_any (bs : List UInt8) (bv : Value) (s : List UInt8) (w : World) (hb : SlB w w.heap.size bv bs) (hlen : bs.length ≤ 1000000000) (hs : s.length ≤ 65535) :
    Calls Try.prog 38 #[bv, .string ⟨s.toArray⟩] w fun e w' => ∃ ov, e = .returned (.tuple #[ov, .int .i64 0]) ∧ OwnB w' w.heap.size 5 ov (bs ++ (le 2 s.length ++ s)) ∧ Below w.heap.size w w' := by
  have HL := hid (le2_eq s.length)
  have hc1 : (s.length : Int) % 256 = ((UInt8.ofNat s.length).toNat : Int) := by rw [UInt8.toNat_ofNat']; omega
  have hc2 : (s.length : Int) / 256 = ((UInt8.ofNat (s.length / 256)).toNat : Int) := by rw [UInt8.toNat_ofNat']; omega
  obtain ⟨x, hx⟩ : ∃ x, x = UInt8.ofNat s.length := ⟨_, rfl⟩
  obtain ⟨y, hy⟩ : ∃ x, x = UInt8.ofNat (s.length / 256) := ⟨_, rfl⟩
  rw [← hx] at hc1 HL
  rw [← hy] at hc2 HL
  clear hx hy
  go_enter Try.func38, Try.ntmps38
  go_wp2_with (at_builtin; refine append_sl _ rfl _ _ 25 5 rfl Try.underlying25 Try.info5 w.heap.size _ [] rfl (own_empty w 5) _ bs w.heap.size rfl (hb.below ((Below.refl _ _).alloc (Nat.le_refl _) _) (Nat.le_refl _)) ?_ ?_ ?_)
  · simp; omega
  · simp
  intro v2 w2 ho2 hb2
  have hbel := ((Below.refl w.heap.size w).alloc (Nat.le_refl _) (.cells #[] 5)).trans hb2
  have HB2 := hid hbel
  clear hb2 hbel
  have ho2' := ho2.alloc (.cells #[.int .u8 x.toNat, .int .u8 y.toNat] 5)
  have hs2 := sl2 w2 x.toNat y.toNat x y 5 rfl rfl
  go_wp2_with (at_builtin; refine append_sl _ rfl _ _ 25 5 rfl Try.underlying25 Try.info5 w.heap.size _ _ rfl ho2' _ [x, y] _ rfl hs2 ?_ ?_ ?_)
  · simp; omega
  · simp; have := HB2.out.size; omega
  intro v3 w3 ho3 hb3
  have hb3' := (HB2.out.alloc HB2.out.size (.cells #[.int .u8 x.toNat, .int .u8 y.toNat] 5)).trans hb3
  have HB3 := hid hb3'
  clear hb3 hb3' ho2 ho2' hs2
  go_wp2_with (at_builtin; refine append_str _ rfl _ _ 25 9 5 rfl Try.underlying25 Try.underlying9 Try.info5 w.heap.size _ _ rfl ho3 s rfl ?_ ?_ ?_)
  · simp; omega
  · exact HB3.out.size
  intro v4 w4 ho4 hb4
  have ho5 : OwnB w4 w.heap.size 5 v4 (bs ++ (le 2 s.length ++ s)) := by rw [HL.out]; simpa using ho4
  go_wp2
  go_ret2
  exact ⟨_, rfl, ho5, HB3.out.trans hb4⟩

set_option maxRecDepth 100000 in
theorem bnum_any (bs : List UInt8) (bv : Value) (n v : Nat) (w : World) (hb : SlB w w.heap.size bv bs) (hlen : bs.length ≤ 1000000000) (h1 : 1 ≤ n) (h4 : n ≤ 4) (hv : v < 256 ^ n) :
    Calls Try.prog 33 #[bv, .int .i64 n, .int .i64 v] w fun e w' => ∃ ov, e = .returned ov ∧ OwnB w' w.heap.size 5 ov (bs ++ le n v) ∧ Below w.heap.size w w' := by
  have hv4 : v < 256 ^ 4 := Nat.lt_of_lt_of_le hv (Nat.pow_le_pow_right (by omega) h4)
  have hv' : v < 4294967296 := hv4
  have HC := hid (put_any bs bv n v w hb hlen h1 h4 hv)
  have hw := wr_u64 v (by omega)
  clear hb hv hv4
  go_enter Try.func33, Try.ntmps33
  go_wp2_with fail
  refine HC.out.mono ?_
  rintro e w' ⟨ov, rfl, ho, hbel⟩
  go_wp2
  go_ret
  exact ⟨ov, rfl, ho, hbel⟩
end Go.Proofs.Ytoccgpddmhhlgaa
