import Derived.Test.YtoccgpddmhhlgaaE
import Derived.Test.YtoccgpddmhhlgaaL2
import Derived.Test.YtoccgpddmhhlgaaM6
namespace Go.Proofs.Ytoccgpddmhhlgaa
open Go.RowKit Go.Mx Go.Crc Go.Str

theorem Try.info5 : (Try.prog.info? 5).map (fun i => (i.zero, i.size, i.bytes)) = some (some (.int .u8 0), 1, 1) := by kernel_rfl

theorem make_empty {P : Program} (w : World) {ops : Array Oper} {rest : List Oper} {o : Oper} {a : Act} {Q : Exit → Act → World → Prop} (hg : o.guard = none) (l c : Operand) (t e : TypeId)
    (hop : o.op = Op.makeSlice t l c) (ht : P.underlying t = some (.slice e)) (hi : (P.info? e).map (fun i => (i.zero, i.size, i.bytes)) = some (some (.int .u8 0), 1, 1))
    (base : Nat) (kl kc : IntKind) (C : Int) (n : Nat) (hl : a.eval l = .int kl 0) (hc : a.eval c = .int kc C) (hC : C = (n : Int)) (hn : n ≤ 140737488355328) (hB : base ≤ w.heap.size)
    (h : ∀ v w', OwnB w' base e v [] → Below w.heap.size w w' → v = .slice (some ⟨w.heap.size, 0, none⟩) 0 n → wpList P ops Q rest (a.put o.dst v) w') : wpList P ops Q (o :: rest) a w := by
  obtain ⟨i0, hi0, hz0, hz1, hz2⟩ := info_parts hi
  refine wpList_make_own w hg l c t hop base e i0 _ 1 ht hi0 hz0 hz1 kl kc C n hl hc hC (by rw [hz2]; omega) (by unfold maxLen; omega) hB ?_
  intro w' ho hgr
  exact h _ w' ho ⟨hgr.os, hgr.tape, hgr.output, hgr.size, fun k hk => hgr.block k hk (by simp)⟩ rfl

theorem pow8 (k : Nat) : 256 ^ k = 2 ^ (8 * k) := by rw [Nat.pow_mul]
theorem shr_none (n v : Nat) (h : v < 256 ^ n) : (((v : Int) / 2 ^ (8 * n)) != 0) = false := by
  rw [bne_eq_false_iff_eq, show (2 : Int) ^ (8 * n) = ((2 ^ (8 * n) : Nat) : Int) by simp, ← Int.natCast_ediv, Nat.div_eq_of_lt (by rw [← pow8]; exact h)]; rfl
theorem byte_at (k v : Nat) : ((v : Int) / 2 ^ (8 * k)) % 256 = ((UInt8.ofNat (v / 256 ^ k)).toNat : Int) := by
  rw [show (2 : Int) ^ (8 * k) = ((2 ^ (8 * k) : Nat) : Int) by simp, ← Int.natCast_ediv, UInt8.toNat_ofNat', pow8]; simp

set_option maxRecDepth 100000 in
set_option maxHeartbeats 2000000 in
theorem put_any (bs : List UInt8) (bv : Value) (n v : Nat) (w : World) (hb : SlB w w.heap.size bv bs) (hlen : bs.length ≤ 1000000000) (h1 : 1 ≤ n) (h4 : n ≤ 4) (hv : v < 256 ^ n) :
    Calls Try.prog 34 #[bv, .int .i64 n, .bool false, .int .u64 v] w fun e w' => ∃ ov, e = .returned (.tuple #[ov, .int .i64 0]) ∧ OwnB w' w.heap.size 5 ov (bs ++ le n v) ∧ Below w.heap.size w w' := by
  have hlb := fun w' => hb.len (P := Try.prog) (ty := 3) Try.underlying25 w'
  have hsn := shr_none n v hv
  have hk4 : ∀ k, k < n → (v / 256 ^ k : Nat) ≤ v := fun k _ => Nat.div_le_self _ _
  go_enter Try.func34, Try.ntmps34
  go_wp2_with (refine make_empty _ rfl _ _ 25 5 rfl Try.underlying25 Try.info5 w.heap.size _ _ _ (bs.length + n) rfl rfl ?_ ?_ (Nat.le_refl _) ?_)
  · simp
  · omega
  intro v1 w1 ho1 hb1 hv1
  clear hv1
  have hs1 := hb.below hb1 (Nat.le_refl _)
  go_wp2_with (at_builtin; refine append_sl _ rfl _ _ 25 5 rfl Try.underlying25 Try.info5 w.heap.size _ [] rfl ho1 _ bs w.heap.size rfl hs1 ?_ ?_ ?_)
  · simp; omega
  · exact hb1.size
  intro v2 w2 ho2 hb2
  have hbel := hb1.trans hb2
  clear hs1 ho1 hb1 hb2
  go_wp2_with fail
  go_loopw [10, 38] (fun o i wr => ∃ k : Nat, k ≤ n ∧ i = .int .i64 k ∧ OwnB wr w.heap.size 5 o (bs ++ le k v) ∧ Below w.heap.size w wr) (fun _ i _ => n - (intOf i).toNat)
  case atStart => exact ⟨0, by omega, rfl, by simpa [le] using ho2, hbel⟩
  case round =>
    obtain ⟨k, hk, rfl, ho, hbl⟩ := hrel
    clear ho2 hbel
    by_cases hlt : k < n
    · have hby := byte_at k v
      have HS := hid (le_succ k v)
      obtain ⟨x, hx⟩ : ∃ x, x = UInt8.ofNat (v / 256 ^ k) := ⟨_, rfl⟩
      rw [← hx] at hby HS
      clear hx
      have hll : (bs ++ le k v).length = bs.length + k := by simp [le_length]
      obtain ⟨l, hl⟩ : ∃ l, l = bs ++ le k v := ⟨_, rfl⟩
      rw [← hl] at ho hll
      have HL := hid hl
      have HLL := hid hll
      clear hl hll
      go_wp2_with (at_builtin; refine append_byte _ rfl _ _ 25 5 rfl Try.underlying25 Try.info5 w.heap.size _ l x rfl (ho.alloc _) _ _ rfl ?_ ?_ ?_ ?_)
      · exact cell_alloc1 _ _ _
      · have := HLL.out; omega
      · have := hbl.size; simp; omega
      intro v3 w3 ho3 hb3
      have hbl3 := (hbl.alloc (hbl.size) _).trans hb3
      have ho4 : OwnB w3 w.heap.size 5 v3 (bs ++ le (k + 1) v) := by rw [HS.out, ← List.append_assoc, ← HL.out]; exact ho3
      clear ho3 hb3 ho hby
      go_wp2
      go_roundw
      case rel => exact ⟨k + 1, by omega, by go_num, ho4, hbl3⟩
      case measure => simp [intOf]; omega
    · obtain rfl : k = n := by omega
      go_wp2
      go_ret2
      exact ⟨_, rfl, ho, hbl⟩

set_option maxRecDepth 100000 in
set_option maxHeartbeats 2000000 in
theorem rput_any (bs : List UInt8) (bv : Value) (n v : Nat) (w : World) (hb : SlB w w.heap.size bv bs) (hlen : bs.length ≤ 1000000000) (h1 : 1 ≤ n) (h4 : n ≤ 4) (hv : v < 256 ^ n) :
    Calls Try.prog 65 #[bv, .int .i64 n, .bool false, .int .u64 v] w fun e w' => ∃ ov, e = .returned (.tuple #[ov, .int .i64 0]) ∧ OwnB w' w.heap.size 5 ov (bs ++ le n v) ∧ Below w.heap.size w w' := by
  have hsn := shr_none n v hv
  go_enter Try.func65, Try.ntmps65
  go_wp2_with (at_builtin; refine append_sl _ rfl _ _ 25 5 rfl Try.underlying25 Try.info5 w.heap.size _ [] rfl (own_empty w 5) _ bs w.heap.size rfl (hb.below ((Below.refl _ _).alloc (Nat.le_refl _) _) (Nat.le_refl _)) ?_ ?_ ?_)
  · simp; omega
  · simp
  intro v2 w2 ho2 hb2
  have hbel := ((Below.refl w.heap.size w).alloc (Nat.le_refl _) (.cells #[] 5)).trans hb2
  clear hb2
  go_wp2_with fail
  go_loopw [10, 11] (fun o i wr => ∃ k : Nat, k ≤ n ∧ i = .int .i64 k ∧ OwnB wr w.heap.size 5 o (bs ++ le k v) ∧ Below w.heap.size w wr) (fun _ i _ => n - (intOf i).toNat)
  case atStart => exact ⟨0, by omega, rfl, by simpa [le] using ho2, hbel⟩
  case round =>
    obtain ⟨k, hk, rfl, ho, hbl⟩ := hrel
    clear ho2 hbel
    by_cases hlt : k < n
    · have hby := byte_at k v
      have HS := hid (le_succ k v)
      obtain ⟨x, hx⟩ : ∃ x, x = UInt8.ofNat (v / 256 ^ k) := ⟨_, rfl⟩
      rw [← hx] at hby HS
      clear hx
      have hll : (bs ++ le k v).length = bs.length + k := by simp [le_length]
      obtain ⟨l, hl⟩ : ∃ l, l = bs ++ le k v := ⟨_, rfl⟩
      rw [← hl] at ho hll
      have HL := hid hl
      have HLL := hid hll
      clear hl hll
      go_wp2_with (at_builtin; refine append_byte _ rfl _ _ 25 5 rfl Try.underlying25 Try.info5 w.heap.size _ l x rfl (ho.alloc _) _ _ rfl ?_ ?_ ?_ ?_)
      · exact cell_alloc1 _ _ _
      · have := HLL.out; omega
      · have := hbl.size; simp; omega
      intro v3 w3 ho3 hb3
      have hbl3 := (hbl.alloc (hbl.size) _).trans hb3
      have ho4 : OwnB w3 w.heap.size 5 v3 (bs ++ le (k + 1) v) := by rw [HS.out, ← List.append_assoc, ← HL.out]; exact ho3
      clear ho3 hb3 ho hby
      go_wp2
      go_roundw
      case rel => exact ⟨k + 1, by omega, by go_num, ho4, hbl3⟩
      case measure => simp [intOf]; omega
    · obtain rfl : k = n := by omega
      go_wp2
      go_ret2
      exact ⟨_, rfl, ho, hbl⟩

theorem wr_u64 (v : Nat) (h : v < 18446744073709551616) : IntKind.u64.wrap (v : Int) = (v : Int) := by rw [IntKind.wrap_u64]; omega

set_option maxRecDepth 100000 in
theorem rnum_any (bs : List UInt8) (bv : Value) (n v : Nat) (w : World) (hb : SlB w w.heap.size bv bs) (hlen : bs.length ≤ 1000000000) (h1 : 1 ≤ n) (h4 : n ≤ 4) (hv : v < 256 ^ n) :
    Calls Try.prog 54 #[bv, .int .i64 n, .int .i64 v] w fun e w' => ∃ ov, e = .returned ov ∧ OwnB w' w.heap.size 5 ov (bs ++ le n v) ∧ Below w.heap.size w w' := by
  have hv4 : v < 256 ^ 4 := Nat.lt_of_lt_of_le hv (Nat.pow_le_pow_right (by omega) h4)
  have hv' : v < 4294967296 := hv4
  have HC := hid (rput_any bs bv n v w hb hlen h1 h4 hv)
  have hw := wr_u64 v (by omega)
  clear hb hv hv4
  go_enter Try.func54, Try.ntmps54
  go_wp2_with fail
  refine HC.out.mono ?_
  rintro e w' ⟨ov, rfl, ho, hbel⟩
  go_wp2
  go_ret
  exact ⟨ov, rfl, ho, hbel⟩
set_option maxRecDepth 100000 in
theorem rNum_any (bs : List UInt8) (bv : Value) (n v : Nat) (w : World) (hb : SlB w w.heap.size bv bs) (hlen : bs.length ≤ 1000000000) (h1 : 1 ≤ n) (h4 : n ≤ 4) (hv : v < 256 ^ n) :
    Calls Try.prog 39 #[bv, .int .i64 n, .int .i64 v] w fun e w' => ∃ ov, e = .returned ov ∧ OwnB w' w.heap.size 5 ov (bs ++ le n v) ∧ Below w.heap.size w w' := by
  have HC := hid (rnum_any bs bv n v w hb hlen h1 h4 hv)
  clear hb hv
  go_enter Try.func39, Try.ntmps39
  go_wp2_with fail
  refine HC.out.mono ?_
  rintro e w' ⟨ov, rfl, ho, hbel⟩
  go_wp2
  go_ret
  exact ⟨ov, rfl, ho, hbel⟩
end Go.Proofs.Ytoccgpddmhhlgaa
