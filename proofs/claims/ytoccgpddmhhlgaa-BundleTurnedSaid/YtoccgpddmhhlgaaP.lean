import Derived.Test.YtoccgpddmhhlgaaK
namespace Go.Mx
open Go.RowKit
theorem SlB.cutm {w : World} {B n cap : Nat} {oa : Option Addr} {bs : List UInt8} (h : SlB w B (.slice oa n cap) bs) (lo hi m : Nat) (h1 : lo ≤ hi) (h2 : hi ≤ bs.length) (h3 : hi ≤ m) (h4 : m ≤ cap) : SlB w B (sliced oa lo hi m 1) ((bs.take hi).drop lo) := by
  obtain ⟨oa', cap', he, hc, hm, hr⟩ := h
  cases he
  have hl : ((bs.take hi).drop lo).length = hi - lo := by simp; omega
  unfold sliced
  refine ⟨_, _, by rw [hl], by rw [hl]; omega, by omega, fun hn => ?_⟩
  have hlt : lo < hi := by
    rcases Nat.lt_or_ge lo hi with h | h
    · exact h
    · exact absurd (List.eq_nil_of_length_eq_zero (by rw [hl]; omega)) hn
  obtain ⟨bb, bo, rfl, hlb, hrd⟩ := hr (by rintro rfl; simp at h2; omega)
  refine ⟨bb, bo + lo, ?_, hlb, hrd.cut lo hi⟩
  rw [if_neg (by omega)]
  simp [Addr.add]
/-- 'b[lo:hi:hi]' -/
theorem SlB.part3 {w : World} {B : Nat} {v : Value} {bs : List UInt8} {P : Program} {t e : TypeId} (h : SlB w B v bs) (ht : P.underlying t = some (.slice e)) (hs : ∀ w, (sizeOf e).run P w = .ok 1 w) (lo hi : Nat) (h1 : lo ≤ hi) (h2 : hi ≤ bs.length) :
    ∃ v', SlB w B v' ((bs.take hi).drop lo) ∧ ∀ w' (k k' k'' : IntKind), (Instr.slice t v (some (.int k (lo : Int))) (some (.int k' (hi : Int))) (some (.int k'' (hi : Int)))).run P w' = .ok v' w' := by
  obtain ⟨oa', cap', rfl, hc, hm, hr⟩ := id h
  have ht' : P.underlying t = some (.slice (P.elem t)) := by rw [ht]; simp [Program.elem, ht]
  have hel : P.elem t = e := by simp [Program.elem, ht]
  refine ⟨sliced oa' lo hi hi 1, h.cutm lo hi hi h1 h2 (Nat.le_refl _) (by omega), fun w' k k' k'' => ?_⟩
  rw [run_slice_lhm (l := (lo : Int)) (h := (hi : Int)) (m := (hi : Int)) (ht := ht') (h0 := by omega) (h1 := by omega) (h2 := by omega) (h3 := by omega), hel, hs]
  simp [Result.andThen]
end Go.Mx
namespace Go.Proofs.Ytoccgpddmhhlgaa
open Go.RowKit Go.Mx Go.Crc Go.Str

theorem size5 : ∀ w, (sizeOf 5).run Try.prog w = .ok 1 w := fun w => by kernel_rfl

/-- what lies there: n bytes from a place on -/
def atB (b : List UInt8) (a n : Nat) : List UInt8 := (b.take (a + n)).drop a
theorem atB_eq (b : List UInt8) (a n : Nat) : atB b a n = (b.drop a).take n := by unfold atB; rw [List.drop_take]; congr 1; omega
theorem atB_length (b : List UInt8) (a n : Nat) (h : a + n ≤ b.length) : (atB b a n).length = n := by rw [atB_eq]; simp; omega

set_option maxRecDepth 100000 in
set_option maxHeartbeats 2000000 in
theorem there_any (b : List UInt8) (bv : Value) (a n : Nat) (w : World) (hb : SlB w w.heap.size bv b) (hl : b.length ≤ 1000000000) (ha : a ≤ 4000000000) (hn : n ≤ 4000000000) :
    Calls Try.prog 71 #[bv, .int .i64 a, .int .i64 n] w fun e w' => w = w' ∧ (if a + n ≤ b.length then ∃ v, e = .returned (.tuple #[v, .bool true]) ∧ SlB w w.heap.size v (atB b a n) else e = .returned (.tuple #[.slice none 0 0, .bool false])) := by
  have hlb := fun w' => hb.len (P := Try.prog) (ty := 3) Try.underlying25 w'
  by_cases h : a + n ≤ b.length
  · simp only [h, if_true]
    obtain ⟨v', hv, hs⟩ := hb.part3 (P := Try.prog) Try.underlying25 size5 a (a + n) (by omega) h
    have hs' : ∀ w' (k k' k'' : IntKind), (Instr.slice 25 bv (some (.int k (a : Int))) (some (.int k' ((a : Int) + (n : Int)))) (some (.int k'' ((a : Int) + (n : Int))))).run Try.prog w' = .ok v' w' := by simpa using hs
    have g1 : (a : Int) ≤ b.length := by omega
    have g2 : (n : Int) ≤ b.length - (a : Int) := by omega
    have HV := hid hv
    clear hs hv hb
    go_enter Try.func71, Try.ntmps71
    go_wp2
    go_ret2
    exact ⟨rfl, _, rfl, HV.out⟩
  · simp only [h, if_false]
    clear hb
    by_cases h1 : a ≤ b.length
    · have g1 : (a : Int) ≤ b.length := by omega
      have g2 : ¬ (n : Int) ≤ b.length - (a : Int) := by omega
      go_enter Try.func71, Try.ntmps71
      go_wp2
      go_ret2
      exact ⟨rfl, rfl⟩
    · have g1 : ¬ (a : Int) ≤ b.length := by omega
      go_enter Try.func71, Try.ntmps71
      go_wp2
      go_ret2
      exact ⟨rfl, rfl⟩

theorem drop_succ_deL (l : List UInt8) (i n : Nat) (hl : l.length = n) (hi : i < n) : deL (l.drop (n - (i + 1))) = deL (l.drop (n - i)) * 256 + (l.getD (n - 1 - i) 0).toNat := by
  have e : l.drop (n - (i + 1)) = l.getD (n - 1 - i) 0 :: l.drop (n - i) := by
    have := dropD l (n - (i + 1)) 0 (by omega)
    rw [this]
    congr 2 <;> omega
  rw [e, deL]; omega
theorem or_u64 (v x : Nat) (hv : v < 16777216) (hx : x < 256) : bits .or .u64 ((v : Int) * 256) (x : Int) = ((v * 256 + x : Nat) : Int) := by
  rw [show (v : Int) * 256 = ((v * 256 : Nat) : Int) by simp, u64_or_nat _ _ (by omega) (by omega)]
  have := Nat.shiftLeft_add_eq_or_of_lt (i := 8) (b := x) (by omega) v
  rw [Nat.shiftLeft_eq] at this
  rw [← show v * 2 ^ 8 = v * 256 by rfl, ← this]

set_option maxRecDepth 100000 in
set_option maxHeartbeats 2000000 in
theorem get_any (b : List UInt8) (bv : Value) (a n : Nat) (w : World) (hb : SlB w w.heap.size bv b) (hl : b.length ≤ 1000000000) (ha : a ≤ 4000000000) (h1 : 1 ≤ n) (h4 : n ≤ 4) :
    Calls Try.prog 66 #[bv, .int .i64 a, .int .i64 n, .bool false] w fun e w' => w = w' ∧ (if a + n ≤ b.length then e = .returned (.tuple #[.int .u64 (deL (atB b a n)), .int .i64 0]) else e = .returned (.tuple #[.int .u64 0, .int .i64 6])) := by
  have HC := hid (there_any b bv a n w hb hl ha (by omega))
  clear hb
  by_cases h : a + n ≤ b.length
  · simp only [h, if_true] at HC ⊢
    have hL := atB_length b a n h
    obtain ⟨l, hll⟩ : ∃ l, l = atB b a n := ⟨_, rfl⟩
    rw [← hll] at HC hL ⊢
    clear hll h
    go_enter Try.func66, Try.ntmps66
    go_wp2_with fail
    refine HC.out.mono ?_
    rintro e w' ⟨rfl, v, rfl, hv⟩
    have HL := hid hL
    clear hL HC
    go_wp2_with fail
    go_loop [12, 31] (fun x i => ∃ k : Nat, k ≤ n ∧ i = .int .i64 k ∧ x = .int .u64 (deL (l.drop (n - k)))) (fun _ i => n - (intOf i).toNat)
    case atStart => exact ⟨0, by omega, rfl, by rw [List.drop_eq_nil_of_le (by have := HL.out; omega)]; rfl⟩
    case round =>
      obtain ⟨k, hk, rfl, rfl⟩ := hrel
      by_cases hlt : k < n
      · obtain ⟨bb, bo, hbb, hia, hc⟩ := hv.addr (P := Try.prog) Try.underlying25 size5 (n - 1 - k) (by have := HL.out; omega)
        have HD := hid (drop_succ_deL l k n HL.out hlt)
        have hvb : deL (l.drop (n - k)) < 256 ^ k := by
          have := deL_lt (l.drop (n - k))
          rwa [List.length_drop, HL.out, show n - (n - k) = k by omega] at this
        have hv3 : deL (l.drop (n - k)) < 16777216 := Nat.lt_of_lt_of_le hvb (Nat.pow_le_pow_right (n := 256) (by omega) (show k ≤ 3 by omega))
        obtain ⟨x, hx⟩ : ∃ x, x = l.getD (n - 1 - k) 0 := ⟨_, rfl⟩
        obtain ⟨y, hy⟩ : ∃ y, y = deL (l.drop (n - k)) := ⟨_, rfl⟩
        rw [← hx] at HD hc
        rw [← hy] at HD hv3 hvb ⊢
        have hor := or_u64 y x.toNat hv3 x.toNat_lt
        have hwr : IntKind.u64.wrap ((y : Int) * 256) = (y : Int) * 256 := by rw [IntKind.wrap_u64]; omega
        have hwx := wr_u64 x.toNat (by have := x.toNat_lt; omega)
        have hia' : ∀ (w' : World) (k_1 : IntKind), (Instr.indexAt 25 v (.int k_1 ((n : Int) - 1 - (k : Int)))).run Try.prog w' = .ok (.pointer (some ⟨bb, bo, none⟩)) w' := by
          rw [show (n : Int) - 1 - (k : Int) = ((n - 1 - k : Nat) : Int) by omega]; exact hia
        clear hx hy hvb hia
        go_wp2_with fail
        go_round
        case rel => exact ⟨k + 1, by omega, by go_num, by rw [HD.out]; simp⟩
        case measure => simp [intOf]; omega
      · obtain rfl : k = n := by omega
        rw [Nat.sub_self, List.drop_zero]
        go_wp2_with fail
        go_ret2
        exact ⟨rfl, rfl⟩
  · simp only [h, if_false] at HC ⊢
    clear h
    go_enter Try.func66, Try.ntmps66
    go_wp2_with fail
    refine HC.out.mono ?_
    rintro e w' ⟨rfl, rfl⟩
    go_wp2
    go_ret2
    exact ⟨rfl, rfl⟩
end Go.Proofs.Ytoccgpddmhhlgaa
