import Derived.Test.YtoccgpddmhhlgaaV
import Derived.Test.YtoccgpddmhhlgaaSA
namespace Go.Str
open Go.Crc
def one : Strm := ⟨true, 0, []⟩
theorem one_right : right one = true := by decide
theorem one_len : (putB one).length = 13 := by rw [putB_length]; rfl
theorem one_put : putR one = (putB one, 0) := by unfold putR; rw [one_right]; rfl
end Go.Str
namespace Go.Proofs.Ytoccgpddmhhlgaa
open Go.RowKit Go.Mx Go.Crc Go.Str

theorem snumE_any (n : Int) (w : World) : Calls Try.prog 25 #[.int .i64 n] w fun e w' => e = .returned (.int .i64 n) ∧ w = w' := by
  go_enter Try.func25, Try.ntmps25
  go_wp2
  go_ret
  exact ⟨rfl, rfl⟩

def RB0 (w : World) (e : Ending) (w' : World) : Prop := (∃ g, e = .returned (.bool g)) ∧ Below w.heap.size w w'

/-- the boxed stream -/
structure Bx (w0 w : World) (s : Strm) (sv : Value) : Prop where
  box : w.heap[w0.heap.size]? = some (.cells #[.bool s.full, .int .i64 s.size, sv] 39 (0, 0))
  sl : SlR w w0.heap.size sv s.recs
  bel : Below w0.heap.size w0 w
theorem Bx.new {w : World} {s : Strm} {sv : Value} (h : SlR w w.heap.size sv s.recs) : Bx w (w.alloc (.cells #[.bool s.full, .int .i64 s.size, sv] 39)) s sv := by
  have hb : Below w.heap.size w (w.alloc (.cells #[.bool s.full, .int .i64 s.size, sv] 39)) := (Below.refl _ _).alloc (Nat.le_refl _) _
  exact ⟨alloc_new w _, h.below hb (Nat.le_refl _), hb⟩
theorem Bx.step {w0 w w' : World} {s : Strm} {sv : Value} (h : Bx w0 w s sv) (hb : Below w.heap.size w w') : Bx w0 w' s sv :=
  ⟨(hb.block _ (blk_lt h.box)).trans h.box, h.sl.below hb h.bel.size, h.bel.trans (hb.mono h.bel.size)⟩
theorem Bx.cells {w0 w : World} {s : Strm} {sv : Value} (h : Bx w0 w s sv) : w.cell? ⟨w0.heap.size, 0, none⟩ = some (.bool s.full) ∧ w.cell? ⟨w0.heap.size, 1, none⟩ = some (.int .i64 s.size) ∧ w.cell? ⟨w0.heap.size, 2, none⟩ = some sv := by
  have h := h.box
  refine ⟨?_, ?_, ?_⟩ <;> simp [World.cell?, h]
theorem Bx.slw {w0 w : World} {s : Strm} {sv : Value} (h : Bx w0 w s sv) : SlR w w.heap.size sv s.recs := h.sl.mono h.bel.size

set_option maxRecDepth 100000 in
set_option maxHeartbeats 2000000 in
theorem great_any (s : Strm) (sv : Value) (w : World) (h : SlR w w.heap.size sv s.recs) :
    Calls Try.prog 19 #[strmV s sv] w (RB0 w) := by
  have B := Bx.new h
  have hll := h.small
  have hlen := fun w' => h.len (ty := 3) w'
  obtain ⟨c0, c1, c2⟩ := B.cells
  have HB := hid B
  unfold strmV
  obtain ⟨f, z, l⟩ := s
  simp only at *
  clear h B
  go_enter Try.func19, Try.ntmps19
  go_wp2_with fail
  obtain ⟨w1, hw1⟩ : ∃ w1, w1 = w.alloc (.cells #[.bool f, .int .i64 z, sv] 39) := ⟨_, rfl⟩
  rw [← hw1] at HB c0 c1 c2 ⊢
  clear hw1
  go_loop [3, 4] (fun n i => ∃ (k : Nat) (N : Int), k ≤ l.length ∧ i = .int .i64 k ∧ n = .int .i64 N ∧ 0 ≤ N ∧ N ≤ 140001) (fun _ i => l.length - (intOf i).toNat)
  case atStart => exact ⟨0, 0, by omega, rfl, rfl, by omega, by omega⟩
  case round =>
    obtain ⟨k, N, hk, rfl, rfl, hN0, hN1⟩ := hrel
    by_cases hlt : k < l.length
    · by_cases hN : N ≤ 70000
      · obtain ⟨b, o, dv, hbb, hia, d0, d1, hs⟩ := HB.out.sl.at k hlt
        have hld := fun w' => hs.len (P := Try.prog) (ty := 3) Try.underlying25 w'
        simp only at hld d0
        have hml : (l.getD k default).data.length ≤ 9223372036854775807 := by obtain ⟨_, c, _, q1, q2, _⟩ := hs; unfold maxLen at q2; simp only at q1; omega
        obtain ⟨m, hm⟩ : ∃ m, m = (l.getD k default).data.length := ⟨_, rfl⟩
        rw [← hm] at hld hml
        clear hm hs
        go_wp2_with fail
        go_round
        case rel => exact ⟨k + 1, _, by omega, by go_num, rfl, by split <;> omega, by split <;> omega⟩
        case measure => simp [intOf]; omega
      · go_wp2_with fail
        go_ret
        exact ⟨⟨_, rfl⟩, HB.out.bel⟩
    · go_wp2_with fail
      go_ret
      exact ⟨⟨_, rfl⟩, HB.out.bel⟩

set_option maxRecDepth 100000 in
set_option maxHeartbeats 4000000 in
theorem awake_any (w : World) : Calls Try.prog 20 #[] w fun e w' => e = .returned (.bool true) ∧ Below w.heap.size w w' := by
  have HC := hid (sput_any one (.slice none 0 0) w (SlR.nil _ _))
  rw [one_put] at HC
  go_enter Try.func20, Try.ntmps20
  go_wp2_with fail
  refine HC.out.mono ?_
  rintro e w1 ⟨v, rfl, ho, hb1⟩
  have hlb := fun w' => ho.slB.len (P := Try.prog) (ty := 3) Try.underlying25 w'
  rw [one_len] at hlb
  have hlb' : ∀ (w' : World), (Builtin.len_ #[25] 3 #[v]).run Try.prog w' = .ok (.int .i64 13) w' := hlb
  have HG := hid (sget_any (putB one) v w1 ho.slB (by rw [one_len]; omega))
  have HB1 := hid hb1
  clear HC ho hb1 hlb
  go_wp2_with fail
  refine HG.out.mono ?_
  rintro e w2 ⟨hb2, h2⟩
  have hg := get_put one one_right
  rw [hg] at h2
  rcases h2 with ⟨hn, _⟩ | ⟨rv, ps, _, _, _, rfl, ho2, _⟩
  · exact absurd rfl hn
  obtain ⟨ra, rn, rc, rfl⟩ := row_slice ho2
  have hbw := HB1.out.trans (hb2.mono HB1.out.size)
  have HB2 := hid hbw
  clear HG hg hbw ho2 hb2 HB1
  unfold strmV one
  simp only
  go_wp2_with (go_at_call 25; refine (snumE_any _ _).mono ?_; rintro e w' ⟨rfl, rfl⟩)
  go_ret
  exact ⟨rfl, HB2.out.alloc (HB2.out.size) _⟩
end Go.Proofs.Ytoccgpddmhhlgaa
