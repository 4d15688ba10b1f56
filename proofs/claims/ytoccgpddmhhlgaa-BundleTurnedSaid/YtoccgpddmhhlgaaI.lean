import Derived.Test.YtoccgpddmhhlgaaG
import Derived.Test.YtoccgpddmhhlgaaO
import Derived.BigQuiet
namespace Go.Mx
open Go.RowKit
theorem dropD {α} (l : List α) (k : Nat) (d : α) (hk : k < l.length) : l.drop k = l.getD k d :: l.drop (k+1) := by
  rw [List.drop_eq_getElem_cons hk, List.getD_eq_getElem?_getD, List.getElem?_eq_getElem hk]; rfl
theorem takeD {α} (l : List α) (k : Nat) (d : α) (hk : k < l.length) : l.take (k+1) = l.take k ++ [l.getD k d] := by
  rw [List.take_succ_eq_append_getElem hk, List.getD_eq_getElem?_getD, List.getElem?_eq_getElem hk]; rfl
end Go.Mx
namespace Go.Proofs.Ytoccgpddmhhlgaa
open Go.RowKit Go.Mx Go.Crc Go.Str

theorem size47 : ∀ w, (sizeOf 47).run Try.prog w = .ok 2 w := fun w => by kernel_rfl

/-- a slice of records -/
def SlR (w : World) (B : Nat) (v : Value) (rs : List Rec) : Prop :=
  ∃ rows : List (List Value), rows.length = rs.length ∧ SlG w B 2 v rows ∧ ∀ i, i < rs.length → ∃ dv, rows.getD i [] = [.int .i64 (rs.getD i default).at_, dv] ∧ SlB w B dv (rs.getD i default).data
theorem SlR.below {w w' : World} {B B' : Nat} {v : Value} {rs : List Rec} (h : SlR w B v rs) (hb : Below B' w w') (hB : B ≤ B') : SlR w' B v rs := by
  obtain ⟨rows, h1, h2, h3⟩ := h
  exact ⟨rows, h1, h2.below hb hB, fun i hi => by obtain ⟨dv, e, hs⟩ := h3 i hi; exact ⟨dv, e, hs.below hb hB⟩⟩
theorem SlR.mono {w : World} {B B' : Nat} {v : Value} {rs : List Rec} (h : SlR w B v rs) (hB : B ≤ B') : SlR w B' v rs := by
  obtain ⟨rows, h1, h2, h3⟩ := h
  exact ⟨rows, h1, h2.mono hB, fun i hi => by obtain ⟨dv, e, hs⟩ := h3 i hi; exact ⟨dv, e, hs.mono hB⟩⟩
theorem SlR.nil (w : World) (B : Nat) : SlR w B (.slice none 0 0) [] := ⟨[], rfl, SlG.nil _ _ _, fun i hi => by simp at hi⟩
theorem SlR.len {w : World} {B : Nat} {v : Value} {rs : List Rec} (h : SlR w B v rs) (w' : World) {ty : TypeId} : (Builtin.len_ #[37] ty #[v]).run Try.prog w' = .ok (.int .i64 rs.length) w' := by
  obtain ⟨rows, h1, h2, h3⟩ := h
  have := h2.len (P := Try.prog) (ty := ty) Try.underlying37 w'
  rwa [h1] at this
theorem SlR.at {w : World} {B : Nat} {v : Value} {rs : List Rec} (h : SlR w B v rs) (i : Nat) (hi : i < rs.length) :
    ∃ b o dv, b < B ∧ (∀ w' (k : IntKind), (Instr.indexAt 37 v (.int k (i : Int))).run Try.prog w' = .ok (.pointer (some ⟨b, o, none⟩)) w') ∧ w.cell? ⟨b, o, none⟩ = some (.int .i64 (rs.getD i default).at_) ∧ w.cell? ⟨b, o + 1, none⟩ = some dv ∧ SlB w B dv (rs.getD i default).data := by
  obtain ⟨rows, h1, h2, h3⟩ := h
  obtain ⟨dv, e, hs⟩ := h3 i hi
  obtain ⟨b, o, hb, hia, hc⟩ := h2.addr (P := Try.prog) Try.underlying37 size47 i (by omega)
  rw [e] at hc
  exact ⟨b, o, dv, hb, hia, hc 0 _ rfl, hc 1 _ rfl, hs⟩

theorem SlR.small {w : World} {B : Nat} {v : Value} {rs : List Rec} (h : SlR w B v rs) : rs.length ≤ 9223372036854775807 := by
  obtain ⟨rows, h1, ⟨_, c, _, q1, q2, _⟩, h3⟩ := h
  unfold maxLen at q2; omega

def strmV (s : Strm) (sv : Value) : Value := .agg #[.bool s.full, .int .i64 s.size, sv]

set_option maxRecDepth 100000 in
set_option maxHeartbeats 2000000 in
theorem right_any (s : Strm) (sv : Value) (w : World) (h : SlR w w.heap.size sv s.recs) :
    Calls Try.prog 23 #[strmV s sv] w fun e w' => e = .returned (.bool (right s)) ∧ Below w.heap.size w w' := by
  obtain ⟨R, hR⟩ : ∃ R, R = right s := ⟨_, rfl⟩
  rw [← hR]
  have hlen := fun w' => h.len (ty := 3) w'
  have H := hid h
  unfold strmV
  obtain ⟨f, z, l⟩ := s
  have hll : l.length ≤ 9223372036854775807 := SlR.small h
  simp only at H hlen ⊢
  have hb0 : Below w.heap.size w (w.alloc (.cells #[.bool f, .int .i64 z, sv] 39)) := (Below.refl _ _).alloc (Nat.le_refl _) _
  by_cases h0 : 0 ≤ z
  rotate_left
  · have : R = false := by rw [hR]; simp [right]; omega
    subst this; clear hR h
    go_enter Try.func23, Try.ntmps23
    go_wp2
    go_ret
    exact ⟨rfl, hb0⟩
  by_cases h1 : z ≤ 4096
  rotate_left
  · have : R = false := by rw [hR]; simp [right]; omega
    subst this; clear hR h
    go_enter Try.func23, Try.ntmps23
    go_wp2
    go_ret
    exact ⟨rfl, hb0⟩
  have HR : Hid (R = rightFrom z 0 l) := by unfold Hid; rw [hR]; simp [right, h0, h1]
  clear hR h
  have hcl : (w.alloc (.cells #[.bool f, .int .i64 z, sv] 39)).cell? ⟨w.heap.size, 1, none⟩ = some (.int .i64 z) := World.cell?_alloc_at #[.bool f, .int .i64 z, sv] 39 w.heap.size 1 rfl
  have HC := hid hcl
  have HB0 := hid hb0
  clear hcl hb0
  go_enter Try.func23, Try.ntmps23
  go_wp2
  go_loopw [3, 18] (fun a i wr => ∃ (k : Nat) (A : Int), k ≤ l.length ∧ i = .int .i64 k ∧ a = .int .i64 A ∧ 0 ≤ A ∧ A ≤ 4096 ∧ Hid (R = rightFrom z A (l.drop k)) ∧ Below w.heap.size w wr ∧ wr.cell? ⟨w.heap.size, 1, none⟩ = some (.int .i64 z) ∧ w.heap.size < wr.heap.size) (fun _ i _ => l.length - (intOf i).toNat)
  case atStart => exact ⟨0, 0, by omega, rfl, rfl, by omega, by omega, by rw [List.drop_zero]; exact HR, HB0.out, HC.out, by simp⟩
  case round =>
    obtain ⟨k, A, hk, rfl, rfl, hA0, hA1, HR2, hbl, hcz, hsz⟩ := hrel
    clear HC HR
    by_cases hlt : k < l.length
    · obtain ⟨b, o, dv, hbb, hia, d0, d1, hs⟩ := (H.out.below hbl (Nat.le_refl _)).at k hlt
      have hR3 := HR2.out
      rw [dropD l k default hlt, rightFrom] at hR3
      obtain ⟨r, hr⟩ : ∃ r, r = l.getD k default := ⟨_, rfl⟩
      rw [← hr] at hR3 d0 hs
      clear hr HR2
      obtain ⟨at_, dat⟩ := r
      simp only at d0 hs
      have hld := fun w' => hs.len (P := Try.prog) (ty := 3) Try.underlying25 w'
      have hn : (Rec.mk at_ dat).n = dat.length / 16 := rfl
      have hml : dat.length ≤ 9223372036854775807 := by obtain ⟨_, c, _, q1, q2, _⟩ := hs; unfold maxLen at q2; omega
      have hbl1 := hbl.alloc hbl.size (.cells #[.int .i64 at_, dv] 47)
      have hc1 : (wr.alloc (.cells #[.int .i64 at_, dv] 47)).cell? ⟨w.heap.size, 1, none⟩ = some (.int .i64 z) := (((Below.refl wr.heap.size wr).alloc (Nat.le_refl _) _).cell (p := ⟨w.heap.size, 1, none⟩) hsz).trans hcz
      obtain ⟨oa, nn, cp, rfl⟩ : ∃ oa n c, dv = .slice oa n c := by obtain ⟨oa1, cp1, hv1, _⟩ := hs; exact ⟨_, _, _, hv1⟩
      have HBL1 := hid hbl1
      clear hbl1
      have hokn : okR z A ⟨at_, dat⟩ = false → R = false := fun h => by rw [hR3, h]; rfl
      have hok := okR_iff z A ⟨at_, dat⟩
      rw [hn] at hok hR3
      simp only at hok hR3
      have HOK := hid (And.intro hokn (And.intro hok hR3))
      clear hokn hok hR3 hn hs
      by_cases t1 : dat.length / 16 = 0
      · have u1 : ((dat.length : Int) / 16 == 0) = true := by rw [beq_iff_eq]; omega
        have : R = false := HOK.out.1 (by rw [← Bool.not_eq_true, HOK.out.2.1]; omega)
        subst this
        go_wp2
        go_ret
        exact ⟨rfl, HBL1.out⟩
      have u1 : ((dat.length : Int) / 16 == 0) = false := by rw [beq_eq_false_iff_ne]; omega
      by_cases t2 : dat.length % 16 = 0
      rotate_left
      · have u2 : ((dat.length : Int) % 16 != 0) = true := by rw [bne_iff_ne]; omega
        have : R = false := HOK.out.1 (by rw [← Bool.not_eq_true, HOK.out.2.1]; omega)
        subst this
        go_wp2
        go_ret
        exact ⟨rfl, HBL1.out⟩
      have u2 : ((dat.length : Int) % 16 != 0) = false := by rw [bne_eq_false_iff_eq]; omega
      by_cases t3 : A ≤ at_
      rotate_left
      · have : R = false := HOK.out.1 (by rw [← Bool.not_eq_true, HOK.out.2.1]; omega)
        subst this
        go_wp2
        go_ret
        exact ⟨rfl, HBL1.out⟩
      by_cases t4 : at_ ≤ z
      rotate_left
      · have : R = false := HOK.out.1 (by rw [← Bool.not_eq_true, HOK.out.2.1]; omega)
        subst this
        go_wp2
        go_ret
        exact ⟨rfl, HBL1.out⟩
      by_cases t5 : ((dat.length / 16 : Nat) : Int) ≤ z - at_
      rotate_left
      · have u5 : ¬ (dat.length : Int) / 16 ≤ z - at_ := by omega
        have : R = false := HOK.out.1 (by rw [← Bool.not_eq_true, HOK.out.2.1]; omega)
        subst this
        go_wp2
        go_ret
        exact ⟨rfl, HBL1.out⟩
      have HR3 : Hid (R = rightFrom z (at_ + ((dat.length / 16 : Nat) : Int)) (l.drop (k + 1))) := by
        have h1 := HOK.out.2.1.2 ⟨by omega, t2, t3, t4, t5⟩
        have h2 := HOK.out.2.2
        rw [h1, Bool.true_and] at h2
        exact h2
      have u5 : (dat.length : Int) / 16 ≤ z - at_ := by omega
      clear HOK
      go_wp2
      go_roundw
      case rel => exact ⟨k + 1, at_ + ((dat.length / 16 : Nat) : Int), by omega, by go_num, by go_num, by omega, by omega, HR3, HBL1.out, hc1, by simp; omega⟩
      case measure => simp [intOf]; omega
    · have hR3 := HR2.out
      rw [List.drop_eq_nil_of_le (by omega)] at hR3
      have hR4 : R = true := hR3
      subst hR4
      clear hR3 HR2
      go_wp2
      go_ret
      exact ⟨rfl, hbl⟩
set_option maxRecDepth 100000 in
set_option maxHeartbeats 2000000 in
theorem rright_any (s : Strm) (sv : Value) (w : World) (h : SlR w w.heap.size sv s.recs) :
    Calls Try.prog 24 #[strmV s sv] w fun e w' => e = .returned (.bool (right s)) ∧ Below w.heap.size w w' := by
  obtain ⟨R, hR⟩ : ∃ R, R = right s := ⟨_, rfl⟩
  rw [← hR]
  have hlen := fun w' => h.len (ty := 3) w'
  have H := hid h
  unfold strmV
  obtain ⟨f, z, l⟩ := s
  have hll : l.length ≤ 9223372036854775807 := SlR.small h
  simp only at H hlen ⊢
  have hb0 : Below w.heap.size w (w.alloc (.cells #[.bool f, .int .i64 z, sv] 39)) := (Below.refl _ _).alloc (Nat.le_refl _) _
  by_cases h0 : 0 ≤ z
  rotate_left
  · have : R = false := by rw [hR]; simp [right]; omega
    subst this; clear hR h
    go_enter Try.func24, Try.ntmps24
    go_wp2
    go_ret
    exact ⟨rfl, hb0⟩
  by_cases h1 : z ≤ 4096
  rotate_left
  · have : R = false := by rw [hR]; simp [right]; omega
    subst this; clear hR h
    go_enter Try.func24, Try.ntmps24
    go_wp2
    go_ret
    exact ⟨rfl, hb0⟩
  have HR : Hid (R = rightFrom z 0 l) := by unfold Hid; rw [hR]; simp [right, h0, h1]
  clear hR h
  have hcl : (w.alloc (.cells #[.bool f, .int .i64 z, sv] 39)).cell? ⟨w.heap.size, 1, none⟩ = some (.int .i64 z) := World.cell?_alloc_at #[.bool f, .int .i64 z, sv] 39 w.heap.size 1 rfl
  have hcl2 : (w.alloc (.cells #[.bool f, .int .i64 z, sv] 39)).cell? ⟨w.heap.size, 2, none⟩ = some sv := World.cell?_alloc_at #[.bool f, .int .i64 z, sv] 39 w.heap.size 2 rfl
  have HC := hid (And.intro hcl hcl2)
  have HB0 := hid hb0
  clear hcl hcl2 hb0
  go_enter Try.func24, Try.ntmps24
  go_wp2
  go_loopw [3, 4] (fun a i wr => ∃ (k : Nat) (A : Int), k ≤ l.length ∧ i = .int .i64 k ∧ a = .int .i64 A ∧ 0 ≤ A ∧ A ≤ 4096 ∧ Hid (R = rightFrom z A (l.drop k)) ∧ Below w.heap.size w wr ∧ wr.cell? ⟨w.heap.size, 1, none⟩ = some (.int .i64 z) ∧ wr.cell? ⟨w.heap.size, 2, none⟩ = some sv ∧ w.heap.size < wr.heap.size) (fun _ i _ => l.length - (intOf i).toNat)
  case atStart => exact ⟨0, 0, by omega, rfl, rfl, by omega, by omega, by rw [List.drop_zero]; exact HR, HB0.out, HC.out.1, HC.out.2, by simp⟩
  case round =>
    obtain ⟨k, A, hk, rfl, rfl, hA0, hA1, HR2, hbl, hcz, hcy, hsz⟩ := hrel
    clear HC HR
    by_cases hlt : k < l.length
    · obtain ⟨b, o, dv, hbb, hia, d0, d1, hs⟩ := (H.out.below hbl (Nat.le_refl _)).at k hlt
      have hR3 := HR2.out
      rw [dropD l k default hlt, rightFrom] at hR3
      obtain ⟨r, hr⟩ : ∃ r, r = l.getD k default := ⟨_, rfl⟩
      rw [← hr] at hR3 d0 hs
      clear hr HR2
      obtain ⟨at_, dat⟩ := r
      simp only at d0 hs
      have hld := fun w' => hs.len (P := Try.prog) (ty := 3) Try.underlying25 w'
      have hn : (Rec.mk at_ dat).n = dat.length / 16 := rfl
      have hml : dat.length ≤ 9223372036854775807 := by obtain ⟨_, c, _, q1, q2, _⟩ := hs; unfold maxLen at q2; omega
      have hbl1 := hbl.alloc hbl.size (.cells #[.int .i64 at_, dv] 47)
      have hc1 : (wr.alloc (.cells #[.int .i64 at_, dv] 47)).cell? ⟨w.heap.size, 1, none⟩ = some (.int .i64 z) := (((Below.refl wr.heap.size wr).alloc (Nat.le_refl _) _).cell (p := ⟨w.heap.size, 1, none⟩) hsz).trans hcz
      have hc2 : (wr.alloc (.cells #[.int .i64 at_, dv] 47)).cell? ⟨w.heap.size, 2, none⟩ = some sv := (((Below.refl wr.heap.size wr).alloc (Nat.le_refl _) _).cell (p := ⟨w.heap.size, 2, none⟩) hsz).trans hcy
      obtain ⟨oa, nn, cp, rfl⟩ : ∃ oa n c, dv = .slice oa n c := by obtain ⟨oa1, cp1, hv1, _⟩ := hs; exact ⟨_, _, _, hv1⟩
      have HBL1 := hid hbl1
      clear hbl1
      have hokn : okR z A ⟨at_, dat⟩ = false → R = false := fun h => by rw [hR3, h]; rfl
      have hok := okR_iff z A ⟨at_, dat⟩
      rw [hn] at hok hR3
      simp only at hok hR3
      have HOK := hid (And.intro hokn (And.intro hok hR3))
      clear hokn hok hR3 hn hs
      by_cases t1 : dat.length / 16 = 0
      · have u1 : (dat.length : Int) / 16 < 1 := by omega
        have : R = false := HOK.out.1 (by rw [← Bool.not_eq_true, HOK.out.2.1]; omega)
        subst this
        go_wp2
        go_ret
        exact ⟨rfl, HBL1.out⟩
      have u1 : ¬ (dat.length : Int) / 16 < 1 := by omega
      by_cases t2 : dat.length % 16 = 0
      rotate_left
      · have u2 : ((dat.length : Int) % 16 != 0) = true := by rw [bne_iff_ne]; omega
        have : R = false := HOK.out.1 (by rw [← Bool.not_eq_true, HOK.out.2.1]; omega)
        subst this
        go_wp2
        go_ret
        exact ⟨rfl, HBL1.out⟩
      have u2 : ((dat.length : Int) % 16 != 0) = false := by rw [bne_eq_false_iff_eq]; omega
      by_cases t3 : A ≤ at_
      rotate_left
      · have : R = false := HOK.out.1 (by rw [← Bool.not_eq_true, HOK.out.2.1]; omega)
        subst this
        go_wp2
        go_ret
        exact ⟨rfl, HBL1.out⟩
      by_cases t4 : at_ ≤ z
      rotate_left
      · have : R = false := HOK.out.1 (by rw [← Bool.not_eq_true, HOK.out.2.1]; omega)
        subst this
        go_wp2
        go_ret
        exact ⟨rfl, HBL1.out⟩
      by_cases t5 : ((dat.length / 16 : Nat) : Int) ≤ z - at_
      rotate_left
      · have u5 : ¬ (dat.length : Int) / 16 ≤ z - at_ := by omega
        have : R = false := HOK.out.1 (by rw [← Bool.not_eq_true, HOK.out.2.1]; omega)
        subst this
        go_wp2
        go_ret
        exact ⟨rfl, HBL1.out⟩
      have HR3 : Hid (R = rightFrom z (at_ + ((dat.length / 16 : Nat) : Int)) (l.drop (k + 1))) := by
        have h1 := HOK.out.2.1.2 ⟨by omega, t2, t3, t4, t5⟩
        have h2 := HOK.out.2.2
        rw [h1, Bool.true_and] at h2
        exact h2
      have u5 : (dat.length : Int) / 16 ≤ z - at_ := by omega
      clear HOK
      go_wp2
      go_roundw
      case rel => exact ⟨k + 1, at_ + ((dat.length / 16 : Nat) : Int), by omega, by go_num, by go_num, by omega, by omega, HR3, HBL1.out, hc1, hc2, by simp; omega⟩
      case measure => simp [intOf]; omega
    · have hR3 := HR2.out
      rw [List.drop_eq_nil_of_le (by omega)] at hR3
      have hR4 : R = true := hR3
      subst hR4
      clear hR3 HR2
      go_wp2
      go_ret
      exact ⟨rfl, hbl⟩
end Go.Proofs.Ytoccgpddmhhlgaa
