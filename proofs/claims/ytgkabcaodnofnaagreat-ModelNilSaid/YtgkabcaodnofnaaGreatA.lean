import Derived.RangeFuncNested
import Derived.RangeFuncBound
import Derived.RangeFuncCalls
import Derived.RangeFuncLeaves
import Derived.Shelf.Abstract
import Derived.Shelf.RegionOpen
import Derived.WalkKit
import Derived.OwnWalkIn
import Derived.TacticsInMore
import Derived.LoopNIn
import Derived.LoopIn
import Derived.Maps.AppendAt
import Derived.WalkLawsBesides
import Derived.Test.YtgkabcaodnofnaaGreatRows
import Derived.Test.YtgkabcaodnofnaaGreatGM
import Derived.Test.YtgkabcaodnofnaaGreatL
namespace Go.Proofs.YtgkabcaodnofnaaGreat
open Go.RowKit Go.Mx Go.Md Go.Shelf
set_option linter.unusedVariables false
set_option linter.unusedSimpArgs false
attribute [local go_sem] Oper.semAt_some
abbrev spV (s : Sp) : Value := .agg #[.int .i64 s.1, .int .i64 s.2]
abbrev spC (s : Sp) : List Value := [.int .i64 s.1, .int .i64 s.2]
theorem size111 (w : World) : (sizeOf 111).run Tryz.prog w = .ok 2 w := by kernel_rfl
theorem info111 : (Tryz.prog.info? 111).map (fun i => (i.zero, i.size, i.bytes)) = some (some (.agg #[.int .i64 0, .int .i64 0]), 2, 16) := by kernel_rfl
theorem may_any (s : Sp) (w : World) : Calls Tryz.prog 154 #[spV s] w fun e w' => e = .returned (.bool (mayS s)) ∧ Below w.heap.size w w' := by
  obtain ⟨a, b⟩ := s
  have hb : Below w.heap.size w (w.alloc (.cells #[.int .i64 a, .int .i64 b] 111)) := (Below.refl _ _).alloc (Nat.le_refl _) _
  have HB := hid hb
  clear hb
  by_cases h1 : 0 ≤ a
  · have t1 : decide (0 ≤ a) = true := by simpa using h1
    by_cases h2 : a < b
    · have t2 : decide (a < b) = true := by simpa using h2
      have HR : Hid (mayS (a, b) = decide (b ≤ 1073741824)) := hid (by unfold mayS; simp [h1, h2])
      go_enter Tryz.func154, Tryz.ntmps154
      go_wp2
      go_ret
      exact ⟨by rw [HR.out]; rfl, HB.out⟩
    · have t2 : decide (a < b) = false := by simpa using h2
      have HR : Hid (mayS (a, b) = false) := hid (by unfold mayS; simp [h1, h2])
      go_enter Tryz.func154, Tryz.ntmps154
      go_wp2
      go_ret
      exact ⟨by rw [HR.out]; rfl, HB.out⟩
  · have t1 : decide (0 ≤ a) = false := by simpa using h1
    have HR : Hid (mayS (a, b) = false) := hid (by unfold mayS; simp [h1])
    go_enter Tryz.func154, Tryz.ntmps154
    go_wp2
    go_ret
    exact ⟨by rw [HR.out]; rfl, HB.out⟩
/-- a slice of spans that may be read -/
abbrev SpS (w : World) (B : Nat) (v : Value) (l : List Sp) : Prop := SlG w B 2 v (l.map spC)
theorem SpS.at {w : World} {B : Nat} {v : Value} {l : List Sp} (h : SpS w B v l) {i : Nat} {s : Sp} (hi : l[i]? = some s) : ∃ b o, b < B ∧ (∀ w' (k : IntKind), (Instr.indexAt 32 v (.int k (i : Int))).run Tryz.prog w' = .ok (.pointer (some ⟨b, o, none⟩)) w') ∧
    w.cell? ⟨b, o, none⟩ = some (.int .i64 s.1) ∧ w.cell? ⟨b, o + 1, none⟩ = some (.int .i64 s.2) := by
  have hl : i < (l.map spC).length := by rw [List.length_map]; exact (List.getElem?_eq_some_iff.1 hi).1
  obtain ⟨b, o, hb, h1, h2⟩ := h.addr (P := Tryz.prog) Tryz.underlying32 size111 i hl
  have hg : (l.map spC).getD i [] = spC s := by rw [List.getD_eq_getElem?_getD, List.getElem?_map, hi]; rfl
  rw [hg] at h2
  exact ⟨b, o, hb, h1, h2 0 _ rfl, h2 1 _ rfl⟩
theorem SpS.len {w : World} {B : Nat} {v : Value} {l : List Sp} (h : SpS w B v l) (w' : World) : (Builtin.len_ #[32] 3 #[v]).run Tryz.prog w' = .ok (.int .i64 l.length) w' := by
  have := SlG.len (P := Tryz.prog) (ty := 3) h Tryz.underlying32 w'
  rwa [List.length_map] at this
theorem slG_sh {w : World} {B s : Nat} {v : Value} {rows : List (List Value)} (h : SlG w B s v rows) : ∃ oa n c, v = .slice oa n c := by obtain ⟨oa, c, e, _⟩ := h; exact ⟨_, _, _, e⟩
theorem rightS_drop (l : List Sp) (last : Int) (i : Nat) (s : Sp) (hi : l[i]? = some s) : rightS last (l.drop i) = (mayS s && !decide (s.1 ≤ last) && rightS s.2 (l.drop (i + 1))) := by
  rw [List.drop_eq_getElem_cons (List.getElem?_eq_some_iff.1 hi).1]
  rw [(List.getElem?_eq_some_iff.1 hi).2]; rfl
set_option maxRecDepth 100000 in
theorem right_any (l : List Sp) (v : Value) (w : World) (hl : l.length ≤ 10000000000) (h : SpS w w.heap.size v l) : Calls Tryz.prog 124 #[v] w fun e w' => e = .returned (.bool (rightS (-1) l)) ∧ Below w.heap.size w w' := by
  have hlen := SpS.len h
  obtain ⟨oa, n, c, rfl⟩ := slG_sh h
  have HS := hid h
  clear h
  go_enter Tryz.func124, Tryz.ntmps124
  go_wp2_with fail
  go_loopw [3, 8] (fun s3 s8 wr => ∃ (i : Nat) (last : Int), s3 = .int .i64 last ∧ s8 = .int .i64 i ∧ i ≤ l.length ∧ rightS (-1) l = rightS last (l.drop i) ∧ Below w.heap.size w wr) (fun _ s8 _ => l.length - (intOf s8).toNat)
  case atStart => exact ⟨0, -1, rfl, rfl, by omega, rfl, Below.refl _ _⟩
  case round =>
    obtain ⟨i, last, rfl, rfl, hi, hr, hbl⟩ := hrel
    by_cases hlt : i < l.length
    · obtain ⟨s, hs⟩ : ∃ s, l[i]? = some s := ⟨_, List.getElem?_eq_getElem hlt⟩
      obtain ⟨b, o, hb, hia, g0, g1⟩ := SpS.at (HS.out.below hbl (Nat.le_refl _)) hs
      have HR := hid (And.intro (hr.trans (rightS_drop l last i s hs)) hbl)
      obtain ⟨x, y⟩ := s
      clear hr hs
      have hbA : Below w.heap.size w (wr.alloc (.cells #[.int .i64 x, .int .i64 y] 111)) := hbl.alloc hbl.size _
      have hqA := alloc_new wr (.cells #[.int .i64 x, .int .i64 y] 111)
      have HA := hid (And.intro hbA hqA)
      clear hbA hqA hbl
      go_wp2_with fail
      refine (may_any (x, y) _).mono ?_
      rintro e w2 ⟨rfl, hb2⟩
      have hq2 := (hb2.block _ (blk_lt HA.out.2)).trans HA.out.2
      have c0 : w2.cell? ⟨wr.heap.size, 0, none⟩ = some (.int .i64 x) := by simp [World.cell?, hq2]
      have c1 : w2.cell? ⟨wr.heap.size, 1, none⟩ = some (.int .i64 y) := by simp [World.cell?, hq2]
      have HB := hid (HA.out.1.trans (hb2.mono HA.out.1.size))
      clear hb2 hq2
      cases hm : mayS (x, y)
      · have HM := hid hm
        clear hm
        go_wp2_with fail
        go_ret
        refine ⟨?_, HB.out⟩
        rw [HR.out.1, HM.out]; rfl
      · have HM := hid hm
        clear hm
        by_cases hle : x ≤ last
        · have t1 : decide (x ≤ last) = true := by simpa using hle
          go_wp2_with fail
          go_ret
          refine ⟨?_, HB.out⟩
          rw [HR.out.1, HM.out]; simp [hle]
        · have t1 : decide (x ≤ last) = false := by simpa using hle
          go_wp2_with fail
          refine ⟨⟨i + 1, y, rfl, by go_num, by omega, ?_, HB.out⟩, by simp [intOf]; omega⟩
          rw [HR.out.1, HM.out]; simp [hle]
    · obtain rfl : i = l.length := by omega
      have HR := hid (And.intro hr hbl)
      clear hr hbl
      go_wp2_with fail
      go_ret
      refine ⟨?_, HR.out.2⟩
      rw [HR.out.1, List.drop_length]; rfl
theorem all_any (oa : Option Addr) (n c : Nat) (w : World) : Calls Tryz.prog 131 #[.slice oa n c] w fun e w' => e = .returned (.func (.func 158) #[] #[.pointer (some ⟨w.heap.size, 0, none⟩)]) ∧ w.alloc (.cells #[.slice oa n c] 32) = w' := by
  go_enter Tryz.func131, Tryz.ntmps131
  go_wp2
  go_ret
  exact ⟨rfl, rfl⟩
end Go.Proofs.YtgkabcaodnofnaaGreat
