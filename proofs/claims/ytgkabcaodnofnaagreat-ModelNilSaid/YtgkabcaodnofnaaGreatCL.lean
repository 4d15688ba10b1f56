import Derived.Test.YtgkabcaodnofnaaGreatWR
import Derived.Shelf.SlMaps.Clone

namespace Go.Proofs.YtgkabcaodnofnaaGreat
open Go.RowKit Go.Mx Go.Md
set_option linter.unusedVariables false
set_option linter.unusedSimpArgs false
def clone60_ren : Go.Shelf.Ren := ⟨fun | 5 => 60 | 7 => 67 | n => n, fun | 4 => 4 | 20 => 20 | 23 => 84 | 25 => 3 | 3 => 23 | n => n, fun | n => n⟩
theorem clone60 : Go.Proofs.SlLaysW.n5 Tryz.prog clone60_ren where
  mixed := by kernel_rfl
  f5 := ⟨ "maps.Clone[map[int][]byte,int,[]byte]", by decide, Tryz.func60.trans (congrArg some (by kernel_rfl))⟩
  f7 := Tryz.func67.trans (congrArg some (by kernel_rfl))
  t4 := Tryz.underlying4
  a4 := Tryz.isAgg4
  z4 := Tryz.sizeOf4
  v4 := Tryz.zeroValue4
  t20 := Tryz.underlying20
  a20 := Tryz.isAgg20
  z20 := Tryz.sizeOf20
  v20 := Tryz.zeroValue20
  t23 := Tryz.underlying84
  a23 := Tryz.isAgg84
  z23 := Tryz.sizeOf84
  v23 := Tryz.zeroValue84
def clone30_ren : Go.Shelf.Ren := ⟨fun | 5 => 30 | 7 => 67 | n => n, fun | 4 => 4 | 20 => 20 | 23 => 58 | 25 => 9 | 3 => 4 | n => n, fun | n => n⟩
theorem clone30 : Go.Proofs.SlLaysW.n5 Tryz.prog clone30_ren where
  mixed := by kernel_rfl
  f5 := ⟨ "maps.Clone[map[string]bool,string,bool]", by decide, Tryz.func30.trans (congrArg some (by kernel_rfl))⟩
  f7 := Tryz.func67.trans (congrArg some (by kernel_rfl))
  t4 := Tryz.underlying4
  a4 := Tryz.isAgg4
  z4 := Tryz.sizeOf4
  v4 := Tryz.zeroValue4
  t20 := Tryz.underlying20
  a20 := Tryz.isAgg20
  z20 := Tryz.sizeOf20
  v20 := Tryz.zeroValue20
  t23 := Tryz.underlying58
  a23 := Tryz.isAgg58
  z23 := Tryz.sizeOf58
  v23 := Tryz.zeroValue58
theorem mclone60 {w : World} {m : Nat} {l : ML Int} (h : GM EI Tryz.prog 3 w m l) : Calls Tryz.prog 60 #[.map (some m)] w fun e w' => e = .returned (.map (some w.heap.size)) ∧ GM EI Tryz.prog 3 w' w.heap.size l ∧ Below w.heap.size w w' ∧ w'.heap.size = w.heap.size + 1 := by
  obtain ⟨D, h1, h2⟩ := h
  obtain ⟨es, mc, hm⟩ := id h1
  refine (AnyW.maps_Clone clone60 m es mc w hm.1).mono fun e w' ⟨he, hw⟩ => ?_
  subst hw
  refine ⟨he, ⟨D, ⟨es, mc, ?_, hm.2⟩, h2⟩, (Below.refl _ w).alloc (Nat.le_refl _) _, by simp⟩
  exact alloc_new w _
theorem mclone30 {w : World} {m : Nat} {l : ML (List UInt8)} (h : GM ES Tryz.prog 9 w m l) : Calls Tryz.prog 30 #[.map (some m)] w fun e w' => e = .returned (.map (some w.heap.size)) ∧ GM ES Tryz.prog 9 w' w.heap.size l ∧ Below w.heap.size w w' ∧ w'.heap.size = w.heap.size + 1 := by
  obtain ⟨D, h1, h2⟩ := h
  obtain ⟨es, mc, hm⟩ := id h1
  refine (AnyW.maps_Clone clone30 m es mc w hm.1).mono fun e w' ⟨he, hw⟩ => ?_
  subst hw
  refine ⟨he, ⟨D, ⟨es, mc, ?_, hm.2⟩, h2⟩, (Below.refl _ w).alloc (Nat.le_refl _) _, by simp⟩
  exact alloc_new w _
theorem info90 : (Tryz.prog.info? 90).map (fun i => (i.zero, i.size, i.bytes)) = some (some (.agg #[.string ⟨#[]⟩, .int .i64 0, .map none]), 3, 32) := by kernel_rfl
theorem size90 (w : World) : (sizeOf 90).run Tryz.prog w = .ok 3 w := by kernel_rfl
set_option maxRecDepth 100000 in
theorem clone90 (v : Value) (rows : List (List Value)) (B : Nat) (w : World) (h : SlG w B 3 v rows) (hB : B ≤ w.heap.size) (hr : ∀ r ∈ rows, r.length = 3) (hone : ∀ r ∈ rows, ∀ u ∈ r, u.oneCell' = true) (hl : rows.length ≤ 100000000000) : Calls Tryz.prog 61 #[v] w fun e w' => ∃ v', e = .returned v' ∧ OwnG w' w.heap.size 90 3 v' rows ∧ Below w.heap.size w w' := by
  obtain ⟨oa, cap, rfl, h1, h2, h3⟩ := id h
  cases oa with
  | none =>
    have hb : rows = [] := by
      cases rows with
      | nil => rfl
      | cons y r => obtain ⟨_, _, hh, _⟩ := h3 (by simp); cases hh
    subst hb
    have hq : ∀ w', (binOp .eql 85 (.slice none 0 cap) (.slice none 0 0)).run Tryz.prog w' = .ok (.bool true) w' := fun w' => run_eql_nil_slice w' 85 90 none 0 cap 0 0 Tryz.underlying85
    clear h h1 h2 h3
    go_enter Tryz.func61, Tryz.ntmps61
    go_wp2
    go_ret
    exact ⟨_, rfl, OwnG.nil _ _ _ _, Below.refl _ _⟩
  | some ad =>
    obtain ⟨N, hN⟩ : ∃ N, N = rows.length := ⟨_, rfl⟩
    rw [← hN] at h
    have hq : ∀ w', (binOp .eql 85 (.slice (some ad) N cap) (.slice none 0 0)).run Tryz.prog w' = .ok (.bool false) w' := fun w' => Lib.run_eql_slice_nil w' 85 90 _ _ _ _ _ Tryz.underlying85
    have HH := hid h
    have HN := hid hN
    rw [← hN]
    clear h h1 h2 h3 hN
    go_enter Tryz.func61, Tryz.ntmps61
    go_wp2_with (at_builtin; refine append_sg _ rfl _ _ 85 90 _ 3 32 rfl Tryz.underlying85 info90 rfl (by decide) w.heap.size _ [] rfl (OwnG.empty w 90 3) B _ rows rfl (HH.out.below ((Below.refl _ _).alloc (Nat.le_refl _) _) hB) hr hone ?_ ?_ ?_ ?_)
    · simp; omega
    · simp; omega
    · first | exact Nat.le_refl _ | (simp; try omega)
    intro v' w' ho' hg' hb'
    have hb := ((Below.refl w.heap.size w).alloc (Nat.le_refl _) (.cells #[] 90)).trans hb'
    have ho' : OwnG w' w.heap.size 90 3 v' rows := ho'
    clear hg' hb'
    go_wp2
    go_ret
    exact ⟨_, rfl, ho', hb⟩
theorem sxrow_len (l : List SX) : ∀ r ∈ l.map sxrow, r.length = 3 := fun r hr => by obtain ⟨x, _, rfl⟩ := List.mem_map.1 hr; rfl
theorem sxrow_one (l : List SX) : ∀ r ∈ l.map sxrow, ∀ u ∈ r, u.oneCell' = true := fun r hr u hu => by
  obtain ⟨x, _, rfl⟩ := List.mem_map.1 hr
  simp at hu; rcases hu with rfl | rfl | rfl <;> rfl
end Go.Proofs.YtgkabcaodnofnaaGreat
