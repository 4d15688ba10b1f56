import Derived.Test.YtoccgpddmhhlgaaBA
namespace Go.Proofs.Ytoccgpddmhhlgaa
open Go.RowKit Go.Mx Go.Crc Go.Str Go.Bun
set_option linter.unusedSimpArgs false
set_option linter.unusedVariables false

theorem size35 : ∀ w, (sizeOf 35).run Try.prog w = .ok 2 w := fun w => by kernel_rfl
theorem size66 : ∀ w, (sizeOf 66).run Try.prog w = .ok 2 w := fun w => by kernel_rfl
theorem Try.info9 : (Try.prog.info? 9).map (fun i => (i.zero, i.size, i.bytes)) = some (some (.string ⟨#[]⟩), 1, 16) := by kernel_rfl
theorem Try.info66 : (Try.prog.info? 66).map (fun i => (i.zero, i.size, i.bytes)) = some (some (.agg #[.string ⟨#[]⟩, .slice none 0 0]), 2, 40) := by kernel_rfl
theorem Try.info35 : (Try.prog.info? 35).map (fun i => (i.zero, i.size, i.bytes)) = some (some (.agg #[.string ⟨#[]⟩, .slice none 0 0]), 2, 40) := by kernel_rfl

/-- a slice of parts -/
def SlPt (w : World) (B : Nat) (v : Value) (l : List Prt) : Prop :=
  ∃ rows : List (List Value), rows.length = l.length ∧ SlG w B 2 v rows ∧ ∀ i, i < l.length → ∃ dv, rows.getD i [] = [.string ⟨(l.getD i default).name.toArray⟩, dv] ∧ SlB w B dv (l.getD i default).data
theorem SlPt.below {w w' : World} {B B' : Nat} {v : Value} {l : List Prt} (h : SlPt w B v l) (hb : Below B' w w') (hB : B ≤ B') : SlPt w' B v l := by
  obtain ⟨rows, h1, h2, h3⟩ := h
  exact ⟨rows, h1, h2.below hb hB, fun i hi => by obtain ⟨dv, e, hs⟩ := h3 i hi; exact ⟨dv, e, hs.below hb hB⟩⟩
theorem SlPt.mono {w : World} {B B' : Nat} {v : Value} {l : List Prt} (h : SlPt w B v l) (hB : B ≤ B') : SlPt w B' v l := by
  obtain ⟨rows, h1, h2, h3⟩ := h
  exact ⟨rows, h1, h2.mono hB, fun i hi => by obtain ⟨dv, e, hs⟩ := h3 i hi; exact ⟨dv, e, hs.mono hB⟩⟩
theorem SlPt.nil (w : World) (B : Nat) : SlPt w B (.slice none 0 0) [] := ⟨[], rfl, SlG.nil _ _ _, fun i hi => by simp at hi⟩
section
variable {w : World} {B : Nat} {v : Value} {l : List Prt}
theorem SlPt.len (h : SlPt w B v l) (w' : World) {ty : TypeId} : (Builtin.len_ #[22] ty #[v]).run Try.prog w' = .ok (.int .i64 l.length) w' := by
  obtain ⟨rows, h1, h2, h3⟩ := h
  have := h2.len (P := Try.prog) (ty := ty) Try.underlying22 w'
  rwa [h1] at this
theorem SlPt.lenR (h : SlPt w B v l) (w' : World) {ty : TypeId} : (Builtin.len_ #[31] ty #[v]).run Try.prog w' = .ok (.int .i64 l.length) w' := by
  obtain ⟨rows, h1, h2, h3⟩ := h
  have := h2.len (P := Try.prog) (ty := ty) Try.underlying31 w'
  rwa [h1] at this
theorem SlPt.small (h : SlPt w B v l) : l.length ≤ 9223372036854775807 := by
  obtain ⟨rows, h1, ⟨_, c, _, q1, q2, _⟩, h3⟩ := h
  unfold maxLen at q2; omega
theorem SlPt.shape (h : SlPt w B v l) : ∃ oa n c, v = .slice oa n c := by
  obtain ⟨rows, h1, ⟨oa, c, rfl, _⟩, h3⟩ := h
  exact ⟨_, _, _, rfl⟩
theorem SlPt.at (h : SlPt w B v l) (i : Nat) (hi : i < l.length) :
    ∃ b o dv, b < B ∧ (∀ w' (k : IntKind), (Instr.indexAt 22 v (.int k (i : Int))).run Try.prog w' = .ok (.pointer (some ⟨b, o, none⟩)) w') ∧ w.cell? ⟨b, o, none⟩ = some (.string ⟨(l.getD i default).name.toArray⟩) ∧ w.cell? ⟨b, o + 1, none⟩ = some dv ∧ SlB w B dv (l.getD i default).data := by
  obtain ⟨rows, h1, h2, h3⟩ := h
  obtain ⟨dv, e, hs⟩ := h3 i hi
  obtain ⟨b, o, hb, hia, hc⟩ := h2.addr (P := Try.prog) Try.underlying22 size35 i (by omega)
  rw [e] at hc
  exact ⟨b, o, dv, hb, hia, hc 0 _ rfl, hc 1 _ rfl, hs⟩
theorem SlPt.atR (h : SlPt w B v l) (i : Nat) (hi : i < l.length) :
    ∃ b o dv, b < B ∧ (∀ w' (k : IntKind), (Instr.indexAt 31 v (.int k (i : Int))).run Try.prog w' = .ok (.pointer (some ⟨b, o, none⟩)) w') ∧ w.cell? ⟨b, o, none⟩ = some (.string ⟨(l.getD i default).name.toArray⟩) ∧ w.cell? ⟨b, o + 1, none⟩ = some dv ∧ SlB w B dv (l.getD i default).data := by
  obtain ⟨rows, h1, h2, h3⟩ := h
  obtain ⟨dv, e, hs⟩ := h3 i hi
  obtain ⟨b, o, hb, hia, hc⟩ := h2.addr (P := Try.prog) Try.underlying31 size66 i (by omega)
  rw [e] at hc
  exact ⟨b, o, dv, hb, hia, hc 0 _ rfl, hc 1 _ rfl, hs⟩
end

def nrow (s : List UInt8) : List Value := [.string ⟨s.toArray⟩]
theorem slB_shape {w : World} {B : Nat} {v : Value} {bs : List UInt8} (h : SlB w B v bs) : ∃ oa n c, v = .slice oa n c := by obtain ⟨oa, c, rfl, _⟩ := h; exact ⟨_, _, _, rfl⟩
theorem names_take (l : List Prt) (k : Nat) (hk : k < l.length) : (l.take (k + 1)).map (fun p => nrow p.name) = (l.take k).map (fun p => nrow p.name) ++ [nrow (l.getD k default).name] := by
  rw [takeD' l k default hk]; simp

set_option maxRecDepth 100000 in
set_option maxHeartbeats 2000000 in
theorem named_any (l : List Prt) (lv : Value) (w : World) (h : SlPt w w.heap.size lv l) (hl : l.length ≤ 50000) :
    Calls Try.prog 32 #[lv] w fun e w' => ∃ nv, e = .returned nv ∧ SlS w' w'.heap.size nv (names l) ∧ Below w.heap.size w w' := by
  have hlen := fun w' => h.len (ty := 3) w'
  have H := hid h
  clear h
  go_enter Try.func32, Try.ntmps32
  go_wp2_with fail
  go_loopw [3, 8] (fun n i wr => ∃ k : Nat, k ≤ l.length ∧ i = .int .i64 k ∧ OwnG wr w.heap.size 9 1 n ((l.take k).map (fun p => nrow p.name)) ∧ Below w.heap.size w wr) (fun _ i _ => l.length - (intOf i).toNat)
  case atStart => exact ⟨0, by omega, rfl, OwnG.nil _ _ _ _, Below.refl _ _⟩
  case round =>
    obtain ⟨k, hk, rfl, ho, hbl⟩ := hrel
    by_cases hlt : k < l.length
    · obtain ⟨b, o, dv, hb, hia, c0, c1, hs⟩ := (H.out.below hbl (Nat.le_refl _)).at k hlt
      have HT := hid (names_take l k hlt)
      obtain ⟨s, hs'⟩ : ∃ s, s = (l.getD k default).name := ⟨_, rfl⟩
      rw [← hs'] at c0 HT
      obtain ⟨oa, n, c, rfl⟩ := slB_shape hs
      clear hs hs'
      have hlr : ((l.take k).map (fun p => nrow p.name)).length ≤ 50000 := by simp; omega
      obtain ⟨rows, hrows⟩ : ∃ r, r = (l.take k).map (fun p => nrow p.name) := ⟨_, rfl⟩
      rw [← hrows] at ho HT hlr
      clear hrows
      have hbz := hbl.size
      have hb2 : Below wr.heap.size wr ((wr.alloc (.cells #[.string ⟨s.toArray⟩, .slice oa n c] 35)).alloc (.cells #[.string ⟨s.toArray⟩] 9)) := ((Below.refl _ _).alloc (Nat.le_refl _) _).alloc (by simp) _
      have ho2 := ho.below hb2 (Nat.le_refl _)
      have hbl2 := hbl.trans (hb2.mono hbz)
      have HB2 := hid hbl2
      clear hb2 ho hbl2
      go_wp2_with (at_builtin; refine append_g _ rfl _ _ 58 9 _ 1 16 rfl Try.underlying58 Try.info9 rfl (by decide) w.heap.size _ rows rfl ho2 (wr.heap.size + 1) 1 (nrow s) ?_ rfl ?_ ?_ ?_ ?_ ?_ ?_)
      · first | rfl | go_simp
      · intro j u hu
        match j, hu with
        | 0, hu => simp [nrow] at hu; subst hu; go_simp
      · intro u hu; simp [nrow] at hu; subst hu; rfl
      · omega
      · omega
      · simp; omega
      intro v3 w3 ho3 _ hb3
      go_wp2
      go_roundw
      case rel => exact ⟨k + 1, by omega, by go_num, by rw [HT.out]; exact ho3, HB2.out.trans hb3⟩
      case measure => simp [intOf]; omega
    · obtain rfl : k = l.length := by omega
      go_wp2
      go_ret
      refine ⟨_, rfl, ?_, hbl⟩
      have := ho.slG
      rw [List.take_length] at this
      unfold SlS names
      rw [List.map_map]
      exact this
end Go.Proofs.Ytoccgpddmhhlgaa
