import Derived.Test.YtcmfmjmjamfndaaA
import Derived.BigQuiet
import Derived.IntWalk
namespace Go.Proofs.Ytcmfmjmjamfndaa
open Go.RowKit Go.Mx Go.Dk
set_option linter.unusedSimpArgs false
set_option linter.unusedVariables false

abbrev dp (p : Nat) : Value := .pointer (some ⟨p, 0, none⟩)
abbrev nmv (s : List UInt8) : Value := .string ⟨s.toArray⟩
theorem zero61 (w : World) : (zeroValue 61).run Try.prog w = .ok (.pointer none) w := by kernel_rfl
theorem size71 : ∀ w, (sizeOf 71).run Try.prog w = .ok 16 w := fun w => by kernel_rfl
theorem size73 : ∀ w, (sizeOf 73).run Try.prog w = .ok 18 w := fun w => by kernel_rfl
def zsec : Value := .agg #[.int .u8 0, .int .u8 0, .int .u8 0, .int .u8 0, .int .u8 0, .int .u8 0, .int .u8 0, .int .u8 0, .int .u8 0, .int .u8 0, .int .u8 0, .int .u8 0, .int .u8 0, .int .u8 0, .int .u8 0, .int .u8 0]
theorem Try.info71 : (Try.prog.info? 71).map (fun i => (i.zero, i.size, i.bytes)) = some (some zsec, 16, 16) := by kernel_rfl

section
variable {w : World} {base p : Nat} {d : DM} {fs : List FR} {m : Nat} {lv : Value} {x : Int} {V : Nat → Bool → Prop}
theorem DK.look (h : DK w base p d fs m lv x V) (nm : List UInt8) (hn : nm.length ≤ maxLen) : (Instr.lookup 51 (.map (some m)) (nmv nm) false).run Try.prog w = .ok (pv (Mx.look (plOf fs) nm)) w :=
  h.mp.look Try.underlying9 Try.underlying51 zero61 nm hn

theorem num_any (n : Int) (w : World) : Calls Try.prog 12 #[.int .i64 n] w fun e w' => e = .returned (.int .i64 n) ∧ w = w' := by
  go_enter Try.func12, Try.ntmps12
  go_wp2
  go_ret
  exact ⟨rfl, rfl⟩

theorem up_any (h : DK w base p d fs m lv x V) : Calls Try.prog 26 #[dp p] w fun e w' => e = .returned (.int .i64 (if d.off then 8 else 0)) ∧ w = w' := by
  obtain ⟨c0, c1, c2, c3, c4, c5⟩ := h.cells
  cases ho : d.off <;> rw [ho] at c4 <;> clear h ho
  · go_enter Try.func26, Try.ntmps26
    go_wp2
    go_ret
    exact ⟨rfl, rfl⟩
  · go_enter Try.func26, Try.ntmps26
    go_wp2
    go_ret
    exact ⟨rfl, rfl⟩

def hasV (d : DM) (fs : List FR) (nm : List UInt8) : Option Nat := if d.off then none else Mx.look (plOf fs) nm
def hasE0 (d : DM) (fs : List FR) (nm : List UInt8) : Int := if d.off then 8 else if (Mx.look (plOf fs) nm).isSome then 0 else 4
set_option maxRecDepth 100000 in
theorem has_any (h : DK w base p d fs m lv x V) (nm : List UInt8) (hn : nm.length ≤ maxLen) : Calls Try.prog 28 #[dp p, nmv nm] w fun e w' => e = .returned (.tuple #[pv (hasV d fs nm), .int .i64 (hasE0 d fs nm)]) ∧ w = w' := by
  obtain ⟨c0, c1, c2, c3, c4, c5⟩ := h.cells
  have HU := hid (up_any h)
  have hlk := h.look nm hn
  unfold hasV hasE0
  cases ho : d.off
  · rw [ho] at HU
    clear ho h c0 c2 c3 c4 c5
    cases hl : Mx.look (plOf fs) nm with
    | none =>
      rw [hl] at hlk
      clear hl
      go_enter Try.func28, Try.ntmps28
      go_wp2_with fail
      refine HU.out.mono ?_
      rintro e w' ⟨rfl, rfl⟩
      have hlk' : (Instr.lookup 51 (.map (some m)) (nmv nm) false).run Try.prog w = .ok (.pointer none) w := hlk
      clear hlk
      go_wp2
      go_ret2
      exact ⟨rfl, rfl⟩
    | some b =>
      rw [hl] at hlk
      clear hl
      go_enter Try.func28, Try.ntmps28
      go_wp2_with fail
      refine HU.out.mono ?_
      rintro e w' ⟨rfl, rfl⟩
      have hlk' : (Instr.lookup 51 (.map (some m)) (nmv nm) false).run Try.prog w = .ok (.pointer (some ⟨b, 0, none⟩)) w := hlk
      clear hlk
      go_wp2
      go_ret2
      exact ⟨rfl, rfl⟩
  · rw [ho] at HU
    clear ho h hlk
    go_enter Try.func28, Try.ntmps28
    go_wp2_with fail
    refine HU.out.mono ?_
    rintro e w' ⟨rfl, rfl⟩
    go_wp2
    go_ret2
    exact ⟨rfl, rfl⟩

theorem dcells_set3 (d : DM) (m : Nat) (lv : Value) (x : Int) (n : Nat) : (dcells d m lv x).setIfInBounds 3 (.int .i64 n) = dcells { d with left := n } m lv x := rfl
theorem dcells_set4 (d : DM) (m : Nat) (lv : Value) (x : Int) (b : Bool) : (dcells d m lv x).setIfInBounds 4 (.bool b) = dcells { d with off := b } m lv x := rfl
theorem dcells_set2 (d : DM) (m : Nat) (lv lv' : Value) (x : Int) : (dcells d m lv x).setIfInBounds 2 lv' = dcells d m lv' x := rfl
theorem dcells_set5 (d : DM) (m : Nat) (lv : Value) (x y : Int) : (dcells d m lv x).setIfInBounds 5 (.int .i64 y) = dcells d m lv y := rfl
theorem DK.setLeft (h : DK w base p d fs m lv x V) (n : Nat) : DK (w.setCell ⟨p, 3, none⟩ (.int .i64 n)) base p { d with left := n } fs m lv x V :=
  h.disk (Kept.set w p 3 _ fun hn => hn rfl) _ x ((heap_setCell_at' w p 3 _ _ 59 (0, 0) h.dk).trans (by rw [dcells_set3])) rfl rfl
theorem DK.setOff (h : DK w base p d fs m lv x V) (b : Bool) : DK (w.setCell ⟨p, 4, none⟩ (.bool b)) base p { d with off := b } fs m lv x V :=
  h.disk (Kept.set w p 4 _ fun hn => hn rfl) _ x ((heap_setCell_at' w p 4 _ _ 59 (0, 0) h.dk).trans (by rw [dcells_set4])) rfl rfl
theorem DK.setX (h : DK w base p d fs m lv x V) (y : Int) : DK (w.setCell ⟨p, 5, none⟩ (.int .i64 y)) base p d fs m lv y V :=
  h.disk (Kept.set w p 5 _ fun hn => hn rfl) _ y ((heap_setCell_at' w p 5 _ _ 59 (0, 0) h.dk).trans (by rw [dcells_set5])) rfl rfl
theorem DK.frP (h : DK w base p d fs m lv x V) (i : Nat) (v : Value) : Fr base w (w.setCell ⟨p, i, none⟩ v) :=
  .of_kept (q := p) ((Below.refl base w).setCell (p := ⟨p, i, none⟩) h.hp v) (Kept.set w p i v fun hn => hn rfl) (not_foreign h.dk (.inl rfl))

theorem power_any (h : DK w base p d fs m lv x V) (n : Nat) : Calls Try.prog 17 #[dp p, .int .i64 n] w fun e w' => e = .returned (.tuple #[]) ∧ DK w' base p { d with left := n } fs m lv x V ∧ Fr base w w' := by
  obtain ⟨c0, c1, c2, c3, c4, c5⟩ := h.cells
  have fz := h.fz 3
  have HE := hid (And.intro (h.setLeft n) (h.frP 3 (.int .i64 n)))
  clear h c0 c1 c2 c4 c5
  have hm : max (n : Int) 0 = n := by omega
  go_enter Try.func17, Try.ntmps17
  go_wp2
  go_end0
  exact ⟨rfl, HE.out.1, HE.out.2⟩
end

theorem new_dk (w : World) (r : Nat) : DK ((w.alloc (.map #[] 0)).alloc (.cells #[.int .i64 r, .map (some w.heap.size), .slice none 0 0, .int .i64 0, .bool false, .int .i64 0] 59)) w.heap.size (w.heap.size + 1) ⟨r, [], [], 0, false⟩ [] w.heap.size (.slice none 0 0) 0 (fun _ _ => True) := by
  have hz : (w.alloc (.map #[] 0)).heap.size = w.heap.size + 1 := by simp
  refine { files := rfl, dk := ?_, hp := by omega, hm := Nat.le_refl _, mp := ?_, lg := OwnG.nil _ _ _ _, fc := fun i f h => by simp at h, ow := fun i f b h => by simp at h, af := fun i j f g h => by simp at h, as_ := fun i j a b f g h => by simp at h, sh := fun i f b h => by simp at h }
  · have := alloc_new (w.alloc (.map #[] 0)) (.cells #[.int .i64 r, .map (some w.heap.size), .slice none 0 0, .int .i64 0, .bool false, .int .i64 0] 59)
    rw [hz] at this
    exact this
  · refine (PM.made (P := Try.prog) (k := 9) w).block ?_
    exact ((Below.refl (w.alloc (.map #[] 0)).heap.size (w.alloc (.map #[] 0))).alloc (Nat.le_refl _) _).block _ (by omega)
theorem new_any (room : Int) (w : World) (h : 1 ≤ room ∧ room ≤ 1048576) : Calls Try.prog 11 #[.int .i64 room] w fun e w' => e = .returned (.tuple #[dp (w.heap.size + 1), .int .i64 0]) ∧ DK w' w.heap.size (w.heap.size + 1) ⟨room.toNat, [], [], 0, false⟩ [] w.heap.size (.slice none 0 0) 0 (fun _ _ => True) ∧ Below w.heap.size w w' := by
  obtain ⟨r, rfl⟩ := Int.eq_ofNat_of_zero_le (show 0 ≤ room by omega)
  have HD := hid (new_dk w r)
  have hmm := @run_makeMap Try.prog
  go_enter Try.func11, Try.ntmps11
  go_wp2
  go_ret2
  exact ⟨rfl, HD.out, ((Below.refl _ _).alloc (Nat.le_refl _) _).alloc (by simp) _⟩

section
variable {w : World} {base p : Nat} {d : DM} {fs : List FR} {m : Nat} {lv : Value} {x : Int} {V : Nat → Bool → Prop}
/-- the file of a name -/
theorem DK.who (h : DK w base p d fs m lv x V) (nm : List UInt8) : (Mx.look (plOf fs) nm = none ∧ Dk.find d.files nm = none) ∨ ∃ (i : Nat) (f : FR), fs[i]? = some f ∧ f.fm.name = nm ∧ Mx.look (plOf fs) nm = some f.fb ∧ Dk.find d.files nm = some f.fm := by
  rw [h.files]
  have key : ∀ l : List FR, (Mx.look (plOf l) nm = none ∧ Dk.find (l.map (·.fm)) nm = none) ∨ ∃ (i : Nat) (f : FR), l[i]? = some f ∧ f.fm.name = nm ∧ Mx.look (plOf l) nm = some f.fb ∧ Dk.find (l.map (·.fm)) nm = some f.fm := by
    intro l
    induction l with
    | nil => exact .inl ⟨rfl, rfl⟩
    | cons f l ih =>
      unfold plOf at ih ⊢
      unfold Dk.find at ih ⊢
      simp only [List.map_cons, look_cons, List.find?_cons]
      by_cases e : f.fm.name = nm
      · exact .inr ⟨0, f, rfl, e, by rw [if_pos e], by rw [show (f.fm.name == nm) = true by simpa using e]⟩
      · rw [if_neg e, show (f.fm.name == nm) = false by simpa using e]
        rcases ih with h | ⟨i, g, h1, h2⟩
        · exact .inl h
        · exact .inr ⟨i + 1, g, by simpa using h1, h2⟩
  exact key fs
def sizeM (d : DM) (nm : List UInt8) : Int × Int := match Dk.find d.files nm with
  | none => (0, 4)
  | some f => (f.now.length, 0)
theorem secs_len {w : World} {base : Nat} {v : Value} {l : List Sec} (h : OwnG w base 71 16 v (l.map srow)) (w' : World) {ty : TypeId} : (Builtin.len_ #[63] ty #[v]).run Try.prog w' = .ok (.int .i64 l.length) w' := by
  have := h.slG.len (P := Try.prog) (ty := ty) Try.underlying63 w'
  rwa [List.length_map] at this
set_option maxRecDepth 100000 in
theorem size_any (h : DK w base p d fs m lv x V) (hV : ∀ i, V i true) (nm : List UInt8) (hn : nm.length ≤ maxLen) : Calls Try.prog 22 #[dp p, nmv nm] w fun e w' =>
    e = .returned (.tuple #[.int .i64 (sizeM d nm).1, .int .i64 (sizeM d nm).2]) ∧ w = w' := by
  obtain ⟨c0, c1, c2, c3, c4, c5⟩ := h.cells
  have hlk := h.look nm hn
  unfold sizeM
  rcases h.who nm with ⟨hl, hf⟩ | ⟨i, f, hi, hfn, hl, hf⟩
  · rw [hl] at hlk
    rw [hf]
    clear hl hf h c0 c2 c3 c4 c5
    have hlk' : (Instr.lookup 51 (.map (some m)) (nmv nm) false).run Try.prog w = .ok (.pointer none) w := hlk
    clear hlk
    go_enter Try.func22, Try.ntmps22
    go_wp2
    go_ret2
    exact ⟨rfl, rfl⟩
  · rw [hl] at hlk
    rw [hf]
    obtain ⟨d0, d1, _⟩ := h.fcells hi
    have hlen := fun w' => secs_len (h.ow i f true hi (hV i)) w' (ty := 3)
    obtain ⟨oa, n, c, hv⟩ := h.sh i f true hi
    have hnv : f.nv = .slice oa n c := hv
    rw [show sl f true = f.nv from rfl, hnv] at hlen
    rw [hnv] at d0
    obtain ⟨fb, hfb⟩ : ∃ b, b = f.fb := ⟨_, rfl⟩
    obtain ⟨N, hN⟩ : ∃ N, N = f.fm.now.length := ⟨_, rfl⟩
    have hlen' : ∀ w', (Builtin.len_ #[63] 3 #[.slice oa n c]).run Try.prog w' = .ok (.int .i64 N) w' := fun w' => by rw [hN]; exact hlen w'
    have hlk' : (Instr.lookup 51 (.map (some m)) (nmv nm) false).run Try.prog w = .ok (.pointer (some ⟨fb, 0, none⟩)) w := by rw [hfb]; exact hlk
    rw [← hfb] at d0
    show Calls Try.prog 22 #[dp p, nmv nm] w fun e w' => e = .returned (.tuple #[.int .i64 (f.fm.now.length), .int .i64 0]) ∧ w = w'
    rw [← hN]
    clear hl hlk h c0 c2 c3 c4 c5 d1 hlen hv hnv hi hfn hN hfb hf
    go_enter Try.func22, Try.ntmps22
    go_wp2
    go_ret2
    exact ⟨rfl, rfl⟩
def hasE (d : DM) (nm : List UInt8) : Int := if d.off then 8 else if (Dk.find d.files nm).isSome then 0 else 4
/-- has: what is not there, or the file -/
theorem has_no (h : DK w base p d fs m lv x V) (nm : List UInt8) (hn : nm.length ≤ maxLen) (he : hasE d nm ≠ 0) : Calls Try.prog 28 #[dp p, nmv nm] w fun e w' => e = .returned (.tuple #[.pointer none, .int .i64 (hasE d nm)]) ∧ w = w' := by
  have hc := has_any h nm hn
  rcases h.who nm with ⟨hl, hf⟩ | ⟨i, f, hi, hfn, hl, hf⟩
  · unfold hasE
    unfold hasV hasE0 at hc
    rw [hl] at hc; rw [hf]
    cases ho : d.off <;> rw [ho] at hc <;> exact hc
  · unfold hasE at he ⊢
    unfold hasV hasE0 at hc
    rw [hl] at hc; rw [hf] at he ⊢
    cases ho : d.off <;> rw [ho] at hc he
    · exact absurd rfl he
    · exact hc
theorem has_yes (h : DK w base p d fs m lv x V) (nm : List UInt8) (hn : nm.length ≤ maxLen) (ho : d.off = false) {f : FR} (hl : Mx.look (plOf fs) nm = some f.fb) : Calls Try.prog 28 #[dp p, nmv nm] w fun e w' => e = .returned (.tuple #[.pointer (some ⟨f.fb, 0, none⟩), .int .i64 0]) ∧ w = w' := by
  have hc := has_any h nm hn
  unfold hasV hasE0 at hc
  rw [hl, ho] at hc
  exact hc
end
end Go.Proofs.Ytcmfmjmjamfndaa
