import Derived.Test.YtcmfmjmjamfndaaJ
namespace Go.Proofs.Ytcmfmjmjamfndaa
open Go.RowKit Go.Mx Go.Dk
set_option linter.unusedSimpArgs false
set_option linter.unusedVariables false
section
variable {w w' : World} {base p : Nat} {d : DM} {fs : List FR} {m : Nat} {lv : Value} {x : Int} {V : Nat → Bool → Prop}
def newFR (nm : List UInt8) (b : Nat) : FR := ⟨⟨nm, [], []⟩, b, .slice none 0 0, .slice none 0 0⟩
theorem snoc_at {α : Type} {l : List α} {y z : α} {i : Nat} (h : (l ++ [y])[i]? = some z) : l[i]? = some z ∨ (i = l.length ∧ z = y) := by
  rcases Nat.lt_or_ge i l.length with h1 | h1
  · rw [List.getElem?_append_left h1] at h; exact .inl h
  · rw [List.getElem?_append_right h1] at h
    obtain ⟨k, hk⟩ : ∃ k, i - l.length = k := ⟨_, rfl⟩
    rw [hk] at h
    cases k with
    | zero => simp at h; exact .inr ⟨by omega, h.symm⟩
    | succ k => simp at h
/-- a new file -/
theorem DK.addF (h : DK w base p d fs m lv x (fun _ _ => True)) (nm : List UInt8) (b : Nat) (hb : w.heap.size ≤ b) (hk : Kept w w' (fun q => q ≠ m)) (hnb : w'.heap[b]? = some (.cells #[.slice none 0 0, .slice none 0 0] 65 (0, 0)))
    (hm : PM Try.prog 9 w' m (plOf (fs ++ [newFR nm b]))) : DK w' base p { d with files := d.files ++ [⟨nm, [], []⟩] } (fs ++ [newFR nm b]) m lv x (fun _ _ => True) := by
  obtain ⟨o, hmo, ho⟩ := h.mapObj
  have hold := fun {q : Nat} {c : Array Value} {t : TypeId} {fr : Nat × Nat} (hq : w.heap[q]? = some (.cells c t fr)) => (hk.block q (blk_lt hq) (not_cells hmo ho hq)).trans hq
  have hbl := h.base_le
  refine { files := by rw [h.files]; simp [newFR], dk := hold h.dk, hp := h.hp, hm := h.hm, mp := hm, lg := h.lg.kept hk fun q e => by rintro rfl; exact h.lg.notMap hmo ho e, fc := ?_, ow := ?_, af := ?_, as_ := ?_, sh := ?_ }
  · intro i f hi
    rcases snoc_at hi with hi | ⟨_, rfl⟩
    · exact ⟨hold (h.fc i f hi).1, (h.fc i f hi).2⟩
    · exact ⟨hnb, by show base ≤ b; omega⟩
  · intro i f b' hi _
    rcases snoc_at hi with hi | ⟨_, rfl⟩
    · exact (h.ow i f b' hi trivial).kept hk fun q e => by rintro rfl; exact (h.ow i f b' hi trivial).notMap hmo ho e
    · cases b' <;> exact OwnG.nil _ _ _ _
  · intro i j f g hi hj hij
    rcases snoc_at hi with hi | ⟨e1, rfl⟩ <;> rcases snoc_at hj with hj | ⟨e2, rfl⟩
    · exact h.af i j f g hi hj hij
    · have := blk_lt (h.fc i f hi).1; show f.fb ≠ b; omega
    · have := blk_lt (h.fc j g hj).1; show b ≠ g.fb; omega
    · omega
  · intro i j a c f g hi hj _ _ hne k h1 h2
    rcases snoc_at hi with hi | ⟨e1, rfl⟩ <;> rcases snoc_at hj with hj | ⟨e2, rfl⟩
    · exact h.as_ i j a c f g hi hj trivial trivial hne k h1 h2
    · cases c <;> cases h2
    · cases a <;> cases h1
    · cases a <;> cases h1
  · intro i f b' hi
    rcases snoc_at hi with hi | ⟨_, rfl⟩
    · exact h.sh i f b' hi
    · cases b' <;> exact ⟨_, _, _, rfl⟩
set_option maxRecDepth 100000 in
theorem create_new (h : DK w base p d fs m lv x (fun _ _ => True)) (hs : Small d) (hoff : d.off = false) (nm : List UInt8) (hn1 : 1 ≤ nm.length) (hn2 : nm.length ≤ 16) (hno : Mx.look (plOf fs) nm = none) (hfl : fs.length < 32) :
    Calls Try.prog 13 #[dp p, nmv nm] w fun e w' => e = .returned (.int .i64 0) ∧
      (∃ b lv', DK w' base p { d with files := d.files ++ [⟨nm, [], []⟩], log := Dk.forget d.log nm 0 } (fs ++ [newFR nm b]) m lv' x (fun _ _ => True)) ∧ Fr base w w' := by
  have HU := hid (up_any h)
  rw [hoff] at HU
  obtain ⟨c0, c1, c2, c3, c4, c5⟩ := h.cells
  have hml : nm.length ≤ maxLen := by unfold maxLen; omega
  have hlk := h.look nm hml
  rw [hno] at hlk
  have hlk' : (Instr.lookup 51 (.map (some m)) (nmv nm) false).run Try.prog w = .ok (.pointer none) w := hlk
  have hmlen := fun ty => h.mp.len (P := Try.prog) (t := 51) Try.underlying51 ty
  have hpl : (plOf fs).length = fs.length := by simp [plOf]
  rw [hpl] at hmlen
  have t1 : decide ((32 : Int) ≤ (fs.length : Int)) = false := by simp; omega
  have t2 : decide ((16 : Int) < (nm.length : Int)) = false := by simp; omega
  have hlen : ∀ w', (Builtin.len_ #[9] 3 #[nmv nm]).run Try.prog w' = .ok (.int .i64 nm.length) w' := fun w' => by first | rfl | go_simp
  have hne : ¬ nm = [] := by rintro rfl; simp at hn1
  have hie : nm.isEmpty = false := by cases nm <;> simp_all
  have HF := hid (forget_any h nm 0 hs.log (by have := hs.llen; omega))
  have H0 := hid h
  have HNO := hid hno
  clear h hs hlk hpl hno c0 c2 c3 c4 c5
  go_enter Try.func13, Try.ntmps13
  go_wp2_with fail
  refine HU.out.mono ?_
  rintro e w1 ⟨rfl, rfl⟩
  go_wp2_with fail
  refine HF.out.mono ?_
  rintro e w2 ⟨rfl, ⟨lv', hD⟩, hFr⟩
  have hal : Below w2.heap.size w2 (w2.alloc (.cells #[.slice none 0 0, .slice none 0 0] 65)) := (Below.refl _ _).alloc (Nat.le_refl _) _
  have hnb := alloc_new w2 (.cells #[.slice none 0 0, .slice none 0 0] 65)
  have hpm := (hD.below hal).mp
  obtain ⟨w3, hrun, hpm3, hg3, hz3, hf3⟩ := hpm.upd (t := 51) Try.underlying9 Try.underlying51 nm hml w2.heap.size (by simp [plOf]; unfold maxLen; omega)
  have c12 := hD.cells.2.1
  have c13 : (w2.alloc (.cells #[.slice none 0 0, .slice none 0 0] 65)).cell? ⟨p, 1, none⟩ = some (.map (some m)) := (hal.cell (p := ⟨p, 1, none⟩) hD.plt).trans c12
  have hkm : Kept w2 w3 (fun q => q ≠ m) := (Kept.of_below hal fun _ h _ => h).trans (Kept.grown hg3 fun k hk hN => by cases hk; exact hN rfl)
  have hbm : Below base w2 w3 := (hal.mono hD.base_le).trans ((Below.refl base _).grown hg3 (by simp; have := hD.base_le; omega) (fun k hk => by cases hk; exact hD.hm))
  have hnb3 : w3.heap[w2.heap.size]? = some (.cells #[.slice none 0 0, .slice none 0 0] 65 (0, 0)) := (hg3.block _ (by simp) (fun e => by cases e; have := hD.mp.lt; omega)).trans hnb
  have hpl3 : Mx.upd (plOf fs) nm w2.heap.size = plOf (fs ++ [newFR nm w2.heap.size]) := by
    unfold Mx.upd; rw [HNO.out]; simp [plOf, newFR]
  rw [hpl3] at hpm3
  have hadd := hD.addF nm w2.heap.size (Nat.le_refl _) hkm hnb3 hpm3
  have hfm : Fr base w2 w3 := by
    refine ⟨hbm, hkm.imp fun q _ hq => ?_⟩
    obtain ⟨o, hmo, ho⟩ := hD.mapObj
    rintro rfl
    exact not_foreign_map hmo ho hq
  have HN := hid (And.intro hadd (hFr.trans hfm))
  clear hal hnb hpm hpm3 hg3 hz3 hf3 hkm hbm hnb3 hpl3 hadd hfm hD hFr
  go_wp2
  go_ret
  exact ⟨rfl, ⟨_, _, HN.out.1⟩, HN.out.2⟩
end
end Go.Proofs.Ytcmfmjmjamfndaa
