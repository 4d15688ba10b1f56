import Derived.Test.YtcmfmjmjamfndaaP82
import Derived.Test.YtcmfmjmjamfndaaP44
namespace Go.Proofs.Ytcmfmjmjamfndaa
open Go.RowKit Go.Mx Go.Dk
set_option linter.unusedSimpArgs false
set_option linter.unusedVariables false
section
variable {w w' : World} {base p room L : Nat} {fl : FL}
set_option maxRecDepth 100000 in
/-- a name that is none, or too long -/
theorem create_arg (h : HG w base p room fl L) (nm : List UInt8) (hn : nm = [] ∨ 16 < nm.length) (hml : nm.length ≤ maxLen) :
    Calls Try.prog 13 #[dp p, nmv nm] w fun e w' => e = .returned (.int .i64 1) ∧ w = w' := by
  obtain ⟨d, fs, m, lv, x, h, g⟩ := h
  have HU := hid (up_any h)
  rw [g.off] at HU
  have hlen : ∀ w', (Builtin.len_ #[9] 3 #[nmv nm]).run Try.prog w' = .ok (.int .i64 nm.length) w' := fun w' => by first | rfl | go_simp
  clear h g
  by_cases he : nm = []
  · subst he
    clear hn hml
    go_enter Try.func13, Try.ntmps13
    go_wp2_with fail
    refine HU.out.mono ?_
    rintro e w1 ⟨rfl, rfl⟩
    go_wp2
    go_ret
    exact ⟨rfl, rfl⟩
  · have hln : 16 < nm.length := hn.resolve_left he
    have t2 : decide ((16 : Int) < (nm.length : Int)) = true := by simp; omega
    have hie : nm.isEmpty = false := by cases nm <;> simp_all
    clear hn hml
    go_enter Try.func13, Try.ntmps13
    go_wp2_with fail
    refine HU.out.mono ?_
    rintro e w1 ⟨rfl, rfl⟩
    go_wp2
    go_ret
    exact ⟨rfl, rfl⟩
set_option maxRecDepth 100000 in
/-- no more than so many files -/
theorem create_many (h : HG w base p room fl L) (nm : List UInt8) (hn1 : 1 ≤ nm.length) (hn2 : nm.length ≤ 16) (hno : nm ∉ fl.map (·.1)) (hfl : 32 ≤ fl.length) :
    Calls Try.prog 13 #[dp p, nmv nm] w fun e w' => e = .returned (.int .i64 9) ∧ w = w' := by
  obtain ⟨d, fs, m, lv, x, h, g⟩ := h
  have HU := hid (up_any h)
  rw [g.off] at HU
  obtain ⟨c0, c1, c2, c3, c4, c5⟩ := h.cells
  have hml : nm.length ≤ maxLen := by unfold maxLen; omega
  have hlk := h.look nm hml
  have e1 : fl.map (·.1) = (plOf fs).map (·.1) := by
    rw [plOf_names, ← g.fl, ← names_fl, h.files, List.map_map]; rfl
  have hnl : Mx.look (plOf fs) nm = none := by rw [look_none, ← e1]; exact hno
  rw [hnl] at hlk
  have hlk' : (Instr.lookup 51 (.map (some m)) (nmv nm) false).run Try.prog w = .ok (.pointer none) w := hlk
  have hmlen := fun ty => h.mp.len (P := Try.prog) (t := 51) Try.underlying51 ty
  have hpl : (plOf fs).length = fl.length := by
    have := congrArg List.length e1
    simpa using this.symm
  rw [hpl] at hmlen
  have t1 : decide ((32 : Int) ≤ (fl.length : Int)) = true := by simp; omega
  have t2 : decide ((16 : Int) < (nm.length : Int)) = false := by simp; omega
  have hlen : ∀ w', (Builtin.len_ #[9] 3 #[nmv nm]).run Try.prog w' = .ok (.int .i64 nm.length) w' := fun w' => by first | rfl | go_simp
  have hne : ¬ nm = [] := by rintro rfl; simp at hn1
  have hie : nm.isEmpty = false := by cases nm <;> simp_all
  clear h g hlk hpl hno c0 c2 c3 c4 c5 e1 hnl hn1 hn2 hml
  go_enter Try.func13, Try.ntmps13
  go_wp2_with fail
  refine HU.out.mono ?_
  rintro e w1 ⟨rfl, rfl⟩
  go_wp2
  go_ret
  exact ⟨rfl, rfl⟩
theorem upd_here {fs : List FR} {i : Nat} {f : FR} (hi : fs[i]? = some f) (hn : (fs.map (·.fm.name)).Nodup) (b : Nat) : Mx.upd (plOf fs) f.fm.name b = plOf (fs.set i (newFR f.fm.name b)) := by
  have hs : (Mx.look (plOf fs) f.fm.name).isSome = true := by
    cases hl : Mx.look (plOf fs) f.fm.name with
    | none => rw [look_none, plOf_names] at hl; exact absurd (List.mem_map.2 ⟨f, List.mem_of_getElem? hi, rfl⟩) hl
    | some b => rfl
  unfold Mx.upd
  rw [hs, if_pos rfl]
  unfold plOf
  apply List.ext_getElem?
  intro j
  rw [List.getElem?_map, List.getElem?_map, List.getElem?_map, List.getElem?_set]
  by_cases e : i = j
  · subst e
    rw [if_pos rfl, if_pos (List.getElem?_eq_some_iff.1 hi).1, hi]
    simp [newFR]
  · rw [if_neg e]
    cases hj : fs[j]? with
    | none => rfl
    | some g =>
      have : (g.fm.name == f.fm.name) = false := by
        rw [beq_eq_false_iff_ne]
        intro e2
        exact e (nodup_at hn hj hi e2).symm
      have this' : ¬ g.fm.name = f.fm.name := by intro e2; rw [e2] at this; simp at this
      simp [this']
theorem DK.setN {d : DM} {fs : List FR} {m : Nat} {lv : Value} {x : Int} (h : DK w base p d fs m lv x (fun _ _ => True)) {i0 : Nat} {f0 : FR} (hi0 : fs[i0]? = some f0) (b : Nat) (hb : w.heap.size ≤ b) (hk : Kept w w' (fun q => q ≠ m)) (hnb : w'.heap[b]? = some (.cells #[.slice none 0 0, .slice none 0 0] 65 (0, 0)))
    (hm : PM Try.prog 9 w' m (plOf (fs.set i0 (newFR f0.fm.name b)))) : DK w' base p { d with files := d.files.set i0 ⟨f0.fm.name, [], []⟩ } (fs.set i0 (newFR f0.fm.name b)) m lv x (fun _ _ => True) := by
  obtain ⟨o, hmo, ho⟩ := h.mapObj
  have hold := fun {q : Nat} {c : Array Value} {t : TypeId} {fr : Nat × Nat} (hq : w.heap[q]? = some (.cells c t fr)) => (hk.block q (blk_lt hq) (not_cells hmo ho hq)).trans hq
  have hbl := h.base_le
  have key : ∀ {i : Nat} {f : FR}, (fs.set i0 (newFR f0.fm.name b))[i]? = some f → (i = i0 ∧ f = newFR f0.fm.name b) ∨ (i ≠ i0 ∧ fs[i]? = some f) := by
    intro i f hi
    rw [set_get fs i0 i _ _ hi0] at hi
    split at hi
    · rename_i e; left; exact ⟨e, (Option.some.inj hi).symm⟩
    · rename_i e; right; exact ⟨e, hi⟩
  refine { files := by show d.files.set _ _ = _; rw [h.files, List.map_set]; rfl, dk := hold h.dk, hp := h.hp, hm := h.hm, mp := hm, lg := h.lg.kept hk fun q e => by rintro rfl; exact h.lg.notMap hmo ho e, fc := ?_, ow := ?_, af := ?_, as_ := ?_, sh := ?_ }
  · intro i f hi
    rcases key hi with ⟨_, rfl⟩ | ⟨_, hi⟩
    · exact ⟨hnb, by show base ≤ b; omega⟩
    · exact ⟨hold (h.fc i f hi).1, (h.fc i f hi).2⟩
  · intro i f b' hi _
    rcases key hi with ⟨_, rfl⟩ | ⟨_, hi⟩
    · cases b' <;> exact OwnG.nil _ _ _ _
    · exact (h.ow i f b' hi trivial).kept hk fun q e => by rintro rfl; exact (h.ow i f b' hi trivial).notMap hmo ho e
  · intro i j f g hi hj hij
    rcases key hi with ⟨e1, rfl⟩ | ⟨_, hi⟩ <;> rcases key hj with ⟨e2, rfl⟩ | ⟨_, hj⟩
    · omega
    · have := blk_lt (h.fc j g hj).1; show b ≠ g.fb; omega
    · have := blk_lt (h.fc i f hi).1; show f.fb ≠ b; omega
    · exact h.af i j f g hi hj hij
  · intro i j a c f g hi hj _ _ hne k h1 h2
    rcases key hi with ⟨e1, rfl⟩ | ⟨_, hi⟩ <;> rcases key hj with ⟨e2, rfl⟩ | ⟨_, hj⟩
    · cases a <;> cases h1
    · cases a <;> cases h1
    · cases c <;> cases h2
    · exact h.as_ i j a c f g hi hj trivial trivial hne k h1 h2
  · intro i f b' hi
    rcases key hi with ⟨_, rfl⟩ | ⟨_, hi⟩
    · cases b' <;> exact ⟨_, _, _, rfl⟩
    · exact h.sh i f b' hi
set_option maxRecDepth 100000 in
theorem create_again {d : DM} {fs : List FR} {m : Nat} {lv : Value} {x : Int} (h : DK w base p d fs m lv x (fun _ _ => True)) (hs : Small d) (hoff : d.off = false) {i0 : Nat} {f0 : FR} (hi0 : fs[i0]? = some f0) (hn1 : 1 ≤ f0.fm.name.length) (hn2 : f0.fm.name.length ≤ 16) (hfl : fs.length ≤ 1000) :
    Calls Try.prog 13 #[dp p, nmv f0.fm.name] w fun e w' => e = .returned (.int .i64 0) ∧
      (∃ b lv', DK w' base p { d with files := d.files.set i0 ⟨f0.fm.name, [], []⟩, log := Dk.forget d.log f0.fm.name 0 } (fs.set i0 (newFR f0.fm.name b)) m lv' x (fun _ _ => True)) ∧ Fr base w w' := by
  have HU := hid (up_any h)
  rw [hoff] at HU
  obtain ⟨c0, c1, c2, c3, c4, c5⟩ := h.cells
  have hml : f0.fm.name.length ≤ maxLen := by unfold maxLen; omega
  have hlk := h.look f0.fm.name hml
  rw [h.lookAt hi0] at hlk
  have hlk' : (Instr.lookup 51 (.map (some m)) (nmv f0.fm.name) false).run Try.prog w = .ok (.pointer (some ⟨f0.fb, 0, none⟩)) w := hlk
  have HF := hid (forget_any h f0.fm.name 0 hs.log (by have := hs.llen; omega))
  have HND := hid (by have := h.mp.nodup; rwa [plOf_names] at this : (fs.map (·.fm.name)).Nodup)
  have HI := hid hi0
  obtain ⟨nm, hnm⟩ : ∃ nm, nm = f0.fm.name := ⟨_, rfl⟩
  obtain ⟨fb, hfb⟩ : ∃ b, b = f0.fb := ⟨_, rfl⟩
  rw [← hnm] at HF hlk' hn1 hn2 hml ⊢
  rw [← hfb] at hlk'
  have HN := hid hnm
  have t2 : decide ((16 : Int) < (nm.length : Int)) = false := by simp; omega
  have hlen : ∀ w', (Builtin.len_ #[9] 3 #[nmv nm]).run Try.prog w' = .ok (.int .i64 nm.length) w' := fun w' => by first | rfl | go_simp
  have hne : ¬ nm = [] := by rintro rfl; simp at hn1
  have hie : nm.isEmpty = false := by cases nm <;> simp_all
  clear h hs hlk c0 c2 c3 c4 c5 hnm hfb hi0
  go_enter Try.func13, Try.ntmps13
  go_wp2_with fail
  refine HU.out.mono ?_
  rintro e w1 ⟨rfl, rfl⟩
  go_wp2_with fail
  refine HF.out.mono ?_
  rintro e w2 ⟨rfl, ⟨lv', hD⟩, hFr⟩
  have hal : Below w2.heap.size w2 (w2.alloc (.cells #[.slice none 0 0, .slice none 0 0] 65)) := (Below.refl _ _).alloc (Nat.le_refl _) _
  have hnb := alloc_new w2 (.cells #[.slice none 0 0, .slice none 0 0] 65)
  have hpm := (hD.below hal).mp
  obtain ⟨w3, hrun, hpm3, hg3, hz3, hf3⟩ := hpm.upd (t := 51) Try.underlying9 Try.underlying51 nm hml w2.heap.size (by simp [plOf]; unfold maxLen; omega)
  have c12 := hD.cells.2.1
  have c13 : (w2.alloc (.cells #[.slice none 0 0, .slice none 0 0] 65)).cell? ⟨p, 1, none⟩ = some (.map (some m)) := (hal.cell (p := ⟨p, 1, none⟩) hD.plt).trans c12
  have hkm : Kept w2 w3 (fun q => q ≠ m) := (Kept.of_below hal fun _ h _ => h).trans (Kept.grown hg3 fun k hk hN => by cases hk; exact hN rfl)
  have hbm : Below base w2 w3 := (hal.mono hD.base_le).trans ((Below.refl base _).grown hg3 (by simp; have := hD.base_le; omega) (fun k hk => by cases hk; exact hD.hm))
  have hnb3 : w3.heap[w2.heap.size]? = some (.cells #[.slice none 0 0, .slice none 0 0] 65 (0, 0)) := (hg3.block _ (by simp) (fun e => by cases e; have := hD.mp.lt; omega)).trans hnb
  rw [HN.out, upd_here HI.out HND.out] at hpm3
  have hadd := hD.setN HI.out w2.heap.size (Nat.le_refl _) hkm hnb3 hpm3
  rw [← HN.out] at hadd
  have hfm : Fr base w2 w3 := by
    refine ⟨hbm, hkm.imp fun q _ hq => ?_⟩
    obtain ⟨o, hmo, ho⟩ := hD.mapObj
    rintro rfl
    exact not_foreign_map hmo ho hq
  have HZ := hid (And.intro hadd (hFr.trans hfm))
  clear hal hnb hpm hpm3 hg3 hz3 hf3 hkm hbm hnb3 hadd hfm hD hFr
  go_wp2
  go_ret
  exact ⟨rfl, ⟨_, _, HZ.out.1⟩, HZ.out.2⟩
end
end Go.Proofs.Ytcmfmjmjamfndaa
