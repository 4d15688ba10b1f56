import Derived.Test.YtcmfmjmjamfndaaP42
namespace Go.Proofs.Ytcmfmjmjamfndaa
open Go.RowKit Go.Mx Go.Dk
set_option linter.unusedSimpArgs false
set_option linter.unusedVariables false
section
variable {w w' : World} {base p room L : Nat} {fl : FL}
theorem del_tail {f0 : FR} {fs : List FR} (hn : ((f0 :: fs).map (·.fm.name)).Nodup) : Mx.del (plOf (f0 :: fs)) f0.fm.name = plOf fs := by
  rw [List.map_cons, List.nodup_cons] at hn
  unfold Mx.del plOf
  rw [List.map_cons, List.filter_cons]
  simp only [beq_self_eq_true, Bool.not_true, Bool.false_eq_true, if_false]
  rw [List.filter_eq_self]
  intro q hq
  obtain ⟨f, hf, rfl⟩ := List.mem_map.1 hq
  have : (f.fm.name == f0.fm.name) = false := by
    rw [beq_eq_false_iff_ne]; intro e; exact hn.1 (e ▸ List.mem_map.2 ⟨f, hf, rfl⟩)
  simp [this]
set_option maxRecDepth 100000 in
theorem remove_head {d : DM} {f0 : FR} {fs : List FR} {m : Nat} {lv : Value} {x : Int} (h : DK w base p d (f0 :: fs) m lv x (fun _ _ => True)) (hs : Small d) (hoff : d.off = false) (hml : f0.fm.name.length ≤ maxLen) :
    Calls Try.prog 21 #[dp p, nmv f0.fm.name] w fun e w' => e = .returned (.int .i64 0) ∧ (∃ lv', DK w' base p { d with files := d.files.tail, log := Dk.forget d.log f0.fm.name 0 } fs m lv' x (fun _ _ => True)) ∧ Fr base w w' := by
  have HH := hid (has_yes h f0.fm.name hml hoff (h.lookAt (i := 0) rfl))
  have HF := hid (forget_any h f0.fm.name 0 hs.log (by have := hs.llen; omega))
  have HNO := hid (by have := h.mp.nodup; rwa [plOf_names] at this : ((f0 :: fs).map (·.fm.name)).Nodup)
  obtain ⟨nm, hnm⟩ : ∃ nm, nm = f0.fm.name := ⟨_, rfl⟩
  rw [← hnm] at HH HF hml ⊢
  have HN := hid hnm
  clear h hs hnm
  go_enter Try.func21, Try.ntmps21
  go_wp2_with fail
  refine HH.out.mono ?_
  rintro e w1 ⟨rfl, rfl⟩
  go_wp2_with fail
  refine HF.out.mono ?_
  rintro e w2 ⟨rfl, ⟨lv', hD⟩, hFr⟩
  have c12 := hD.cells.2.1
  obtain ⟨w3, hrun, hpm3, hg3, hz3, hf3⟩ := hD.mp.del (t := 51) Try.underlying9 Try.underlying51 nm hml 0
  have hkm : Kept w2 w3 (fun q => q ≠ m) := Kept.grown hg3 fun k hk hN => by cases hk; exact hN rfl
  have hbm : Below base w2 w3 := (Below.refl base _).grown hg3 hD.base_le (fun k hk => by cases hk; exact hD.hm)
  rw [HN.out, del_tail HNO.out] at hpm3
  have hadd := hD.tail hkm hpm3
  have hfm : Fr base w2 w3 := by
    refine ⟨hbm, hkm.imp fun q _ hq => ?_⟩
    obtain ⟨o, hmo, ho⟩ := hD.mapObj
    rintro rfl
    exact not_foreign_map hmo ho hq
  have HZ := hid (And.intro hadd (hFr.trans hfm))
  clear hpm3 hg3 hz3 hf3 hkm hbm hadd hfm hD hFr
  go_wp2
  go_ret
  exact ⟨rfl, ⟨_, HZ.out.1⟩, HZ.out.2⟩
theorem remove_G (h : HG w base p room fl L) {nm : List UInt8} {l : Nat} {fl' : FL} (hfl : fl = (nm, l) :: fl') (hml : nm.length ≤ maxLen) :
    Calls Try.prog 21 #[dp p, nmv nm] w fun e w' => e = .returned (.int .i64 0) ∧ HG w' base p room fl' L ∧ Fr base w w' := by
  obtain ⟨d, fs, m, lv, x, h, g⟩ := h
  obtain ⟨f, hf, hn, hl⟩ := HG.at h g (i := 0) (by rw [hfl]; rfl)
  cases fs with
  | nil => simp at hf
  | cons f0 fs =>
    simp at hf
    subst hf
    subst hn
    refine (remove_head h g.small g.off hml).mono fun e w' ⟨he, ⟨lv', hd⟩, hf⟩ => ⟨he, ⟨_, _, _, _, _, hd, ?_⟩, hf⟩
    have hlf : (Dk.forget d.log f0.fm.name 0).length ≤ d.log.length := List.length_filter_le _ _
    have hsub : ∀ f ∈ d.files.tail, f ∈ d.files := fun f hf => List.mem_of_mem_tail hf
    refine ⟨g.room, g.left, g.off, ?_, ⟨?_, ?_, ?_, ?_⟩, ?_⟩
    · have := g.fl
      rw [hfl] at this
      show flOf d.files.tail = fl'
      unfold flOf at this ⊢
      rw [List.map_tail, this]; rfl
    · intro r hr; exact g.small.log r (List.mem_filter.1 hr).1
    · have := g.small.llen; show (Dk.forget d.log f0.fm.name 0).length ≤ _; omega
    · intro f hf; exact g.small.now f (hsub f hf)
    · intro f hf; exact g.small.kept f (hsub f hf)
    · have := g.len; show (Dk.forget d.log f0.fm.name 0).length ≤ _; omega
end
end Go.Proofs.Ytcmfmjmjamfndaa
