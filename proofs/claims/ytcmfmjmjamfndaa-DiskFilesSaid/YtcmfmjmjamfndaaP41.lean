import Derived.Test.YtcmfmjmjamfndaaP76
namespace Go.Proofs.Ytcmfmjmjamfndaa
open Go.RowKit Go.Mx Go.Dk
set_option linter.unusedSimpArgs false
set_option linter.unusedVariables false
abbrev FL := List (List UInt8 × Nat)
def flOf (fs : List FM) : FL := fs.map fun f => (f.name, f.now.length)
/-- a disk of which the files' names and lengths are told -/
structure G (room : Nat) (fl : FL) (L : Nat) (d : DM) : Prop where
  room : d.room = room
  left : d.left = 0
  off : d.off = false
  fl : flOf d.files = fl
  small : Small d
  len : d.log.length ≤ L
def HG (w : World) (base p room : Nat) (fl : FL) (L : Nat) : Prop := ∃ d fs m lv x, DK w base p d fs m lv x (fun _ _ => True) ∧ G room fl L d
theorem HG.below {w w' : World} {base p room L : Nat} {fl : FL} (h : HG w base p room fl L) (hb : Below w.heap.size w w') : HG w' base p room fl L := by
  obtain ⟨d, fs, m, lv, x, h, g⟩ := h; exact ⟨d, fs, m, lv, x, h.below hb, g⟩
theorem HG.base_le {w : World} {base p room L : Nat} {fl : FL} (h : HG w base p room fl L) : base ≤ w.heap.size := by
  obtain ⟨d, fs, m, lv, x, h, g⟩ := h; exact h.base_le
theorem used_fl (fs : List FM) : used fs = ((flOf fs).map (·.2)).sum := by
  unfold used flOf; rw [List.map_map]; rfl
theorem names_fl (fs : List FM) : fs.map (·.name) = (flOf fs).map (·.1) := by
  unfold flOf; rw [List.map_map]; rfl
theorem setF_none (nm : List UInt8) (g : FM → FM) : ∀ (fs : List FM), nm ∉ fs.map (·.name) → setF fs nm g = fs
  | [], _ => rfl
  | f :: fs, h => by
    rw [List.map_cons, List.mem_cons, not_or] at h
    have ih := setF_none nm g fs h.2
    unfold setF at ih ⊢
    rw [List.map_cons, ih]
    have : (f.name == nm) = false := by rw [beq_eq_false_iff_ne]; exact fun e => h.1 e.symm
    rw [this]; rfl
theorem setF_fl (k : Nat) (s : Sec) (nm : List UInt8) (l : Nat) : ∀ (fs : List FM) (i : Nat), (fs.map (·.name)).Nodup → (flOf fs)[i]? = some (nm, l) →
    flOf (setF fs nm fun f => { f with now := put f.now k s }) = (flOf fs).set i (nm, max l (k + 1))
  | [], i, _, hi => by simp [flOf] at hi
  | f :: fs, 0, hn, hi => by
    simp [flOf] at hi
    obtain ⟨rfl, rfl⟩ := hi
    rw [List.map_cons, List.nodup_cons] at hn
    have h1 := setF_none f.name (fun f => { f with now := put f.now k s }) fs hn.1
    unfold setF at h1 ⊢
    rw [List.map_cons, h1]
    simp [flOf, put_len]
  | f :: fs, i + 1, hn, hi => by
    rw [List.map_cons, List.nodup_cons] at hn
    have hi' : (flOf fs)[i]? = some (nm, l) := by simpa [flOf] using hi
    have ih := setF_fl k s nm l fs i hn.2 hi'
    have hne : (f.name == nm) = false := by
      rw [beq_eq_false_iff_ne]
      rintro rfl
      refine hn.1 ?_
      rw [names_fl]
      exact List.mem_map.2 ⟨_, List.mem_of_getElem? hi', rfl⟩
    unfold setF at ih ⊢
    rw [List.map_cons, hne]
    unfold flOf at ih ⊢
    simp only [List.map_cons, List.set_cons_succ, ih]
    rfl
theorem G.nodup {room L : Nat} {fl : FL} {d : DM} (g : G room fl L d) (hn : (fl.map (·.1)).Nodup) : (d.files.map (·.name)).Nodup := by rw [names_fl, g.fl]; exact hn
theorem G.one {room L : Nat} {fl : FL} {d : DM} (g : G room fl L d) (hn : (fl.map (·.1)).Nodup) {i : Nat} {nm : List UInt8} {l : Nat} (hi : fl[i]? = some (nm, l)) (k : Nat) (hk : k < 65536) (s : Sec) (hs : s.length = 16) (hL : L + 1 ≤ 1000000) :
    G room (fl.set i (nm, max l (k + 1))) (L + 1) (Dk.one d nm k s).1 ∧ (Dk.one d nm k s).2 = true := by
  have h1 : Dk.one d nm k s = ({ d with left := d.left - 1, files := setF d.files nm fun f => { f with now := put f.now k s }, log := d.log ++ [⟨nm, k, s⟩] }, true) := by
    unfold Dk.one; rw [if_neg (by have := g.left; omega)]
  rw [h1]
  refine ⟨⟨g.room, by show d.left - 1 = 0; have := g.left; omega, g.off, ?_, ⟨?_, ?_, ?_, ?_⟩, ?_⟩, rfl⟩
  · rw [← g.fl]
    exact setF_fl k s nm l d.files i (g.nodup hn) (by rw [g.fl]; exact hi)
  · intro r hr
    rcases List.mem_append.1 hr with hr | hr
    · exact g.small.log r hr
    · simp at hr; subst hr; exact hs
  · show (d.log ++ _).length ≤ _
    have := g.len; simp; omega
  · intro f hf
    obtain ⟨f0, h0, rfl | rfl⟩ := setF_mem hf
    · exact g.small.now _ h0
    · exact put_ok (g.small.now _ h0) k hk s hs
  · intro f hf
    obtain ⟨f0, h0, rfl | rfl⟩ := setF_mem hf
    · exact g.small.kept _ h0
    · exact g.small.kept f0 h0
  · show (d.log ++ _).length ≤ _
    have := g.len; simp; omega
theorem set_at {α : Type} {l : List α} {i : Nat} {y : α} (h : l[i]? = some y) (z : α) : (l.set i z)[i]? = some z := by
  rw [List.getElem?_set_self (List.getElem?_eq_some_iff.1 h).1]
theorem set_names {fl : FL} {i : Nat} {nm : List UInt8} {l : Nat} (hi : fl[i]? = some (nm, l)) (l' : Nat) : (fl.set i (nm, l')).map (·.1) = fl.map (·.1) := by
  rw [List.map_set]
  apply List.ext_getElem?
  intro j
  rw [List.getElem?_set]
  split
  · rename_i e
    subst e
    rw [List.getElem?_map, hi]
    rw [List.length_map, if_pos (List.getElem?_eq_some_iff.1 hi).1]; rfl
  · rfl
theorem G.many {room : Nat} {nm : List UInt8} {i : Nat} : ∀ (ss : List Sec) (fl : FL) (L l : Nat) (d : DM) (k : Nat), G room fl L d → (fl.map (·.1)).Nodup → fl[i]? = some (nm, l) → k + ss.length ≤ 65536 → (∀ s ∈ ss, s.length = 16) → L + ss.length ≤ 1000000 →
    ∃ l', (l' = if ss = [] then l else max l (k + ss.length)) ∧ G room (fl.set i (nm, l')) (L + ss.length) (Dk.many d nm k ss).1 ∧ (Dk.many d nm k ss).2 = true
  | [], fl, L, l, d, k, g, hn, hi, _, _, _ => by
    refine ⟨l, by simp, ?_, rfl⟩
    rw [show fl.set i (nm, l) = fl from by
      apply List.ext_getElem?
      intro j
      rw [List.getElem?_set]
      split
      · rename_i e; subst e; rw [if_pos (List.getElem?_eq_some_iff.1 hi).1, hi]
      · rfl]
    exact g
  | s :: ss, fl, L, l, d, k, g, hn, hi, hk, hs, hL => by
    have h1 := g.one hn hi k (by simp at hk; omega) s (hs s (by simp)) (by simp at hL; omega)
    obtain ⟨l', hl', g', hb⟩ := G.many ss (fl.set i (nm, max l (k + 1))) (L + 1) (max l (k + 1)) (Dk.one d nm k s).1 (k + 1) h1.1 (by rw [set_names hi]; exact hn) (set_at hi _) (by simp at hk ⊢; omega) (fun x hx => hs x (by simp [hx])) (by simp at hL ⊢; omega)
    have e : Dk.many d nm k (s :: ss) = Dk.many (Dk.one d nm k s).1 nm (k + 1) ss := by
      have h2 := h1.2
      conv => lhs; unfold Dk.many
      generalize Dk.one d nm k s = r at h2 ⊢
      obtain ⟨r1, r2⟩ := r
      simp only at h2
      subst h2; rfl
    rw [e]
    refine ⟨l', ?_, ?_, hb⟩
    · rw [hl', if_neg (show ¬ s :: ss = [] by simp), List.length_cons]
      split
      · rename_i e; rw [e, List.length_nil]
      · omega
    · rw [List.set_set] at g'
      rw [List.length_cons, show L + (ss.length + 1) = L + 1 + ss.length by omega]; exact g'
end Go.Proofs.Ytcmfmjmjamfndaa
