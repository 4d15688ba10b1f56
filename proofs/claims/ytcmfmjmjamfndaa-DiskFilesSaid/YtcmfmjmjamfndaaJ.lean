import Derived.Test.YtcmfmjmjamfndaaH
namespace Go.Proofs.Ytcmfmjmjamfndaa
open Go.RowKit Go.Mx Go.Dk
set_option linter.unusedSimpArgs false
set_option linter.unusedVariables false

theorem setF_set' (g : FM → FM) : ∀ (fs : List FR) (i : Nat) (f : FR) (f' : FR), (fs.map (·.fm.name)).Nodup → fs[i]? = some f → f'.fm = g f.fm → (fs.set i f').map (·.fm) = setF (fs.map (·.fm)) f.fm.name g
  | [], i, f, f', _, hi, _ => by simp at hi
  | h :: l, 0, f, f', hn, hi, hf => by
    simp at hi; subst hi
    rw [List.map_cons, List.nodup_cons] at hn
    unfold setF
    rw [List.set_cons_zero, List.map_cons, List.map_cons, List.map_cons, hf]
    simp only [beq_self_eq_true, if_true]
    congr 1
    rw [List.map_map]
    apply List.map_congr_left
    intro y hy
    have : (y.fm.name == h.fm.name) = false := by
      rw [beq_eq_false_iff_ne]; intro e; exact hn.1 (e ▸ List.mem_map.2 ⟨y, hy, rfl⟩)
    simp [Function.comp, this]
  | h :: l, i + 1, f, f', hn, hi, hf => by
    rw [List.map_cons, List.nodup_cons] at hn
    have hfl : f ∈ l := by simp at hi; exact List.mem_of_getElem? hi
    have ih := setF_set' g l i f f' hn.2 (by simpa using hi) hf
    have : (h.fm.name == f.fm.name) = false := by
      rw [beq_eq_false_iff_ne]; intro e; exact hn.1 (e ▸ List.mem_map.2 ⟨f, hfl, rfl⟩)
    unfold setF at ih ⊢
    rw [List.set_cons_succ, List.map_cons, List.map_cons, List.map_cons, ih]
    simp [this]

theorem nodup_at {fs : List FR} {i j : Nat} {f g : FR} (hn : (fs.map (·.fm.name)).Nodup) (hj : fs[j]? = some g) (hi : fs[i]? = some f) (e : g.fm.name = f.fm.name) : j = i := by
  have h1 : (fs.map (·.fm.name))[j]? = some g.fm.name := by rw [List.getElem?_map, hj]; rfl
  have h2 : (fs.map (·.fm.name))[i]? = some f.fm.name := by rw [List.getElem?_map, hi]; rfl
  rw [e] at h1
  have l1 := (List.getElem?_eq_some_iff.1 h1)
  have l2 := (List.getElem?_eq_some_iff.1 h2)
  have key := List.pairwise_iff_getElem.1 hn
  rcases Nat.lt_trichotomy j i with h3 | h3 | h3
  · exact absurd (l1.2.trans l2.2.symm) (key j i l1.1 l2.1 h3)
  · exact h3
  · exact absurd (l2.2.trans l1.2.symm) (key i j l2.1 l1.1 h3)
def All : Nat → Bool → Prop := fun _ _ => True
/-- what all laws here carry: a disk of which only the fit parts are told -/
structure Small (d : DM) : Prop where
  log : ∀ r ∈ d.log, r.b.length = 16
  llen : d.log.length ≤ 1000000
  now : ∀ f ∈ d.files, SecsOk f.now
  kept : ∀ f ∈ d.files, SecsOk f.kept
theorem dk_mem {w : World} {base p : Nat} {d : DM} {fs : List FR} {m : Nat} {lv : Value} {x : Int} {V : Nat → Bool → Prop} (h : DK w base p d fs m lv x V) {i : Nat} {f : FR} (hi : fs[i]? = some f) : f.fm ∈ d.files := by
  rw [h.files]; exact List.mem_map.2 ⟨f, List.mem_of_getElem? hi, rfl⟩

section
variable {w w' : World} {base p : Nat} {d : DM} {fs : List FR} {m : Nat} {lv : Value} {x : Int} {V : Nat → Bool → Prop}
theorem DK.base_le (h : DK w base p d fs m lv x V) : base ≤ w.heap.size := by have := h.hp; have := h.plt; omega
theorem setF_at (h : DK w base p d fs m lv x V) {i : Nat} {f : FR} (hi : fs[i]? = some f) (F : FR) (g : FM → FM) (hF : F.fm = g f.fm) : (fs.set i F).map (·.fm) = setF d.files f.fm.name g := by
  rw [h.files]; exact setF_set' g fs i f F (by have := h.mp.nodup; rwa [plOf_names] at this) hi hF
set_option maxRecDepth 100000 in
theorem flush_any (h : DK w base p d fs m lv x (fun _ _ => True)) (hs : Small d) {i : Nat} {f : FR} (hi : fs[i]? = some f) (hoff : d.off = false) (hnl : f.fm.name.length ≤ maxLen) :
    Calls Try.prog 16 #[dp p, nmv f.fm.name] w fun e w' => e = .returned (.int .i64 0) ∧
      (∃ fs' lv', DK w' base p { d with files := setF d.files f.fm.name (fun g => { g with kept := g.now }), log := Dk.forget d.log f.fm.name 0 } fs' m lv' x (fun _ _ => True)) ∧ Fr base w w' := by
  have hlk : Mx.look (plOf fs) f.fm.name = some f.fb := by
    rcases h.who f.fm.name with ⟨hl, _⟩ | ⟨j, g, hj, hgn, hl, _⟩
    · rw [look_none, plOf_names] at hl; exact absurd (List.mem_map.2 ⟨f, List.mem_of_getElem? hi, rfl⟩) hl
    · rw [hl]
      have : j = i := nodup_at (by have := h.mp.nodup; rwa [plOf_names] at this) hj hi hgn
      subst this; rw [hj] at hi; cases hi; rfl
  have HH := hid (has_yes h f.fm.name hnl hoff hlk)
  obtain ⟨e0, e1, ez⟩ := h.fcells hi
  have hown := h.ow i f true hi trivial
  obtain ⟨oa, nn, c, hv⟩ := h.sh i f true hi
  have hnv : f.nv = .slice oa nn c := hv
  obtain ⟨ka, kn, kc, hv2⟩ := h.sh i f false hi
  have hkv : f.kv = .slice ka kn kc := hv2
  have hown' : OwnG w base 71 16 f.nv (f.fm.now.map srow) := hown
  rw [hnv] at e0 hown'
  rw [hkv] at e1
  have HC := hid (clone_any _ _ _ w hown' (hs.now _ (dk_mem h hi)).1)
  have H0 := hid (And.intro h hi)
  have HB := hid h.base_le
  have hfb := (h.fc i f hi).1
  have HS := hid hs
  clear h hs hown hown' hv hv2 hnv hkv hlk hoff hnl hi
  go_enter Try.func16, Try.ntmps16
  go_wp2_with fail
  refine HH.out.mono ?_
  rintro e w1 ⟨rfl, rfl⟩
  go_wp2_with fail
  refine HC.out.mono ?_
  rintro e w1 ⟨v', rfl, ho1, hb1⟩
  obtain ⟨oa', n', c', rfl⟩ := ho1.sliceOf
  have hfb1 := (hb1.block _ (blk_lt hfb)).trans hfb
  have g1 : w1.cell? ⟨f.fb, 1, none⟩ = some f.kv := by simp [World.cell?, hfb1]
  have gz : w1.frozen? ⟨f.fb, 1, none⟩ = false := by simp [World.frozen?, hfb1]
  have hnew := DK.newSl H0.out.1 H0.out.2 false (fun _ _ => True) (fun _ _ _ _ => trivial) (N := fun _ => True) (.of_below hb1 fun _ h _ => h) (fun _ _ => trivial) (hb1.mono HB.out) (.slice oa' n' c') f.fm.now (fun _ => ho1.any_base HB.out)
    (fun _ q hq => .inr (ho1.ge q hq)) (fun _ _ q hq1 hq2 => by
      have h1 := ho1.ge q hq1
      have h2 := (H0.out.1.ow i f true H0.out.2 trivial).lt q hq2
      omega) ⟨_, _, _, rfl⟩
  have hset := setF_at H0.out.1 H0.out.2 (upF f false (.slice oa' n' c') f.fm.now) (fun g => { g with kept := g.now }) rfl
  rw [hset] at hnew
  have HN := hid hnew
  have HF := hid (forget_any hnew.1 f.fm.name 0 HS.out.log (by show d.log.length ≤ _; have := HS.out.llen; omega))
  clear hnew hset ho1 hb1 hfb1 hfb
  go_wp2_with fail
  refine HF.out.mono ?_
  rintro e w2 ⟨rfl, ⟨lv', hD⟩, hFr⟩
  have HE := hid (And.intro hD (HN.out.2.trans hFr))
  clear hD hFr
  go_wp2
  go_ret
  exact ⟨rfl, ⟨_, _, HE.out.1⟩, HE.out.2⟩
end
end Go.Proofs.Ytcmfmjmjamfndaa
