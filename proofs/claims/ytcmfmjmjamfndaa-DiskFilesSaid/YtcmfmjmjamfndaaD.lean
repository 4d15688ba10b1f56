import Derived.Test.YtcmfmjmjamfndaaC
namespace Go.Proofs.Ytcmfmjmjamfndaa
open Go.RowKit Go.Mx Go.Dk Go.Maps
set_option linter.unusedSimpArgs false
set_option linter.unusedVariables false

def usedIf (fs : List FR) (q : List UInt8 → Bool) : Nat := ((fs.filter fun f => q f.fm.name).map fun f => f.fm.now.length).sum
theorem usedIf_step (left : List UInt8 → Bool) : ∀ (fs : List FR) (hn : (fs.map (·.fm.name)).Nodup) (i : Nat) (f : FR) (hi : fs[i]? = some f) (hl : left f.fm.name = true),
    usedIf fs (fun t => !(left t && !(t == f.fm.name))) = usedIf fs (fun t => !left t) + f.fm.now.length
  | [], _, i, f, hi, _ => by simp at hi
  | g :: l, hn, 0, f, hi, hl => by
    simp at hi; subst hi
    rw [List.map_cons, List.nodup_cons] at hn
    have e : l.filter (fun x => !(left x.fm.name && !(x.fm.name == g.fm.name))) = l.filter (fun x => !left x.fm.name) := by
      apply List.filter_congr
      intro x hx
      have : (x.fm.name == g.fm.name) = false := by
        rw [beq_eq_false_iff_ne]; intro e; exact hn.1 (e ▸ List.mem_map.2 ⟨x, hx, rfl⟩)
      rw [this]; simp
    unfold usedIf
    rw [List.filter_cons, List.filter_cons]
    simp only [hl, e]
    simp; omega
  | g :: l, hn, i + 1, f, hi, hl => by
    rw [List.map_cons, List.nodup_cons] at hn
    have hf : f ∈ l := by simp at hi; exact List.mem_of_getElem? hi
    have ih := usedIf_step left l hn.2 i f (by simpa using hi) hl
    have hne : (g.fm.name == f.fm.name) = false := by
      rw [beq_eq_false_iff_ne]; intro e; exact hn.1 (e ▸ List.mem_map.2 ⟨f, hf, rfl⟩)
    unfold usedIf at ih ⊢
    rw [List.filter_cons, List.filter_cons]
    simp only [hne]
    cases hg : left g.fm.name
    · simp only [Bool.false_and, Bool.not_false, if_true, List.map_cons, List.sum_cons] at ih ⊢
      omega
    · simp only [Bool.true_and, Bool.not_false, Bool.not_true, Bool.false_eq_true, if_false]
      exact ih
theorem usedIf_le (fs : List FR) (q : List UInt8 → Bool) : usedIf fs q ≤ Dk.used (fs.map (·.fm)) := by
  unfold usedIf Dk.used
  induction fs with
  | nil => simp
  | cons g l ih =>
    rw [List.filter_cons]
    split
    · simp at ih ⊢; omega
    · simp at ih ⊢; omega
theorem usedIf_all (fs : List FR) (q : List UInt8 → Bool) (h : ∀ s, q s = true) : usedIf fs q = Dk.used (fs.map (·.fm)) := by
  unfold usedIf Dk.used
  rw [List.filter_eq_self.2 fun f _ => h _, List.map_map]; rfl
theorem usedIf_none (fs : List FR) (q : List UInt8 → Bool) (h : ∀ f ∈ fs, q f.fm.name = false) : usedIf fs q = 0 := by
  unfold usedIf
  rw [List.filter_eq_nil_iff.2 fun f hf => by rw [h f hf]; simp]; rfl

theorem plOf_names (fs : List FR) : (plOf fs).map (·.1) = fs.map (·.fm.name) := by unfold plOf; rw [List.map_map]; rfl
theorem look_mem {fs : List FR} {f : FR} (hf : f ∈ fs) : (Mx.look (plOf fs) f.fm.name).isSome = true := by
  cases h : Mx.look (plOf fs) f.fm.name with
  | some b => rfl
  | none => rw [look_none, plOf_names] at h; exact absurd (List.mem_map.2 ⟨f, hf, rfl⟩) h
theorem look_at {fs : List FR} {nm : List UInt8} {b : Nat} (h : Mx.look (plOf fs) nm = some b) : ∃ (i : Nat) (f : FR), fs[i]? = some f ∧ f.fm.name = nm ∧ f.fb = b := by
  induction fs with
  | nil => unfold plOf at h; simp [Mx.look_nil] at h
  | cons g l ih =>
    unfold plOf at h ih
    rw [List.map_cons, look_cons] at h
    by_cases e : g.fm.name = nm
    · rw [if_pos e] at h; exact ⟨0, g, rfl, e, by simpa using h⟩
    · rw [if_neg e] at h
      obtain ⟨i, f, h1, h2⟩ := ih h
      exact ⟨i + 1, f, by simpa using h1, h2⟩

section
variable {w : World} {base p : Nat} {d : DM} {fs : List FR} {m : Nat} {lv : Value} {x : Int} {V : Nat → Bool → Prop}
set_option maxRecDepth 100000 in
theorem used_any (h : DK w base p d fs m lv x V) (hV : ∀ i, V i true) (hu : Dk.used d.files ≤ 1000000000) : Calls Try.prog 20 #[dp p] w fun e w' => e = .returned (.int .i64 (Dk.used d.files)) ∧ Below w.heap.size w w' := by
  obtain ⟨c0, c1, c2, c3, c4, c5⟩ := h.cells
  have H := hid h
  have hmp := h.mp
  have hn : (fs.map (·.fm.name)).Nodup := by have := h.mp.nodup; rwa [plOf_names] at this
  have HN := hid hn
  have HU := hid hu
  have HF := hid h.files
  clear h c0 c2 c3 c4 c5 hn hu
  go_enter Try.func20, Try.ntmps20
  go_wp2_with (first
    | (at_range; refine range_pm _ rfl _ rfl Try.underlying9 Try.underlying51 rfl hmp ?_; intro w0 hrg0 hg0 hs0)
    | go_in)
  go_frame
  go_loopw [3] (fun n wr => ∃ (left : List UInt8 → Bool) (cnt : Nat), n = .int .i64 (usedIf fs fun t => !left t) ∧ RG Try.prog 9 wr m w.heap.size (plOf fs) left cnt ∧ Below w.heap.size w wr) (fun _ wr => wr.rangeLeft m w.heap.size)
  case atStart =>
    refine ⟨_, _, ?_, hrg0, (Below.refl w.heap.size w).grown hg0 (Nat.le_refl _) (by simp)⟩
    rw [usedIf_none fs _ fun f hf => by rw [look_mem hf]; rfl]; rfl
  case round =>
    obtain ⟨left, cnt, rfl, hrg, hbel⟩ := hrel
    clear hrg0 hg0 hs0
    go_wp2_with (first
      | (at_next; refine next_pm _ rfl _ rfl Try.underlying9 w.heap.size _ _ rfl hrg ?_ ?_)
      | go_in)
    · intro hl0
      rw [usedIf_all fs _ fun s => by rw [hl0]; rfl]
      rw [← HF.out]
      go_wp2
      go_ret
      exact ⟨rfl, hbel⟩
    · intro s b w1 cnt1 hlk hls hrg1 hlt hg1 hs1 hen
      obtain ⟨i, f, hi, rfl, rfl⟩ := look_at hlk
      have hb1 : Below w.heap.size w w1 := hbel.grown hg1 (by have := hbel.size; omega) (fun k hk => by cases hk; exact Nat.le_refl _)
      have h1 := H.out.below hb1
      obtain ⟨d0, d1, _⟩ := h1.fcells hi
      have hlen := fun w' => secs_len (h1.ow i f true hi (hV i)) w' (ty := 3)
      obtain ⟨oa, nn, c, hv⟩ := h1.sh i f true hi
      have hnv : f.nv = .slice oa nn c := hv
      rw [show sl f true = f.nv from rfl, hnv] at hlen
      rw [hnv] at d0
      have HS := hid (usedIf_step left fs HN.out i f hi hls)
      have hul := usedIf_le fs (fun t => !(left t && !(t == f.fm.name)))
      rw [HS.out, ← HF.out] at hul
      have hul2 := HU.out
      obtain ⟨U, hU⟩ : ∃ U, U = usedIf fs fun t => !left t := ⟨_, rfl⟩
      rw [← hU] at HS hul ⊢
      obtain ⟨N, hN⟩ : ∃ N, N = (rws f true).length := ⟨_, rfl⟩
      have hlen' : ∀ w', (Builtin.len_ #[63] 3 #[.slice oa nn c]).run Try.prog w' = .ok (.int .i64 N) w' := fun w' => by rw [hN]; exact hlen w'
      have hN' : N = f.fm.now.length := hN
      rw [← hN'] at HS hul
      have hwr : IntKind.i64.wrap ((U : Int) + (N : Int)) = (U : Int) + (N : Int) := IntWalk.i64_in _ (by omega)
      have HR := hid (And.intro hrg1 (And.intro hlt (And.intro hb1 hrg)))
      clear hN hN' hU hlen hv hnv h1 hb1 hbel hrg1 hlt hg1 hs1 hul hul2 d1 hls hlk hrg
      go_wp2_with fail
      go_roundw
      case rel => exact ⟨_, cnt1, by rw [HS.out]; simp, HR.out.1, HR.out.2.2.1⟩
      case measure => rw [HR.out.1.left_eq, HR.out.2.2.2.left_eq]; exact HR.out.2.1
end
end Go.Proofs.Ytcmfmjmjamfndaa
