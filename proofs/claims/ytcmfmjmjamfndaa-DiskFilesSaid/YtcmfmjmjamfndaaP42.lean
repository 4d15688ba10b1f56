import Derived.Test.YtcmfmjmjamfndaaP41
namespace Go.Proofs.Ytcmfmjmjamfndaa
open Go.RowKit Go.Mx Go.Dk
set_option linter.unusedSimpArgs false
set_option linter.unusedVariables false
section
variable {w w' : World} {base p room L : Nat} {fl : FL}
theorem HG.empty {m : Nat} {lv : Value} {x : Int} (h : DK w base p ⟨room, [], [], 0, false⟩ [] m lv x (fun _ _ => True)) : HG w base p room [] 0 :=
  ⟨_, _, _, _, _, h, ⟨rfl, rfl, rfl, rfl, ⟨by simp, by simp, by simp, by simp⟩, by simp⟩⟩
theorem HG.nodup (h : HG w base p room fl L) : (fl.map (·.1)).Nodup := by
  obtain ⟨d, fs, m, lv, x, h, g⟩ := h
  have := h.mp.nodup
  rw [plOf_names] at this
  have e : fl.map (·.1) = fs.map (·.fm.name) := by
    rw [← g.fl, ← names_fl, h.files, List.map_map]; rfl
  rw [e]; exact this
theorem HG.at {d : DM} {fs : List FR} {m : Nat} {lv : Value} {x : Int} {V : Nat → Bool → Prop} (h : DK w base p d fs m lv x V) (g : G room fl L d) {i : Nat} {nm : List UInt8} {l : Nat} (hi : fl[i]? = some (nm, l)) :
    ∃ f, fs[i]? = some f ∧ f.fm.name = nm ∧ f.fm.now.length = l := by
  have e : fl = fs.map fun f => (f.fm.name, f.fm.now.length) := by
    rw [← g.fl, h.files, flOf, List.map_map]; rfl
  rw [e, List.getElem?_map] at hi
  cases hf : fs[i]? with
  | none => rw [hf] at hi; cases hi
  | some f => rw [hf] at hi; simp at hi; exact ⟨f, rfl, hi.1, hi.2⟩
theorem HG.lens {d : DM} {fs : List FR} {m : Nat} {lv : Value} {x : Int} {V : Nat → Bool → Prop} (h : DK w base p d fs m lv x V) (g : G room fl L d) : fs.length = fl.length := by
  rw [← g.fl, h.files]; simp [flOf]
theorem create_G (h : HG w base p room fl L) (nm : List UInt8) (hn1 : 1 ≤ nm.length) (hn2 : nm.length ≤ 16) (hno : nm ∉ fl.map (·.1)) (hfl : fl.length < 32) :
    Calls Try.prog 13 #[dp p, nmv nm] w fun e w' => e = .returned (.int .i64 0) ∧ HG w' base p room (fl ++ [(nm, 0)]) L ∧ Fr base w w' := by
  obtain ⟨d, fs, m, lv, x, h, g⟩ := h
  refine (create_new h g.small g.off nm hn1 hn2 ?_ (by rw [HG.lens h g]; exact hfl)).mono fun e w' ⟨he, ⟨b, lv', hd⟩, hf⟩ => ⟨he, ⟨_, _, _, _, _, hd, ?_⟩, hf⟩
  · rw [look_none, plOf_names]
    have e : fl.map (·.1) = fs.map (·.fm.name) := by rw [← g.fl, ← names_fl, h.files, List.map_map]; rfl
    rw [← e]; exact hno
  · have hlf : (Dk.forget d.log nm 0).length ≤ d.log.length := List.length_filter_le _ _
    refine ⟨g.room, g.left, g.off, ?_, ⟨?_, ?_, ?_, ?_⟩, ?_⟩
    · rw [← g.fl]; simp [flOf]
    · intro r hr; exact g.small.log r (List.mem_filter.1 hr).1
    · have := g.small.llen; show (Dk.forget d.log nm 0).length ≤ _; omega
    · intro f hf
      rcases List.mem_append.1 hf with hf | hf
      · exact g.small.now f hf
      · simp at hf; subst hf; exact ok_nil
    · intro f hf
      rcases List.mem_append.1 hf with hf | hf
      · exact g.small.kept f hf
      · simp at hf; subst hf; exact ok_nil
    · have := g.len; show (Dk.forget d.log nm 0).length ≤ _; omega
theorem used_G (h : HG w base p room fl L) (hu : (fl.map (·.2)).sum ≤ 1000000000) : Calls Try.prog 20 #[dp p] w fun e w' => e = .returned (.int .i64 ((fl.map (·.2)).sum : Nat)) ∧ HG w' base p room fl L ∧ Below w.heap.size w w' := by
  obtain ⟨d, fs, m, lv, x, h, g⟩ := h
  have hs : Dk.used d.files = (fl.map (·.2)).sum := by rw [used_fl, g.fl]
  have := used_any h (fun _ => trivial) (by rw [hs]; exact hu)
  rw [hs] at this
  exact this.mono fun e w' ⟨he, hb⟩ => ⟨he, ⟨_, _, _, _, _, h.below hb, g⟩, hb⟩
theorem flat_zs (n : Nat) : (List.replicate n zs).flatten = List.replicate (16 * n) 0 := by
  unfold zs; rw [List.flatten_replicate_replicate, Nat.mul_comm]
/-- sectors of noughts are written, or refused -/
theorem write_G (h : HG w base p room fl L) {i : Nat} {nm : List UInt8} {l : Nat} (hi : fl[i]? = some (nm, l)) (hnl : nm.length ≤ maxLen) (k n : Nat) (bv : Value) (hst : ∀ w', Fr base w w' → SlB w' w'.heap.size bv (List.replicate (16 * n) 0)) (hk : k + n ≤ 65536) (hn : 1 ≤ n)
    (hur : (fl.map (·.2)).sum ≤ room) (hroom : room ≤ 1048576) (hL : L + n ≤ 1000000) :
    Calls Try.prog 14 #[dp p, nmv nm, .int .i64 k, bv] w fun e w' => Fr base w w' ∧
      (((k + n ≤ l ∨ k + n + (fl.map (·.2)).sum ≤ room + l) ∧ e = .returned (.int .i64 0) ∧ HG w' base p room (fl.set i (nm, max l (k + n))) (L + n)) ∨
       (¬ (k + n ≤ l ∨ k + n + (fl.map (·.2)).sum ≤ room + l) ∧ e = .returned (.int .i64 7) ∧ HG w' base p room fl L)) := by
  have hnd := h.nodup
  obtain ⟨d, fs, m, lv, x, h, g⟩ := h
  obtain ⟨f, hf, rfl, rfl⟩ := HG.at h g hi
  have hu : Dk.used d.files = (fl.map (·.2)).sum := by rw [used_fl, g.fl]
  have hz : ∀ s ∈ List.replicate n zs, s.length = 16 := by intro s hs; rw [List.eq_of_mem_replicate hs]; rfl
  refine (write_any h g.small g.off hf hnl k (List.replicate n zs) bv (by rw [flat_zs]; exact hst) hz (by simpa using hk) (by simpa using hn) (by rw [hu, g.room]; exact hur) (by rw [g.room]; exact hroom) (by rw [g.left]; omega) (by have := g.len; simp; omega)).mono fun e w' ⟨hfr, hr⟩ => ⟨hfr, ?_⟩
  unfold WRes fits at hr
  rw [hu, g.room, List.length_replicate] at hr
  rcases hr with ⟨h1, he, fs', lv', x', hd⟩ | ⟨h1, he, hd⟩
  · refine .inl ⟨h1, ?_⟩
    obtain ⟨l', hl', hg', hb⟩ := G.many (List.replicate n zs) fl L f.fm.now.length d k g hnd hi (by simpa using hk) hz (by simpa using hL)
    rw [hb] at he
    rw [if_neg (by cases n with | zero => omega | succ n => simp [List.replicate_succ]), List.length_replicate] at hl'
    rw [hl', List.length_replicate] at hg'
    exact ⟨he, _, _, _, _, _, hd, hg'⟩
  · exact .inr ⟨h1, he, _, _, _, _, _, hd, g⟩
/-- no sector is written -/
theorem write_none (h : HG w base p room fl L) {i : Nat} {nm : List UInt8} {l : Nat} (hi : fl[i]? = some (nm, l)) (hnl : nm.length ≤ maxLen) (k : Nat) (oa : Option Addr) (c : Nat) :
    Calls Try.prog 14 #[dp p, nmv nm, .int .i64 k, .slice oa 0 c] w fun e w' => e = .returned (.int .i64 0) ∧ w = w' := by
  obtain ⟨d, fs, m, lv, x, h, g⟩ := h
  obtain ⟨f, hf, rfl, rfl⟩ := HG.at h g hi
  have HH := hid (has_yes h f.fm.name hnl g.off (h.lookAt hf))
  have hlen : ∀ w', (Builtin.len_ #[22] 3 #[.slice oa 0 c]).run Try.prog w' = .ok (.int .i64 0) w' := fun w' => len_sl Try.underlying22 rfl w'
  have t1 : decide ((k : Int) < 0) = false := by simp
  clear h g hi hf
  go_enter Try.func14, Try.ntmps14
  go_wp2_with fail
  refine HH.out.mono ?_
  rintro e w1 ⟨rfl, rfl⟩
  go_wp2
  go_ret
  exact ⟨rfl, rfl⟩
/-- the first file goes -/
theorem DK.tail {d : DM} {f0 : FR} {fs : List FR} {m : Nat} {lv : Value} {x : Int} (h : DK w base p d (f0 :: fs) m lv x (fun _ _ => True)) (hk : Kept w w' (fun q => q ≠ m)) (hm : PM Try.prog 9 w' m (plOf fs)) :
    DK w' base p { d with files := d.files.tail } fs m lv x (fun _ _ => True) := by
  obtain ⟨o, hmo, ho⟩ := h.mapObj
  have hold := fun {q : Nat} {c : Array Value} {t : TypeId} {fr : Nat × Nat} (hq : w.heap[q]? = some (.cells c t fr)) => (hk.block q (blk_lt hq) (not_cells hmo ho hq)).trans hq
  refine { files := by show d.files.tail = _; rw [h.files]; rfl, dk := hold h.dk, hp := h.hp, hm := h.hm, mp := hm, lg := h.lg.kept hk fun q e => by rintro rfl; exact h.lg.notMap hmo ho e, fc := ?_, ow := ?_, af := ?_, as_ := ?_, sh := ?_ }
  · intro i f hi
    have hi' : (f0 :: fs)[i + 1]? = some f := by simpa using hi
    exact ⟨hold (h.fc _ f hi').1, (h.fc _ f hi').2⟩
  · intro i f b hi _
    have hi' : (f0 :: fs)[i + 1]? = some f := by simpa using hi
    exact (h.ow _ f b hi' trivial).kept hk fun q e => by rintro rfl; exact (h.ow _ f b hi' trivial).notMap hmo ho e
  · intro i j f g hi hj hij
    exact h.af (i + 1) (j + 1) f g (by simpa using hi) (by simpa using hj) (by omega)
  · intro i j a b f g hi hj _ _ hne
    exact h.as_ (i + 1) (j + 1) a b f g (by simpa using hi) (by simpa using hj) trivial trivial (hne.imp (fun h => by omega) id)
  · intro i f b hi
    exact h.sh (i + 1) f b (by simpa using hi)
end
end Go.Proofs.Ytcmfmjmjamfndaa
