import Derived.Test.YtmcllcepoiakeaaGreatDH
set_option linter.unusedSimpArgs false
set_option linter.unusedVariables false
namespace Go.Proofs.YtmcllcepoiakeaaGreat.Dx
open Go.RowKit Go.Mx Go.Mp Go.Dk
theorem setF_set' (g : FM → FM) : ∀ (fs : List FR) (i : Nat) (f : FR) (f' : FR), (fs.map (·.fm.name)).Nodup → fs[i]? = some f → f'.fm = g f.fm → (fs.set i f').map (·.fm) = setF (fs.map (·.fm)) f.fm.name g
  | [], i, f, f', _, hi, _ => by simp at hi
  | h :: l, 0, f, f', hn, hi, hf => by
    simp at hi; subst hi
    rw [List.map_cons, List.nodup_cons] at hn
    unfold setF
    rw [List.set_cons_zero, List.map_cons, List.map_cons, List.map_cons, hf]
    simp only [beq_self_eq_true, if_true]
    congr 1
    rw [List.map_map]
    apply List.map_congr_left
    intro y hy
    have : (y.fm.name == h.fm.name) = false := by
      rw [beq_eq_false_iff_ne]; intro e; exact hn.1 (e ▸ List.mem_map.2 ⟨y, hy, rfl⟩)
    simp [Function.comp, this]
  | h :: l, i + 1, f, f', hn, hi, hf => by
    rw [List.map_cons, List.nodup_cons] at hn
    have hfl : f ∈ l := by simp at hi; exact List.mem_of_getElem? hi
    have ih := setF_set' g l i f f' hn.2 (by simpa using hi) hf
    have : (h.fm.name == f.fm.name) = false := by
      rw [beq_eq_false_iff_ne]; intro e; exact hn.1 (e ▸ List.mem_map.2 ⟨f, hfl, rfl⟩)
    unfold setF at ih ⊢
    rw [List.set_cons_succ, List.map_cons, List.map_cons, List.map_cons, ih]
    simp [this]
theorem nodup_at {fs : List FR} {i j : Nat} {f g : FR} (hn : (fs.map (·.fm.name)).Nodup) (hj : fs[j]? = some g) (hi : fs[i]? = some f) (e : g.fm.name = f.fm.name) : j = i := by
  have h1 : (fs.map (·.fm.name))[j]? = some g.fm.name := by rw [List.getElem?_map, hj]; rfl
  have h2 : (fs.map (·.fm.name))[i]? = some f.fm.name := by rw [List.getElem?_map, hi]; rfl
  rw [e] at h1
  have l1 := (List.getElem?_eq_some_iff.1 h1)
  have l2 := (List.getElem?_eq_some_iff.1 h2)
  have key := List.pairwise_iff_getElem.1 hn
  rcases Nat.lt_trichotomy j i with h3 | h3 | h3
  · exact absurd (l1.2.trans l2.2.symm) (key j i l1.1 l2.1 h3)
  · exact h3
  · exact absurd (l2.2.trans l1.2.symm) (key i j l2.1 l1.1 h3)
def All : Nat → Bool → Prop := fun _ _ => True
/-- what all laws here carry: a disk of which only the fit parts are told -/
structure Small (d : DM) : Prop where
  log : ∀ r ∈ d.log, r.b.length = 16
  llen : d.log.length ≤ 1000000
  now : ∀ f ∈ d.files, SecsOk f.now
  kept : ∀ f ∈ d.files, SecsOk f.kept
theorem dk_mem {w : World} {base p : Nat} {d : DM} {fs : List FR} {m : Nat} {lv : Value} {x : Int} {V : Nat → Bool → Prop} (h : DK w base p d fs m lv x V) {i : Nat} {f : FR} (hi : fs[i]? = some f) : f.fm ∈ d.files := by
  rw [h.files]; exact List.mem_map.2 ⟨f, List.mem_of_getElem? hi, rfl⟩
section
variable {w w' : World} {base p : Nat} {d : DM} {fs : List FR} {m : Nat} {lv : Value} {x : Int} {V : Nat → Bool → Prop}
theorem DK.base_le (h : DK w base p d fs m lv x V) : base ≤ w.heap.size := by have := h.hp; have := h.plt; omega
theorem setF_at (h : DK w base p d fs m lv x V) {i : Nat} {f : FR} (hi : fs[i]? = some f) (F : FR) (g : FM → FM) (hF : F.fm = g f.fm) : (fs.set i F).map (·.fm) = setF d.files f.fm.name g := by
  rw [h.files]; exact setF_set' g fs i f F (by have := h.mp.nodup; rwa [plOf_names] at this) hi hF
set_option maxRecDepth 100000 in
theorem flush_any (h : DK w base p d fs m lv x (fun _ _ => True)) (hs : Small d) {i : Nat} {f : FR} (hi : fs[i]? = some f) (hoff : d.off = false) (hnl : f.fm.name.length ≤ maxLen) :
    Calls Tryz.prog 129 #[dp p, nmv f.fm.name] w fun e w' => e = .returned (.int .i64 0) ∧
      (∃ fs' lv', DK w' base p { d with files := setF d.files f.fm.name (fun g => { g with kept := g.now }), log := Dk.forget d.log f.fm.name 0 } fs' m lv' x (fun _ _ => True)) ∧ Fr base m w w' := by
  have hlk : Mp.look (plOf fs) f.fm.name = some f.fb := by
    rcases h.who f.fm.name with ⟨hl, _⟩ | ⟨j, g, hj, hgn, hl, _⟩
    · rw [look_none, plOf_names] at hl; exact absurd (List.mem_map.2 ⟨f, List.mem_of_getElem? hi, rfl⟩) hl
    · rw [hl]
      have : j = i := nodup_at (by have := h.mp.nodup; rwa [plOf_names] at this) hj hi hgn
      subst this; rw [hj] at hi; cases hi; rfl
  have HH := hid (has_yes h f.fm.name hnl hoff hlk)
  obtain ⟨e0, e1, ez⟩ := h.fcells hi
  have hown := h.ow i f true hi trivial
  obtain ⟨oa, nn, c, hv⟩ := h.sh i f true hi
  have hnv : f.nv = .slice oa nn c := hv
  obtain ⟨ka, kn, kc, hv2⟩ := h.sh i f false hi
  have hkv : f.kv = .slice ka kn kc := hv2
  have hown' : OwnG w base 131 16 f.nv (f.fm.now.map srow) := hown
  rw [hnv] at e0 hown'
  rw [hkv] at e1
  have HC := hid (clone_any _ _ _ w hown' (hs.now _ (dk_mem h hi)).1)
  have H0 := hid (And.intro h hi)
  have HB := hid h.base_le
  have hfb := (h.fc i f hi).1
  have HS := hid hs
  clear h hs hown hown' hv hv2 hnv hkv hlk hoff hnl hi
  go_enter Tryz.func129, Tryz.ntmps129
  go_wp2_with fail
  refine HH.out.mono ?_
  rintro e w1 ⟨rfl, rfl⟩
  go_wp2_with fail
  refine HC.out.mono ?_
  rintro e w1 ⟨v', rfl, ho1, hb1⟩
  obtain ⟨oa', n', c', rfl⟩ := ho1.sliceOf
  have hfb1 := (hb1.block _ (blk_lt hfb)).trans hfb
  have g1 : w1.cell? ⟨f.fb, 1, none⟩ = some f.kv := by simp [World.cell?, hfb1]
  have gz : w1.frozen? ⟨f.fb, 1, none⟩ = false := by simp [World.frozen?, hfb1]
  have hnew := DK.newSl H0.out.1 H0.out.2 false (fun _ _ => True) (fun _ _ _ _ => trivial) (N := fun _ => True) (.of_below hb1 fun _ h _ => h) (fun _ _ => trivial) (hb1.mono HB.out) (.slice oa' n' c') f.fm.now (fun _ => ho1.any_base HB.out)
    (fun _ q hq => .inr (ho1.ge q hq)) (fun _ _ q hq1 hq2 => by
      have h1 := ho1.ge q hq1
      have h2 := (H0.out.1.ow i f true H0.out.2 trivial).lt q hq2
      omega) ⟨_, _, _, rfl⟩
  have hset := setF_at H0.out.1 H0.out.2 (upF f false (.slice oa' n' c') f.fm.now) (fun g => { g with kept := g.now }) rfl
  rw [hset] at hnew
  have HN := hid hnew
  have HF := hid (forget_any hnew.1 f.fm.name 0 HS.out.log (by show d.log.length ≤ _; have := HS.out.llen; omega))
  clear hnew hset ho1 hb1 hfb1 hfb
  go_wp2_with fail
  refine HF.out.mono ?_
  rintro e w2 ⟨rfl, ⟨lv', hD⟩, hFr⟩
  have HE := hid (And.intro hD (HN.out.2.trans hFr))
  clear hD hFr
  go_wp2
  go_ret
  exact ⟨rfl, ⟨_, _, HE.out.1⟩, HE.out.2⟩
end
section
variable {w w' : World} {base p : Nat} {d : DM} {fs : List FR} {m : Nat} {lv : Value} {x : Int} {V : Nat → Bool → Prop}
def newFR (nm : List UInt8) (b : Nat) : FR := ⟨⟨nm, [], []⟩, b, .slice none 0 0, .slice none 0 0⟩
theorem snoc_at {α : Type} {l : List α} {y z : α} {i : Nat} (h : (l ++ [y])[i]? = some z) : l[i]? = some z ∨ (i = l.length ∧ z = y) := by
  rcases Nat.lt_or_ge i l.length with h1 | h1
  · rw [List.getElem?_append_left h1] at h; exact .inl h
  · rw [List.getElem?_append_right h1] at h
    obtain ⟨k, hk⟩ : ∃ k, i - l.length = k := ⟨_, rfl⟩
    rw [hk] at h
    cases k with
    | zero => simp at h; exact .inr ⟨by omega, h.symm⟩
    | succ k => simp at h
/-- a new file -/
theorem DK.addF (h : DK w base p d fs m lv x (fun _ _ => True)) (nm : List UInt8) (b : Nat) (hb : w.heap.size ≤ b) (hk : Kept w w' (fun q => q ≠ m)) (hnb : w'.heap[b]? = some (.cells #[.slice none 0 0, .slice none 0 0] 68 (0, 0)))
    (hm : PM Tryz.prog 9 w' m (plOf (fs ++ [newFR nm b]))) : DK w' base p { d with files := d.files ++ [⟨nm, [], []⟩] } (fs ++ [newFR nm b]) m lv x (fun _ _ => True) := by
  obtain ⟨o, hmo, ho⟩ := h.mapObj
  have hold := fun {q : Nat} {c : Array Value} {t : TypeId} {fr : Nat × Nat} (hq : w.heap[q]? = some (.cells c t fr)) => (hk.block q (blk_lt hq) (not_cells hmo ho hq)).trans hq
  have hbl := h.base_le
  refine { files := by rw [h.files]; simp [newFR], dk := hold h.dk, hp := h.hp, hm := h.hm, mp := hm, lg := h.lg.kept hk fun q e => by rintro rfl; exact h.lg.notMap hmo ho e, fc := ?_, ow := ?_, af := ?_, as_ := ?_, sh := ?_ }
  · intro i f hi
    rcases snoc_at hi with hi | ⟨_, rfl⟩
    · exact ⟨hold (h.fc i f hi).1, (h.fc i f hi).2⟩
    · exact ⟨hnb, by show base ≤ b; omega⟩
  · intro i f b' hi _
    rcases snoc_at hi with hi | ⟨_, rfl⟩
    · exact (h.ow i f b' hi trivial).kept hk fun q e => by rintro rfl; exact (h.ow i f b' hi trivial).notMap hmo ho e
    · cases b' <;> exact OwnG.nil _ _ _ _
  · intro i j f g hi hj hij
    rcases snoc_at hi with hi | ⟨e1, rfl⟩ <;> rcases snoc_at hj with hj | ⟨e2, rfl⟩
    · exact h.af i j f g hi hj hij
    · have := blk_lt (h.fc i f hi).1; show f.fb ≠ b; omega
    · have := blk_lt (h.fc j g hj).1; show b ≠ g.fb; omega
    · omega
  · intro i j a c f g hi hj _ _ hne k h1 h2
    rcases snoc_at hi with hi | ⟨e1, rfl⟩ <;> rcases snoc_at hj with hj | ⟨e2, rfl⟩
    · exact h.as_ i j a c f g hi hj trivial trivial hne k h1 h2
    · cases c <;> cases h2
    · cases a <;> cases h1
    · cases a <;> cases h1
  · intro i f b' hi
    rcases snoc_at hi with hi | ⟨_, rfl⟩
    · exact h.sh i f b' hi
    · cases b' <;> exact ⟨_, _, _, rfl⟩
set_option maxRecDepth 100000 in
theorem create_new (h : DK w base p d fs m lv x (fun _ _ => True)) (hs : Small d) (hoff : d.off = false) (nm : List UInt8) (hn1 : 1 ≤ nm.length) (hn2 : nm.length ≤ 16) (hno : Mp.look (plOf fs) nm = none) (hfl : fs.length < 32) :
    Calls Tryz.prog 66 #[dp p, nmv nm] w fun e w' => e = .returned (.int .i64 0) ∧
      (∃ b lv', DK w' base p { d with files := d.files ++ [⟨nm, [], []⟩], log := Dk.forget d.log nm 0 } (fs ++ [newFR nm b]) m lv' x (fun _ _ => True)) ∧ Fr base m w w' := by
  have HU := hid (up_any h)
  rw [hoff] at HU
  obtain ⟨c0, c1, c2, c3, c4, c5⟩ := h.cells
  have hml : nm.length ≤ maxLen := by unfold maxLen; omega
  have hlk := h.look nm hml
  rw [hno] at hlk
  have hlk' : (Instr.lookup 61 (.map (some m)) (nmv nm) false).run Tryz.prog w = .ok (.pointer none) w := hlk
  have hmlen := fun ty => h.mp.len (P := Tryz.prog) (t := 61) Tryz.underlying61 ty
  have hpl : (plOf fs).length = fs.length := by simp [plOf]
  rw [hpl] at hmlen
  have t1 : decide ((32 : Int) ≤ (fs.length : Int)) = false := by simp; omega
  have t2 : decide ((16 : Int) < (nm.length : Int)) = false := by simp; omega
  have hlen : ∀ w', (Builtin.len_ #[9] 3 #[nmv nm]).run Tryz.prog w' = .ok (.int .i64 nm.length) w' := fun w' => by first | rfl | go_simp
  have hne : ¬ nm = [] := by rintro rfl; simp at hn1
  have hie : nm.isEmpty = false := by cases nm <;> simp_all
  have HF := hid (forget_any h nm 0 hs.log (by have := hs.llen; omega))
  have H0 := hid h
  have HNO := hid hno
  clear h hs hlk hpl hno c0 c2 c3 c4 c5
  go_enter Tryz.func66, Tryz.ntmps66
  go_wp2_with fail
  refine HU.out.mono ?_
  rintro e w1 ⟨rfl, rfl⟩
  go_wp2_with fail
  refine HF.out.mono ?_
  rintro e w2 ⟨rfl, ⟨lv', hD⟩, hFr⟩
  have hal : Below w2.heap.size w2 (w2.alloc (.cells #[.slice none 0 0, .slice none 0 0] 68)) := (Below.refl _ _).alloc (Nat.le_refl _) _
  have hnb := alloc_new w2 (.cells #[.slice none 0 0, .slice none 0 0] 68)
  have hpm := (hD.below hal).mp
  obtain ⟨w3, hrun, hpm3, hg3, hz3, hf3⟩ := hpm.upd (t := 61) Tryz.underlying9 Tryz.underlying61 nm hml w2.heap.size (by simp [plOf]; unfold maxLen; omega)
  have c12 := hD.cells.2.1
  have c13 : (w2.alloc (.cells #[.slice none 0 0, .slice none 0 0] 68)).cell? ⟨p, 1, none⟩ = some (.map (some m)) := (hal.cell (p := ⟨p, 1, none⟩) hD.plt).trans c12
  have hkm : Kept w2 w3 (fun q => q ≠ m) := (Kept.of_below hal fun _ h _ => h).trans (Kept.grown hg3 fun k hk hN => by cases hk; exact hN rfl)
  have hbm : Below base w2 w3 := (hal.mono hD.base_le).trans ((Below.refl base _).grown hg3 (by simp; have := hD.base_le; omega) (fun k hk => by cases hk; exact hD.hm))
  have hnb3 : w3.heap[w2.heap.size]? = some (.cells #[.slice none 0 0, .slice none 0 0] 68 (0, 0)) := (hg3.block _ (by simp) (fun e => by cases e; have := hD.mp.lt; omega)).trans hnb
  have hpl3 : Mp.upd (plOf fs) nm w2.heap.size = plOf (fs ++ [newFR nm w2.heap.size]) := by
    unfold Mp.upd; rw [HNO.out]; simp [plOf, newFR]
  rw [hpl3] at hpm3
  have hadd := hD.addF nm w2.heap.size (Nat.le_refl _) hkm hnb3 hpm3
  have hfm : Fr base m w2 w3 := by
    refine ⟨hbm, hkm.imp fun q _ hq => ?_⟩
    obtain ⟨o, hmo, ho⟩ := hD.mapObj
    exact hq.1
  have HN := hid (And.intro hadd (hFr.trans hfm))
  clear hal hnb hpm hpm3 hg3 hz3 hf3 hkm hbm hnb3 hpl3 hadd hfm hD hFr
  go_wp2
  go_ret
  exact ⟨rfl, ⟨_, _, HN.out.1⟩, HN.out.2⟩
end
section
variable {w w' : World} {base p : Nat} {d : DM} {fs : List FR} {m : Nat} {lv : Value} {x : Int} {V : Nat → Bool → Prop}
theorem DK.lookAt (h : DK w base p d fs m lv x V) {i : Nat} {f : FR} (hi : fs[i]? = some f) : Mp.look (plOf fs) f.fm.name = some f.fb := by
  rcases h.who f.fm.name with ⟨hl, _⟩ | ⟨j, g, hj, hgn, hl, _⟩
  · rw [look_none, plOf_names] at hl; exact absurd (List.mem_map.2 ⟨f, List.mem_of_getElem? hi, rfl⟩) hl
  · rw [hl]
    have : j = i := nodup_at (by have := h.mp.nodup; rwa [plOf_names] at this) hj hi hgn
    subst this; rw [hj] at hi; cases hi; rfl
def secs (l : List Sec) (a n : Nat) : List UInt8 := ((l.drop a).take n).flatten
theorem secs_succ (l : List Sec) (a j : Nat) (h : a + j < l.length) : secs l a (j + 1) = secs l a j ++ l.getD (a + j) [] := by
  unfold secs
  rw [List.take_add_one, List.getElem?_drop, List.getElem?_eq_getElem h, List.getD_eq_getElem?_getD, List.getElem?_eq_getElem h]
  simp
theorem secs_le (l : List Sec) (h : SecsOk l) (a j : Nat) : (secs l a j).length ≤ j * 16 := by
  unfold secs
  have : ∀ m : List Sec, (∀ s ∈ m, s.length = 16) → m.flatten.length = m.length * 16 := by
    intro m; induction m with
    | nil => simp
    | cons s m ih => intro hm; rw [List.flatten_cons, List.length_append, hm s (by simp), ih fun x hx => hm x (by simp [hx]), List.length_cons]; omega
  rw [this _ fun s hs => h.2 s (List.mem_of_mem_drop (List.mem_of_mem_take hs))]
  simp; omega
set_option maxRecDepth 100000 in
set_option maxHeartbeats 1000000 in
theorem read_any (h : DK w base p d fs m lv x (fun _ _ => True)) (hs : Small d) (hoff : d.off = false) {i : Nat} {f : FR} (hi : fs[i]? = some f) (hnl : f.fm.name.length ≤ maxLen) (a n : Nat) (han : a + n ≤ f.fm.now.length) :
    Calls Tryz.prog 26 #[dp p, nmv f.fm.name, .int .i64 a, .int .i64 n] w fun e w' => ∃ v, e = .returned (.tuple #[v, .int .i64 0]) ∧ OwnB w' w.heap.size 5 v (secs f.fm.now a n) ∧ Below w.heap.size w w' := by
  have HH := hid (has_yes h f.fm.name hnl hoff (h.lookAt hi))
  obtain ⟨e0, e1, ez⟩ := h.fcells hi
  have hown := h.ow i f true hi trivial
  obtain ⟨oa, nn, c, hv⟩ := h.sh i f true hi
  have hnv : f.nv = .slice oa nn c := hv
  have hown' : OwnG w base 131 16 f.nv (f.fm.now.map srow) := hown
  have hok := hs.now _ (dk_mem h hi)
  have hlen := fun w' => secs_len hown' w' (ty := 3)
  rw [hnv] at e0 hown' hlen
  obtain ⟨v', hsl, hcut⟩ := hown'.slG.part (P := Tryz.prog) Tryz.underlying66 size131 a (a + n) (by omega) (by simpa using han)
  have hcut' : ∀ w' (k k' : IntKind), (Instr.slice 66 (.slice oa nn c) (some (.int k (a : Int))) (some (.int k' ((a : Int) + (n : Int)))) none).run Tryz.prog w' = .ok v' w' := fun w' k k' => by
    have := hcut w' k k'
    rwa [show ((a + n : Nat) : Int) = (a : Int) + n by omega] at this
  have hlen2 := fun w' => hsl.len (P := Tryz.prog) (ty := 3) Tryz.underlying66 w'
  have hcl : (((f.fm.now.map srow).take (a + n)).drop a).length = n := by simp; omega
  rw [hcl] at hlen2
  have hwr : IntKind.i64.wrap ((a : Int) + (n : Int)) = (a : Int) + n := IntWalk.i64_in _ (by have := hok.1; omega)
  have hwr2 : IntKind.i64.wrap ((f.fm.now.length : Int) - (a : Int)) = (f.fm.now.length : Int) - a := IntWalk.i64_in _ (by have := hok.1; omega)
  have t1 : decide ((f.fm.now.length : Int) < (a : Int)) = false := by simp; omega
  have t2 : decide ((f.fm.now.length : Int) - (a : Int) < (n : Int)) = false := by simp; omega
  obtain ⟨va, vn, vc, hvs⟩ : ∃ oa n c, v' = .slice oa n c := by obtain ⟨oa, c, rfl, _⟩ := hsl; exact ⟨_, _, _, rfl⟩
  subst hvs
  have hrow : ∀ j, j < n → (((f.fm.now.map srow).take (a + n)).drop a).getD j [] = srow (f.fm.now.getD (a + j) []) := fun j hj => by
    rw [getD_cut _ _ _ _ _ (by omega)]
    simp [List.getD_eq_getElem?_getD, List.getElem?_map, List.getElem?_eq_getElem (by omega : a + j < f.fm.now.length)]
  have HSL := hid (And.intro hsl (And.intro hcl hrow))
  obtain ⟨L, hL⟩ : ∃ L, L = f.fm.now := ⟨_, rfl⟩
  rw [← hL] at han hok hlen hwr2 t1 t2 HSL
  have n1 : ¬ (L.length < a) := by omega
  have n2 : ¬ ((L.length : Int) - (a : Int) < (n : Int)) := by omega
  rw [← hL]
  have HOK := hid (And.intro han hok)
  have HB := hid h.base_le
  clear hsl hcl hrow hcut hL h hs hown hown' hnv hv hi e1 ez han hok
  go_enter Tryz.func26, Tryz.ntmps26
  go_wp2_with fail
  refine HH.out.mono ?_
  rintro e w1 ⟨rfl, rfl⟩
  go_wp2_with fail
  go_loopw [12, 56] (fun s12 s56 wr => ∃ (v : Value) (j : Nat), s12 = v ∧ s56 = .int .i64 j ∧ j ≤ n ∧ OwnB wr w.heap.size 5 v (secs L a j) ∧ Below w.heap.size w wr) (fun _ s56 _ => n - (intOf s56).toNat)
  case atStart => exact ⟨_, 0, rfl, rfl, by omega, OwnB.nil _ _ _, Below.refl _ _⟩
  case round =>
    obtain ⟨v, j, rfl, rfl, hj, ho, hbl⟩ := hrel
    by_cases hjn : j < n
    · obtain ⟨b, o, hb, hia, hrow⟩ := (HSL.out.1.below hbl (Nat.le_refl _)).addr (P := Tryz.prog) Tryz.underlying66 size131 j (by rw [HSL.out.2.1]; exact hjn)
      rw [HSL.out.2.2 j hjn] at hrow
      have hse : (L.getD (a + j) []).length = 16 := by
        have := HOK.out.1
        rw [List.getD_eq_getElem?_getD, List.getElem?_eq_getElem (by omega)]; exact HOK.out.2.2 _ (List.getElem_mem _)
      have HSU := hid (secs_succ L a j (by have := HOK.out.1; omega))
      have hsl := secs_le L HOK.out.2 a j
      have hL6 := HOK.out.2.1
      have hnL := HOK.out.1
      obtain ⟨sc, hsc⟩ : ∃ s, s = L.getD (a + j) [] := ⟨_, rfl⟩
      rw [← hsc] at hrow hse HSU
      have hrg : wr.rangeAt b o (srow sc) := hrow
      have hsz : (Tryz.prog.info? 131).map (·.size) = some (srow sc).length := by rw [srow_len, hse]; kernel_rfl
      have hsZ : (srow sc).length = zsec.cells.size := by rw [srow_len, hse]; rfl
      have hone := srow_one sc
      have hal : Below wr.heap.size wr (wr.alloc (.cells (srow sc).toArray 131)) := (Below.refl _ _).alloc (Nat.le_refl _) _
      have hslb : SlB (wr.alloc (.cells (srow sc).toArray 131)) (wr.heap.size + 1) (.slice (some ⟨wr.heap.size, 0, none⟩) 16 16) sc := by
        have := sl_lit wr sc 131 (by rw [hse]; decide)
        rw [hse] at this
        exact this
      have hoA := ho.below hal fun k hk => ho.lt k hk
      have hlA : (secs L a j).length + sc.length ≤ 140737488355328 := by omega
      have hBA : w.heap.size ≤ (wr.alloc (.cells (srow sc).toArray 131)).heap.size := by have := hbl.size; simp; omega
      have HBL := hid (And.intro hbl hal)
      obtain ⟨X, hX⟩ : ∃ X, X = srow sc := ⟨_, rfl⟩
      rw [← hX] at hrg hsz hsZ hone hslb hoA hBA HBL
      obtain ⟨T, hT⟩ : ∃ T, T = secs L a j := ⟨_, rfl⟩
      rw [← hT] at hoA HSU hlA hsl
      clear hrow hsc hX hT ho hbl hal
      go_wp2_with (first
        | (refine wpList_load_mid rfl 131 _ rfl b o rfl X _ hrg Tryz.underlying131 rfl hsz ?_)
        | (refine wpList_store_new wr rfl 131 _ _ rfl _ 131 X rfl rfl hsZ hsz hone ?_)
        | (at_builtin; refine append_sl _ rfl _ _ 26 5 rfl Tryz.underlying26 Tryz.info5 w.heap.size _ T rfl hoA _ sc _ rfl hslb hlA hBA ?_; intro v' w1 ho1 hb1))
      go_roundw
      case rel =>
        refine ⟨v', j + 1, rfl, by go_num, by omega, by rw [HSU.out]; exact ho1, ?_⟩
        exact HBL.out.1.trans ((HBL.out.2.mono HBL.out.1.size).trans hb1)
      case measure => simp [intOf]; omega
    · obtain rfl : j = n := by omega
      have HE := hid (And.intro ho hbl)
      clear ho hbl
      go_wp2_with fail
      go_ret2
      exact ⟨_, rfl, HE.out.1, HE.out.2⟩
end
end Go.Proofs.YtmcllcepoiakeaaGreat.Dx
