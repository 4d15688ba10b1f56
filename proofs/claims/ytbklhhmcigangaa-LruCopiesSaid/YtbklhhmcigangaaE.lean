import Derived.Test.YtbklhhmcigangaaD
namespace Go.Proofs.Ytbklhhmcigangaa
open Go.RowKit Go.Mx Go.Lr
set_option linter.unusedVariables false
set_option linter.unusedSimpArgs false
theorem setE_set (g : Pg → Pg) : ∀ (fs : List PR) (i : Nat) (f f' : PR), (fs.map (·.en.k)).Nodup → fs[i]? = some f → f'.en = { f.en with pg := g f.en.pg } → (fs.set i f').map (·.en) = setE (fs.map (·.en)) f.en.k g
  | [], i, f, f', _, hi, _ => by simp at hi
  | h :: l, 0, f, f', hn, hi, hf => by
    simp at hi; subst hi
    rw [List.map_cons, List.nodup_cons] at hn
    unfold setE
    rw [List.set_cons_zero, List.map_cons, List.map_cons, List.map_cons, hf]
    simp only [beq_self_eq_true, if_true]
    congr 1
    rw [List.map_map]
    apply List.map_congr_left
    intro y hy
    have : (y.en.k == h.en.k) = false := by
      rw [beq_eq_false_iff_ne]; intro e; exact hn.1 (e ▸ List.mem_map.2 ⟨y, hy, rfl⟩)
    simp [Function.comp, this]
  | h :: l, i + 1, f, f', hn, hi, hf => by
    rw [List.map_cons, List.nodup_cons] at hn
    have hfl : f ∈ l := by simp at hi; exact List.mem_of_getElem? hi
    have ih := setE_set g l i f f' hn.2 (by simpa using hi) hf
    have : (h.en.k == f.en.k) = false := by
      rw [beq_eq_false_iff_ne]; intro e; exact hn.1 (e ▸ List.mem_map.2 ⟨f, hfl, rfl⟩)
    unfold setE at ih ⊢
    rw [List.set_cons_succ, List.map_cons, List.map_cons, List.map_cons, ih]
    simp [this]
theorem slB_notMap {w w' : World} {B q : Nat} {v : Value} {bs : List UInt8} (h : SlB w B v bs) (hB : B ≤ w.heap.size) (hk : Kept w w' (fun k => k ≠ q)) (hm : ∃ es c, w.heap[q]? = some (.map es c)) : SlB w' B v bs := by
  obtain ⟨oa, cap, rfl, h1, h2, h3⟩ := h
  refine ⟨oa, cap, rfl, h1, h2, fun hn => ?_⟩
  obtain ⟨bb, bo, rfl, hl, hr⟩ := h3 hn
  refine ⟨bb, bo, rfl, hl, fun i hi => ?_⟩
  have hc := hr i hi
  have hne : bb ≠ q := by
    rintro rfl
    obtain ⟨es, c, hq⟩ := hm
    simp [World.cell?, hq] at hc
  rw [hk.cell (by omega) hne]; exact hc
section
variable {w w' : World} {base p m : Nat} {c : CM} {fs : List PR} {V : Nat → Prop}
theorem CK.nodup (h : CK w base p m c fs V) : (fs.map (·.en.k)).Nodup := by
  have := h.mp.nodup; rwa [plOf_names] at this
theorem CK.lenAll (h : CK w base p m c fs V) : c.all.length = fs.length := by rw [h.all, List.length_map]
/-- the end of a Put where there is room -/
def PutP (base p m : Nat) (c : CM) (fs : List PR) (w : World) (k : Int) (b : List UInt8) (dirty : Bool) (w' : World) : Prop :=
  ∃ fs', CK w' base p m (Lr.lay c k b dirty) fs' All ∧ Stp base p m w fs w' fs'
theorem PutP.below {k : Int} {b : List UInt8} {dirty : Bool} {w2 : World} (h : PutP base p m c fs w k b dirty w') (hb : Below w'.heap.size w' w2) : PutP base p m c fs w k b dirty w2 := by
  obtain ⟨fs', hc, hs⟩ := h
  exact ⟨fs', hc.below hb, hs.trans (Stp.of_below hb hc.base_le)⟩
set_option maxRecDepth 100000 in
set_option maxHeartbeats 1000000 in
theorem put_old (h : CK w base p m c fs All) {i : Nat} {f : PR} (hi : fs[i]? = some f) (hk : isI f.en.k) (v : Value) (b : List UInt8) (B : Nat) (hb : SlB w B v b) (hB : B ≤ w.heap.size) (hl : b.length ≤ 1000000) (dirty : Bool) (hu : c.uses ≤ 1000000000) (hroom : fs.length ≤ c.room) :
    Calls Try.prog 13 #[cp p, .int .i64 f.en.k, v, .bool dirty] w fun e w' => e = .returned (.slice none 0 0) ∧ PutP base p m c fs w f.en.k b dirty w' := by
  have hlay : (fun F : PR => F.en = { f.en with pg := { f.en.pg with b := b, dirty := f.en.pg.dirty || dirty, used := c.uses + 1 } }) = fun F => F.en = { f.en with pg := (fun q : Pg => { q with b := b, dirty := q.dirty || dirty, used := c.uses + 1 }) f.en.pg } := rfl
  have hfind : Lr.find c.all f.en.k = some f.en.pg := by
    rcases h.who f.en.k with ⟨hl, _⟩ | ⟨j, g, hj, hgn, hl, hfd⟩
    · rw [h.lookAt hi] at hl; cases hl
    · rw [hfd]
      have hij : j = i := by
        have h1 : (fs.map (·.en.k))[j]? = some g.en.k := by rw [List.getElem?_map, hj]; rfl
        have h2 : (fs.map (·.en.k))[i]? = some f.en.k := by rw [List.getElem?_map, hi]; rfl
        rw [hgn] at h1
        have l1 := (List.getElem?_eq_some_iff.1 h1)
        have l2 := (List.getElem?_eq_some_iff.1 h2)
        have key := List.pairwise_iff_getElem.1 h.nodup
        rcases Nat.lt_trichotomy j i with h3 | h3 | h3
        · exact absurd (l1.2.trans l2.2.symm) (key j i l1.1 l2.1 h3)
        · exact h3
        · exact absurd (l2.2.trans l1.2.symm) (key i j l2.1 l1.1 h3)
      subst hij; rw [hi] at hj; cases hj; rfl
  have HFIN : Hid (∀ w', PutAt base p m c fs w i f b dirty w' → PutP base p m c fs w f.en.k b dirty w') := hid fun w' ⟨bv, hc, hs⟩ => by
    refine ⟨_, ?_, hs⟩
    unfold Lr.lay
    rw [hfind]
    simp only
    rw [h.all, ← setE_set _ fs i f (putPR f b bv dirty (c.uses + 1)) h.nodup hi rfl]
    exact hc
  obtain ⟨va, vn, vc, rfl⟩ := slB_shape hb
  have HCL := hid (clone_b (.slice va vn vc) b B w hb hB hl)
  obtain ⟨c0, c1, c2, cz⟩ := h.cells
  have hlk := h.look f.en.k hk
  rw [h.lookAt hi] at hlk
  have hlk' : (Instr.lookup 56 (.map (some m)) (.int .i64 f.en.k) false).run Try.prog w = .ok (.pointer (some ⟨f.fb, 0, none⟩)) w := hlk
  have H0 := hid (And.intro h hi)
  have hset : ∀ (bv : Value) (n : Nat), (fs.set i (putPR f b bv dirty n)).length = fs.length := fun _ _ => by simp
  obtain ⟨kk, hkk⟩ : ∃ kk, kk = f.en.k := ⟨_, rfl⟩
  obtain ⟨fb, hfb⟩ : ∃ x, x = f.fb := ⟨_, rfl⟩
  rw [← hkk] at hlk' HFIN ⊢
  rw [← hfb] at hlk'
  have HE := hid (And.intro hkk hfb)
  clear h hb hlk hkk hfb hfind hlay c0 c2
  go_enter Try.func13, Try.ntmps13
  go_wp2_with fail
  refine HCL.out.mono ?_
  rintro e w1 ⟨v1, rfl, ho1, hb1⟩
  obtain ⟨xa, xn, xc, rfl⟩ := slB_shape ho1.slB
  have hput := H0.out.1.putAt H0.out.2 hb1 ho1 dirty hu
  rw [← HE.out.2] at hput
  obtain ⟨d0, d1, d2, dz, dz2, fs3, hg3, hcall⟩ := hput
  obtain ⟨dd, hdd⟩ : ∃ d, d = f.en.pg.dirty := ⟨_, rfl⟩
  rw [← hdd] at d1 d2 hcall
  have HC : Hid (Calls Try.prog 28 #[cp p, cp fb] ((w1.setCell ⟨fb, 0, none⟩ (.slice xa xn xc)).setCell ⟨fb, 1, none⟩ (.bool (dd || dirty))) fun e w' => e = .returned (.tuple #[]) ∧ PutAt base p m c fs w i f b dirty w') := hid hcall
  clear hcall hdd ho1 hb1 c1 hlk' cz hg3
  cases dd
  · rw [Bool.false_or] at HC
    go_wp2_with fail
    refine HC.out.mono ?_
    rintro e w2 ⟨rfl, hP⟩
    have HP := hid (HFIN.out w2 hP)
    obtain ⟨bv, hc, hs⟩ := hP
    obtain ⟨c0, c1, c2, cz⟩ := hc.cells
    have hlen := fun n => (hc.below (below_drewN (Below.refl w2.heap.size w2) n)).len 3
    rw [hset] at hlen
    have tt : decide ((c.room : Int) < (fs.length : Int)) = false := by simp; omega
    have tt' : ¬ c.room < fs.length := by omega
    simp only at c0
    clear hc hs d0 d1 d2 dz dz2 c2 cz HC
    go_wp2_with fail
    refine wp_loop_once ?_
    go_wp2_with fail
    go_quiet (fail)
    go_wp2_with fail
    go_ret
    exact ⟨rfl, HP.out.below (below_drewN (Below.refl _ _) _)⟩
  · rw [Bool.true_or] at HC
    go_wp2_with fail
    refine HC.out.mono ?_
    rintro e w2 ⟨rfl, hP⟩
    have HP := hid (HFIN.out w2 hP)
    obtain ⟨bv, hc, hs⟩ := hP
    obtain ⟨c0, c1, c2, cz⟩ := hc.cells
    have hlen := fun n => (hc.below (below_drewN (Below.refl w2.heap.size w2) n)).len 3
    rw [hset] at hlen
    have tt : decide ((c.room : Int) < (fs.length : Int)) = false := by simp; omega
    have tt' : ¬ c.room < fs.length := by omega
    simp only at c0
    clear hc hs d0 d1 d2 dz dz2 c2 cz HC
    go_wp2_with fail
    refine wp_loop_once ?_
    go_wp2_with fail
    go_quiet (fail)
    go_wp2_with fail
    go_ret
    exact ⟨rfl, HP.out.below (below_drewN (Below.refl _ _) _)⟩
def newPR (k : Int) (b : Nat) : PR := ⟨⟨k, ⟨[], false, 0, []⟩⟩, b, .slice none 0 0, .slice none 0 0⟩
set_option maxRecDepth 100000 in
set_option maxHeartbeats 1000000 in
theorem put_new (h : CK w base p m c fs All) (k : Int) (hk : isI k) (hno : k ∉ c.all.map (·.k)) (v : Value) (b : List UInt8) (B : Nat) (hb : SlB w B v b) (hB : B ≤ w.heap.size) (hl : b.length ≤ 1000000) (dirty : Bool) (hu : c.uses ≤ 1000000000) (hroom : fs.length + 1 ≤ c.room) (hr2 : c.room ≤ 1000000) :
    Calls Try.prog 13 #[cp p, .int .i64 k, v, .bool dirty] w fun e w' => e = .returned (.slice none 0 0) ∧ PutP base p m c fs w k b dirty w' := by
  have hfind : Lr.find c.all k = none := Lr.find_none.2 hno
  have hlkn : Mx.look (plOf fs) k = none := by
    rcases h.who k with ⟨hl, _⟩ | ⟨j, g, hj, hgn, hl, hfd⟩
    · exact hl
    · rw [hfind] at hfd; cases hfd
  obtain ⟨c0, c1, c2, cz⟩ := h.cells
  have hlk := h.look k hk
  rw [hlkn] at hlk
  have hlk' : (Instr.lookup 56 (.map (some m)) (.int .i64 k) false).run Try.prog w = .ok (.pointer none) w := hlk
  have hal : Below w.heap.size w (w.alloc (.cells #[.slice none 0 0, .bool false, .int .i64 0, .slice none 0 0] 66)) := (Below.refl _ _).alloc (Nat.le_refl _) _
  have hnb := alloc_new w (.cells #[.slice none 0 0, .bool false, .int .i64 0, .slice none 0 0] 66)
  obtain ⟨w3, hrun, hpm3, hg3, hz3, hf3⟩ := (h.below hal).mp.upd (t := 56) Try.underlying3 Try.underlying56 k hk.wf w.heap.size (by simp [plOf]; unfold maxLen; omega)
  have c13 : (w.alloc (.cells #[.slice none 0 0, .bool false, .int .i64 0, .slice none 0 0] 66)).cell? ⟨p, 1, none⟩ = some (.map (some m)) := (hal.cell (p := ⟨p, 1, none⟩) h.plt).trans c1
  have hkm : Kept w w3 (fun q => q ≠ m) := (Kept.of_below hal fun _ h _ => h).trans (Kept.grown hg3 fun k hk hN => by cases hk; exact hN rfl)
  have hbm : Below base w w3 := (hal.mono h.base_le).trans ((Below.refl base _).grown hg3 (by simp; have := h.base_le; omega) (fun k hk => by cases hk; exact h.hm))
  have hnb3 : w3.heap[w.heap.size]? = some (.cells #[.slice none 0 0, .bool false, .int .i64 0, .slice none 0 0] 66 (0, 0)) := (hg3.block _ (by simp) (fun e => by cases e; have := h.mp.lt; omega)).trans hnb
  have hpl3 : Mx.upd (plOf fs) k w.heap.size = plOf (fs ++ [newPR k w.heap.size]) := by
    unfold Mx.upd; rw [hlkn]; simp [plOf, newPR]
  rw [hpl3] at hpm3
  obtain ⟨hadd, hst⟩ := h.addPage k w.heap.size (Nat.le_refl _) hkm hbm hnb3 hpm3
  have hadd := hadd.weaken (V' := All) fun i _ => .inl trivial
  have hi : (fs ++ [newPR k w.heap.size])[fs.length]? = some (newPR k w.heap.size) := by rw [List.getElem?_append_right (Nat.le_refl _)]; simp
  have HFIN : Hid (∀ w', PutAt base p m { c with all := c.all ++ [⟨k, ⟨[], false, 0, []⟩⟩] } (fs ++ [newPR k w.heap.size]) w3 fs.length (newPR k w.heap.size) b dirty w' → PutP base p m c fs w k b dirty w') := hid fun w' ⟨bv, hc, hs⟩ => by
    refine ⟨_, ?_, hst.trans hs⟩
    unfold Lr.lay
    rw [hfind]
    simp only
    have e1 : ((fs ++ [newPR k w.heap.size]).set fs.length (putPR (newPR k w.heap.size) b bv dirty (c.uses + 1))).map (·.en) = c.all ++ [⟨k, ⟨b, dirty, c.uses + 1, []⟩⟩] := by
      rw [List.set_append_right _ _ (Nat.le_refl _), h.all]
      simp [putPR, newPR]
    rw [← e1]
    exact hc
  obtain ⟨va, vn, vc, rfl⟩ := slB_shape hb
  have hb3 : SlB w3 w3.heap.size (.slice va vn vc) b := (slB_notMap hb hB hkm h.mp.isMap).mono (by have := hkm.size; omega)
  have HCL := hid (clone_b (.slice va vn vc) b w3.heap.size w3 hb3 (Nat.le_refl _) hl)
  have H0 := hid (And.intro hadd hi)
  have hset : ∀ (bv : Value) (n : Nat), ((fs ++ [newPR k w.heap.size]).set fs.length (putPR (newPR k w.heap.size) b bv dirty n)).length = fs.length + 1 := fun _ _ => by simp
  have c33 := hadd.cells.2.1
  clear h hb hlk hlkn hfind c0 c2 hal hnb hpm3 hg3 hz3 hf3 hkm hbm hnb3 hpl3 hadd hst hb3 hno cz
  go_enter Try.func13, Try.ntmps13
  go_wp2_with fail
  refine HCL.out.mono ?_
  rintro e w1 ⟨v1, rfl, ho1, hb1⟩
  obtain ⟨xa, xn, xc, rfl⟩ := slB_shape ho1.slB
  have hput := H0.out.1.putAt H0.out.2 hb1 ho1 dirty hu
  obtain ⟨d0, d1, d2, dz, dz2, fs3, hg3, hcall⟩ := hput
  have HC : Hid (Calls Try.prog 28 #[cp p, cp w.heap.size] ((w1.setCell ⟨w.heap.size, 0, none⟩ (.slice xa xn xc)).setCell ⟨w.heap.size, 1, none⟩ (.bool dirty)) fun e w' => e = .returned (.tuple #[]) ∧ PutAt base p m { c with all := c.all ++ [⟨k, ⟨[], false, 0, []⟩⟩] } (fs ++ [newPR k w.heap.size]) w3 fs.length (newPR k w.heap.size) b dirty w') := hid hcall
  have d0' : w1.cell? ⟨w.heap.size, 0, none⟩ = some (.slice none 0 0) := d0
  have d1' : w1.cell? ⟨w.heap.size, 1, none⟩ = some (.bool false) := d1
  have d2' : (w1.setCell ⟨w.heap.size, 0, none⟩ (.slice xa xn xc)).cell? ⟨w.heap.size, 1, none⟩ = some (.bool false) := d2
  have dz' : ∀ j, w1.frozen? ⟨w.heap.size, j, none⟩ = false := dz
  have dz2' : ∀ j, (w1.setCell ⟨w.heap.size, 0, none⟩ (.slice xa xn xc)).frozen? ⟨w.heap.size, j, none⟩ = false := dz2
  clear hcall ho1 hb1 c1 c13 hlk' hg3 d0 d1 d2 dz dz2 hrun
  go_wp2_with fail
  refine HC.out.mono ?_
  rintro e w2 ⟨rfl, hP⟩
  have HP := hid (HFIN.out w2 hP)
  obtain ⟨bv, hc, hs⟩ := hP
  obtain ⟨c0, c1, c2, cz⟩ := hc.cells
  have hlen := fun n => (hc.below (below_drewN (Below.refl w2.heap.size w2) n)).len 3
  rw [hset] at hlen
  have hlen' : ∀ n, (Builtin.len_ #[56] 3 #[.map (some m)]).run Try.prog (w2.drewN n) = .ok (.int .i64 ((fs.length : Int) + 1)) (w2.drewN n) := hlen
  have tt : decide ((c.room : Int) < (fs.length : Int) + 1) = false := by simp; omega
  have tt' : ¬ c.room < fs.length + 1 := by omega
  have tt2 : ¬ ((c.room : Int) < (fs.length : Int) + 1) := by omega
  simp only at c0
  clear hc hs d0' d1' d2' dz' dz2' c2 cz HC hlen c33
  go_wp2_with fail
  refine wp_loop_once ?_
  go_wp2_with fail
  go_quiet (fail)
  go_wp2_with fail
  go_ret
  exact ⟨rfl, HP.out.below (below_drewN (Below.refl _ _) _)⟩
end
end Go.Proofs.Ytbklhhmcigangaa
