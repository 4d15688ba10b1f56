import Derived.Test.YtmcllcepoiakeaaGreatUD
import Derived.Test.YtmcllcepoiakeaaGreatTE
set_option linter.unusedSimpArgs false
set_option linter.unusedVariables false
namespace Go.Proofs.YtmcllcepoiakeaaGreat.Ux
open Go.RowKit Go.Mx Go.Mi Go.Lr
theorem setE_set (g : Pg → Pg) : ∀ (fs : List PR) (i : Nat) (f f' : PR), (fs.map (·.en.k)).Nodup → fs[i]? = some f → f'.en = { f.en with pg := g f.en.pg } → (fs.set i f').map (·.en) = setE (fs.map (·.en)) f.en.k g
  | [], i, f, f', _, hi, _ => by simp at hi
  | h :: l, 0, f, f', hn, hi, hf => by
    simp at hi; subst hi
    rw [List.map_cons, List.nodup_cons] at hn
    unfold setE
    rw [List.set_cons_zero, List.map_cons, List.map_cons, List.map_cons, hf]
    simp only [beq_self_eq_true, if_true]
    congr 1
    rw [List.map_map]
    apply List.map_congr_left
    intro y hy
    have : (y.en.k == h.en.k) = false := by
      rw [beq_eq_false_iff_ne]; intro e; exact hn.1 (e ▸ List.mem_map.2 ⟨y, hy, rfl⟩)
    simp [Function.comp, this]
  | h :: l, i + 1, f, f', hn, hi, hf => by
    rw [List.map_cons, List.nodup_cons] at hn
    have hfl : f ∈ l := by simp at hi; exact List.mem_of_getElem? hi
    have ih := setE_set g l i f f' hn.2 (by simpa using hi) hf
    have : (h.en.k == f.en.k) = false := by
      rw [beq_eq_false_iff_ne]; intro e; exact hn.1 (e ▸ List.mem_map.2 ⟨f, hfl, rfl⟩)
    unfold setE at ih ⊢
    rw [List.set_cons_succ, List.map_cons, List.map_cons, List.map_cons, ih]
    simp [this]
theorem slB_notMap {w w' : World} {B q : Nat} {v : Value} {bs : List UInt8} (h : SlB w B v bs) (hB : B ≤ w.heap.size) (hk : Kept w w' (fun k => k ≠ q)) (hm : ∃ es c, w.heap[q]? = some (.map es c)) : SlB w' B v bs := by
  obtain ⟨oa, cap, rfl, h1, h2, h3⟩ := h
  refine ⟨oa, cap, rfl, h1, h2, fun hn => ?_⟩
  obtain ⟨bb, bo, rfl, hl, hr⟩ := h3 hn
  refine ⟨bb, bo, rfl, hl, fun i hi => ?_⟩
  have hc := hr i hi
  have hne : bb ≠ q := by
    rintro rfl
    obtain ⟨es, c, hq⟩ := hm
    simp [World.cell?, hq] at hc
  rw [hk.cell (by omega) hne]; exact hc
section
variable {w w' : World} {base p m : Nat} {c : CM} {fs : List PR} {V : Nat → Prop}
theorem CK.nodup (h : CK w base p m c fs V) : (fs.map (·.en.k)).Nodup := by
  have := h.mp.nodup; rwa [plOf_names] at this
theorem CK.lenAll (h : CK w base p m c fs V) : c.all.length = fs.length := by rw [h.all, List.length_map]
/-- the end of a Put where there is room -/
def PutP (base p m : Nat) (c : CM) (fs : List PR) (w : World) (k : Int) (b : List UInt8) (dirty : Bool) (w' : World) : Prop :=
  ∃ fs', CK w' base p m (Lr.lay c k b dirty) fs' All ∧ Stp base p m w fs w' fs'
theorem PutP.below {k : Int} {b : List UInt8} {dirty : Bool} {w2 : World} (h : PutP base p m c fs w k b dirty w') (hb : Below w'.heap.size w' w2) : PutP base p m c fs w k b dirty w2 := by
  obtain ⟨fs', hc, hs⟩ := h
  exact ⟨fs', hc.below hb, hs.trans (Stp.of_below hb hc.base_le)⟩
set_option maxRecDepth 100000 in
set_option maxHeartbeats 1000000 in
theorem put_old (h : CK w base p m c fs All) {i : Nat} {f : PR} (hi : fs[i]? = some f) (hk : isI f.en.k) (v : Value) (b : List UInt8) (B : Nat) (hb : SlB w B v b) (hB : B ≤ w.heap.size) (hl : b.length ≤ 1000000) (dirty : Bool) (hu : c.uses ≤ 1000000000) (hroom : fs.length ≤ c.room) :
    Calls Tryz.prog 222 #[cp p, .int .i64 f.en.k, v, .bool dirty] w fun e w' => e = .returned (.slice none 0 0) ∧ PutP base p m c fs w f.en.k b dirty w' := by
  have hlay : (fun F : PR => F.en = { f.en with pg := { f.en.pg with b := b, dirty := f.en.pg.dirty || dirty, used := c.uses + 1 } }) = fun F => F.en = { f.en with pg := (fun q : Pg => { q with b := b, dirty := q.dirty || dirty, used := c.uses + 1 }) f.en.pg } := rfl
  have hfind : Lr.find c.all f.en.k = some f.en.pg := by
    rcases h.who f.en.k with ⟨hl, _⟩ | ⟨j, g, hj, hgn, hl, hfd⟩
    · rw [h.lookAt hi] at hl; cases hl
    · rw [hfd]
      have hij : j = i := by
        have h1 : (fs.map (·.en.k))[j]? = some g.en.k := by rw [List.getElem?_map, hj]; rfl
        have h2 : (fs.map (·.en.k))[i]? = some f.en.k := by rw [List.getElem?_map, hi]; rfl
        rw [hgn] at h1
        have l1 := (List.getElem?_eq_some_iff.1 h1)
        have l2 := (List.getElem?_eq_some_iff.1 h2)
        have key := List.pairwise_iff_getElem.1 h.nodup
        rcases Nat.lt_trichotomy j i with h3 | h3 | h3
        · exact absurd (l1.2.trans l2.2.symm) (key j i l1.1 l2.1 h3)
        · exact h3
        · exact absurd (l2.2.trans l1.2.symm) (key i j l2.1 l1.1 h3)
      subst hij; rw [hi] at hj; cases hj; rfl
  have HFIN : Hid (∀ w', PutAt base p m c fs w i f b dirty w' → PutP base p m c fs w f.en.k b dirty w') := hid fun w' ⟨bv, hc, hs⟩ => by
    refine ⟨_, ?_, hs⟩
    unfold Lr.lay
    rw [hfind]
    simp only
    rw [h.all, ← setE_set _ fs i f (putPR f b bv dirty (c.uses + 1)) h.nodup hi rfl]
    exact hc
  obtain ⟨va, vn, vc, rfl⟩ := slB_shape hb
  have HCL := hid (clone_b (.slice va vn vc) b B w hb hB hl)
  obtain ⟨c0, c1, c2, cz⟩ := h.cells
  have hlk := h.look f.en.k hk
  rw [h.lookAt hi] at hlk
  have hlk' : (Instr.lookup 305 (.map (some m)) (.int .i64 f.en.k) false).run Tryz.prog w = .ok (.pointer (some ⟨f.fb, 0, none⟩)) w := hlk
  have H0 := hid (And.intro h hi)
  have hset : ∀ (bv : Value) (n : Nat), (fs.set i (putPR f b bv dirty n)).length = fs.length := fun _ _ => by simp
  obtain ⟨kk, hkk⟩ : ∃ kk, kk = f.en.k := ⟨_, rfl⟩
  obtain ⟨fb, hfb⟩ : ∃ x, x = f.fb := ⟨_, rfl⟩
  rw [← hkk] at hlk' HFIN ⊢
  rw [← hfb] at hlk'
  have HE := hid (And.intro hkk hfb)
  clear h hb hlk hkk hfb hfind hlay c0 c2
  go_enter Tryz.func222, Tryz.ntmps222
  go_wp2_with fail
  refine HCL.out.mono ?_
  rintro e w1 ⟨v1, rfl, ho1, hb1⟩
  obtain ⟨xa, xn, xc, rfl⟩ := slB_shape ho1.slB
  have hput := H0.out.1.putAt H0.out.2 hb1 ho1 dirty hu
  rw [← HE.out.2] at hput
  obtain ⟨d0, d1, d2, dz, dz2, fs3, hg3, hcall⟩ := hput
  obtain ⟨dd, hdd⟩ : ∃ d, d = f.en.pg.dirty := ⟨_, rfl⟩
  rw [← hdd] at d1 d2 hcall
  have HC : Hid (Calls Tryz.prog 256 #[cp p, cp fb] ((w1.setCell ⟨fb, 0, none⟩ (.slice xa xn xc)).setCell ⟨fb, 1, none⟩ (.bool (dd || dirty))) fun e w' => e = .returned (.tuple #[]) ∧ PutAt base p m c fs w i f b dirty w') := hid hcall
  clear hcall hdd ho1 hb1 c1 hlk' cz hg3
  cases dd
  · rw [Bool.false_or] at HC
    go_wp2_with fail
    refine HC.out.mono ?_
    rintro e w2 ⟨rfl, hP⟩
    have HP := hid (HFIN.out w2 hP)
    obtain ⟨bv, hc, hs⟩ := hP
    obtain ⟨c0, c1, c2, cz⟩ := hc.cells
    have hlen := fun n => (hc.below (below_drewN (Below.refl w2.heap.size w2) n)).len 3
    rw [hset] at hlen
    have tt : decide ((c.room : Int) < (fs.length : Int)) = false := by simp; omega
    have tt' : ¬ c.room < fs.length := by omega
    simp only at c0
    clear hc hs d0 d1 d2 dz dz2 c2 cz HC
    go_wp2_with fail
    refine wp_loop_once ?_
    go_wp2_with fail
    go_quiet (fail)
    go_wp2_with fail
    go_ret
    exact ⟨rfl, HP.out.below (below_drewN (Below.refl _ _) _)⟩
  · rw [Bool.true_or] at HC
    go_wp2_with fail
    refine HC.out.mono ?_
    rintro e w2 ⟨rfl, hP⟩
    have HP := hid (HFIN.out w2 hP)
    obtain ⟨bv, hc, hs⟩ := hP
    obtain ⟨c0, c1, c2, cz⟩ := hc.cells
    have hlen := fun n => (hc.below (below_drewN (Below.refl w2.heap.size w2) n)).len 3
    rw [hset] at hlen
    have tt : decide ((c.room : Int) < (fs.length : Int)) = false := by simp; omega
    have tt' : ¬ c.room < fs.length := by omega
    simp only at c0
    clear hc hs d0 d1 d2 dz dz2 c2 cz HC
    go_wp2_with fail
    refine wp_loop_once ?_
    go_wp2_with fail
    go_quiet (fail)
    go_wp2_with fail
    go_ret
    exact ⟨rfl, HP.out.below (below_drewN (Below.refl _ _) _)⟩
def newPR (k : Int) (b : Nat) : PR := ⟨⟨k, ⟨[], false, 0, []⟩⟩, b, .slice none 0 0, .slice none 0 0⟩
set_option maxRecDepth 100000 in
set_option maxHeartbeats 1000000 in
theorem put_new (h : CK w base p m c fs All) (k : Int) (hk : isI k) (hno : k ∉ c.all.map (·.k)) (v : Value) (b : List UInt8) (B : Nat) (hb : SlB w B v b) (hB : B ≤ w.heap.size) (hl : b.length ≤ 1000000) (dirty : Bool) (hu : c.uses ≤ 1000000000) (hroom : fs.length + 1 ≤ c.room) (hr2 : c.room ≤ 1000000) :
    Calls Tryz.prog 222 #[cp p, .int .i64 k, v, .bool dirty] w fun e w' => e = .returned (.slice none 0 0) ∧ PutP base p m c fs w k b dirty w' := by
  have hfind : Lr.find c.all k = none := Lr.find_none.2 hno
  have hlkn : Mi.look (plOf fs) k = none := by
    rcases h.who k with ⟨hl, _⟩ | ⟨j, g, hj, hgn, hl, hfd⟩
    · exact hl
    · rw [hfind] at hfd; cases hfd
  obtain ⟨c0, c1, c2, cz⟩ := h.cells
  have hlk := h.look k hk
  rw [hlkn] at hlk
  have hlk' : (Instr.lookup 305 (.map (some m)) (.int .i64 k) false).run Tryz.prog w = .ok (.pointer none) w := hlk
  have hal : Below w.heap.size w (w.alloc (.cells #[.slice none 0 0, .bool false, .int .i64 0, .slice none 0 0] 387)) := (Below.refl _ _).alloc (Nat.le_refl _) _
  have hnb := alloc_new w (.cells #[.slice none 0 0, .bool false, .int .i64 0, .slice none 0 0] 387)
  obtain ⟨w3, hrun, hpm3, hg3, hz3, hf3⟩ := (h.below hal).mp.upd (t := 305) Tryz.underlying3 Tryz.underlying305 k hk.wf w.heap.size (by simp [plOf]; unfold maxLen; omega)
  have c13 : (w.alloc (.cells #[.slice none 0 0, .bool false, .int .i64 0, .slice none 0 0] 387)).cell? ⟨p, 1, none⟩ = some (.map (some m)) := (hal.cell (p := ⟨p, 1, none⟩) h.plt).trans c1
  have hkm : Kept w w3 (fun q => q ≠ m) := (Kept.of_below hal fun _ h _ => h).trans (Kept.grown hg3 fun k hk hN => by cases hk; exact hN rfl)
  have hbm : Below base w w3 := (hal.mono h.base_le).trans ((Below.refl base _).grown hg3 (by simp; have := h.base_le; omega) (fun k hk => by cases hk; exact h.hm))
  have hnb3 : w3.heap[w.heap.size]? = some (.cells #[.slice none 0 0, .bool false, .int .i64 0, .slice none 0 0] 387 (0, 0)) := (hg3.block _ (by simp) (fun e => by cases e; have := h.mp.lt; omega)).trans hnb
  have hpl3 : Mi.upd (plOf fs) k w.heap.size = plOf (fs ++ [newPR k w.heap.size]) := by
    unfold Mi.upd; rw [hlkn]; simp [plOf, newPR]
  rw [hpl3] at hpm3
  obtain ⟨hadd, hst⟩ := h.addPage k w.heap.size (Nat.le_refl _) hkm hbm hnb3 hpm3
  have hadd := hadd.weaken (V' := All) fun i _ => .inl trivial
  have hi : (fs ++ [newPR k w.heap.size])[fs.length]? = some (newPR k w.heap.size) := by rw [List.getElem?_append_right (Nat.le_refl _)]; simp
  have HFIN : Hid (∀ w', PutAt base p m { c with all := c.all ++ [⟨k, ⟨[], false, 0, []⟩⟩] } (fs ++ [newPR k w.heap.size]) w3 fs.length (newPR k w.heap.size) b dirty w' → PutP base p m c fs w k b dirty w') := hid fun w' ⟨bv, hc, hs⟩ => by
    refine ⟨_, ?_, hst.trans hs⟩
    unfold Lr.lay
    rw [hfind]
    simp only
    have e1 : ((fs ++ [newPR k w.heap.size]).set fs.length (putPR (newPR k w.heap.size) b bv dirty (c.uses + 1))).map (·.en) = c.all ++ [⟨k, ⟨b, dirty, c.uses + 1, []⟩⟩] := by
      rw [List.set_append_right _ _ (Nat.le_refl _), h.all]
      simp [putPR, newPR]
    rw [← e1]
    exact hc
  obtain ⟨va, vn, vc, rfl⟩ := slB_shape hb
  have hb3 : SlB w3 w3.heap.size (.slice va vn vc) b := (slB_notMap hb hB hkm h.mp.isMap).mono (by have := hkm.size; omega)
  have HCL := hid (clone_b (.slice va vn vc) b w3.heap.size w3 hb3 (Nat.le_refl _) hl)
  have H0 := hid (And.intro hadd hi)
  have hset : ∀ (bv : Value) (n : Nat), ((fs ++ [newPR k w.heap.size]).set fs.length (putPR (newPR k w.heap.size) b bv dirty n)).length = fs.length + 1 := fun _ _ => by simp
  have c33 := hadd.cells.2.1
  clear h hb hlk hlkn hfind c0 c2 hal hnb hpm3 hg3 hz3 hf3 hkm hbm hnb3 hpl3 hadd hst hb3 hno cz
  go_enter Tryz.func222, Tryz.ntmps222
  go_wp2_with fail
  refine HCL.out.mono ?_
  rintro e w1 ⟨v1, rfl, ho1, hb1⟩
  obtain ⟨xa, xn, xc, rfl⟩ := slB_shape ho1.slB
  have hput := H0.out.1.putAt H0.out.2 hb1 ho1 dirty hu
  obtain ⟨d0, d1, d2, dz, dz2, fs3, hg3, hcall⟩ := hput
  have HC : Hid (Calls Tryz.prog 256 #[cp p, cp w.heap.size] ((w1.setCell ⟨w.heap.size, 0, none⟩ (.slice xa xn xc)).setCell ⟨w.heap.size, 1, none⟩ (.bool dirty)) fun e w' => e = .returned (.tuple #[]) ∧ PutAt base p m { c with all := c.all ++ [⟨k, ⟨[], false, 0, []⟩⟩] } (fs ++ [newPR k w.heap.size]) w3 fs.length (newPR k w.heap.size) b dirty w') := hid hcall
  have d0' : w1.cell? ⟨w.heap.size, 0, none⟩ = some (.slice none 0 0) := d0
  have d1' : w1.cell? ⟨w.heap.size, 1, none⟩ = some (.bool false) := d1
  have d2' : (w1.setCell ⟨w.heap.size, 0, none⟩ (.slice xa xn xc)).cell? ⟨w.heap.size, 1, none⟩ = some (.bool false) := d2
  have dz' : ∀ j, w1.frozen? ⟨w.heap.size, j, none⟩ = false := dz
  have dz2' : ∀ j, (w1.setCell ⟨w.heap.size, 0, none⟩ (.slice xa xn xc)).frozen? ⟨w.heap.size, j, none⟩ = false := dz2
  clear hcall ho1 hb1 c1 c13 hlk' hg3 d0 d1 d2 dz dz2 hrun
  go_wp2_with fail
  refine HC.out.mono ?_
  rintro e w2 ⟨rfl, hP⟩
  have HP := hid (HFIN.out w2 hP)
  obtain ⟨bv, hc, hs⟩ := hP
  obtain ⟨c0, c1, c2, cz⟩ := hc.cells
  have hlen := fun n => (hc.below (below_drewN (Below.refl w2.heap.size w2) n)).len 3
  rw [hset] at hlen
  have hlen' : ∀ n, (Builtin.len_ #[305] 3 #[.map (some m)]).run Tryz.prog (w2.drewN n) = .ok (.int .i64 ((fs.length : Int) + 1)) (w2.drewN n) := hlen
  have tt : decide ((c.room : Int) < (fs.length : Int) + 1) = false := by simp; omega
  have tt' : ¬ c.room < fs.length + 1 := by omega
  have tt2 : ¬ ((c.room : Int) < (fs.length : Int) + 1) := by omega
  simp only at c0
  clear hc hs d0' d1' d2' dz' dz2' c2 cz HC hlen c33
  go_wp2_with fail
  refine wp_loop_once ?_
  go_wp2_with fail
  go_quiet (fail)
  go_wp2_with fail
  go_ret
  exact ⟨rfl, HP.out.below (below_drewN (Below.refl _ _) _)⟩
end
end Go.Proofs.YtmcllcepoiakeaaGreat.Ux
namespace Go.Proofs.YtmcllcepoiakeaaGreat
open Go.RowKit Go.Mx Go.Proofs.YtmcllcepoiakeaaGreat.Dx Go.Dk
/-- an image's cells -/
def imC (p : Nat) (nm bk : List UInt8) (a b c s : Nat) (ch : Bool) (kn rd : Value) : Array Value :=
  #[dp p, nmv nm, .int .i64 0, .int .i64 4, nmv bk, nilS, nilS, nilS, nilS, .int .i64 0, .int .i64 4, nmv bk, nilS, nilS, nilS, nilS, nilS, .int .i64 a, .int .i64 b, .int .i64 c, .int .u32 s, .bool ch, kn, rd, .int .i64 0]
theorem inew (w : World) : Calls Tryz.prog 117 #[] w fun e w' => e = .returned (dp w.heap.size) ∧ w'.heap[w.heap.size]? = some (.cells #[nilS, .int .i64 0] 310 (0, 0)) ∧ Below w.heap.size w w' := by
  go_enter Tryz.func117, Tryz.ntmps117
  go_wp2
  go_ret
  exact ⟨rfl, alloc_new _ _, bel1 _ _⟩
theorem up_any {base p m room L i l : Nat} {fl : FL} {nm : List UInt8} {w : World} (hd : HG w base p m room fl L) (hi : fl[i]? = some (nm, l)) (hnl : nm.length ≤ 16) (q : Nat) {cs : Array Value} {t : TypeId}
    (hq : w.heap[q]? = some (.cells cs t (0, 0))) (hq0 : cs[0]? = some (dp p)) (hq1 : cs[1]? = some (nmv nm)) : Calls Tryz.prog 61 #[dp q] w fun e w' => e = .returned (.int .i64 0) ∧ Below w.heap.size w w' := by
  have HR : Hid (∀ W, Below w.heap.size w W → Calls Tryz.prog 26 #[dp p, nmv nm, .int .i64 0, .int .i64 0] W fun e w' => ∃ v, e = .returned (.tuple #[v, .int .i64 0]) ∧ Below W.heap.size W w') := hid fun W hW =>
    (read0_G (hd.below hW) hi (by unfold maxLen; omega)).mono fun e w' ⟨v, he, _, hb⟩ => ⟨v, he, hb⟩
  have y0 : ∀ W, Below w.heap.size w W → W.cell? ⟨q, 0, none⟩ = some (dp p) := fun W hW => (cell_of ((hW.block _ (blk_lt hq)).trans hq) 0).trans hq0
  have y1 : ∀ W, Below w.heap.size w W → W.cell? ⟨q, 1, none⟩ = some (nmv nm) := fun W hW => (cell_of ((hW.block _ (blk_lt hq)).trans hq) 1).trans hq1
  clear hd hi hq hq0 hq1
  go_enter Tryz.func61, Tryz.ntmps61
  go_wp2_with fail
  go_region_held (fun w' => Below w.heap.size w w') (first | with_reducible exact (Below.refl _ _).drew | with_reducible assumption | with_reducible exact Below.drew (by assumption)) (first
    | (go_at_call 26; refine (HR.out _ (by first | with_reducible assumption | exact (Below.refl _ _).drew)).mono ?_; rintro e w2 ⟨v, rfl, hb2⟩; have hb3 := belT (by first | with_reducible assumption | exact (Below.refl _ _).drew : Below w.heap.size w _) hb2))
  go_wp2_with fail
  go_ret
  exact ⟨rfl, hb3⟩
set_option maxHeartbeats 1000000 in
theorem made_any (p : Nat) (nm bk : List UInt8) (w : World) : Calls Tryz.prog 58 #[dp p, nmv nm, emv bk nilS, slotV 0 0 0 0] w fun e w' => ∃ q kn rd ml lb : Nat, e = .returned (dp q) ∧ w'.heap[q]? = some (.cells (imC p nm bk 0 0 0 0 false (dp kn) (Ux.cp rd)) 142 (0, 0)) ∧ w'.heap[kn]? = some (.cells #[nilS, .int .i64 0] 310 (0, 0)) ∧
      Ux.CK w' lb rd ml ⟨64, [], 0⟩ [] Ux.All ∧ w.heap.size ≤ q ∧ w.heap.size ≤ kn ∧ w.heap.size ≤ lb ∧ Below w.heap.size w w' := by
  go_enter Tryz.func58, Tryz.ntmps58
  go_wp2_with fail
  refine (Ux.new_any 64 _ (by omega) (by omega)).mono ?_
  rintro e w1 ⟨rfl, hck, hb⟩
  have hb1 := bel2' hb
  simp only [World.size_alloc] at hck
  have e6 := (hb.block w.heap.size (by simp; omega)).trans (new2_0 w (.cells #[.int .i64 0, .int .i64 4, nmv bk, nilS, nilS, nilS, nilS] 95) (.cells #[.int .i64 0, .int .i64 0, .int .i64 0, .int .u32 0] 124))
  have e7 := (hb.block (w.heap.size + 1) (by simp)).trans (new2_1 w (.cells #[.int .i64 0, .int .i64 4, nmv bk, nilS, nilS, nilS, nilS] 95) (.cells #[.int .i64 0, .int .i64 0, .int .i64 0, .int .u32 0] 124))
  have y6 : ∀ W, Below w1.heap.size w1 W → ∀ j, W.cell? ⟨w.heap.size, j, none⟩ = (#[.int .i64 0, .int .i64 4, nmv bk, nilS, nilS, nilS, nilS] : Array Value)[j]? := fun W hW j => cell_of ((hW.block _ (blk_lt e6)).trans e6) j
  have y7 : ∀ W, Below w1.heap.size w1 W → ∀ j, W.cell? ⟨w.heap.size + 1, j, none⟩ = (#[.int .i64 0, .int .i64 0, .int .i64 0, .int .u32 0] : Array Value)[j]? := fun W hW j => cell_of ((hW.block _ (blk_lt e7)).trans e7) j
  have H1 := hid (And.intro hck hb1)
  clear hb e6 e7 hck hb1
  go_wp2_with fail
  go_cut [8] from 15 to 25 (fun s8 wx => ∃ q kn : Nat, s8 = dp q ∧ Hid (wx.heap[q]? = some (.cells (imC p nm bk 0 0 0 0 false (dp kn) (Ux.cp (w.heap.size + 1 + 1 + 1))) 142 (0, 0)) ∧ wx.heap[kn]? = some (.cells #[nilS, .int .i64 0] 310 (0, 0)) ∧ w1.heap.size ≤ q ∧ w1.heap.size ≤ kn ∧ Below w1.heap.size w1 wx))
  case first =>
    go_region_held (fun w' => Below w1.heap.size w1 w') (first | with_reducible assumption | (solve | (repeat (first | with_reducible exact Below.refl _ _ | with_reducible assumption | with_reducible apply Below.drew | with_reducible refine Below.alloc ?_ ?_ _ | with_reducible refine Below.setCell ?_ ?_ _ | with_reducible exact Nat.le_refl _ | (simp; done) | exact Below.size (by assumption))))) (first
      | (go_at_call 64; refine (own_em bk _).mono ?_; rintro e w9 ⟨rfl, hb9⟩; have hb9' := belT (by first | with_reducible assumption | exact (Below.refl _ _).drew : Below w1.heap.size w1 _) hb9)
      | (go_at_call 117; refine (inew _).mono ?_; rintro e wk ⟨rfl, hkk, hbk⟩; have hbk' := belT (by first | with_reducible assumption | exact (Below.refl _ _).drew : Below w1.heap.size w1 _) hbk))
    go_wp2_with fail
    go_meet
    case rel => exact ⟨_, _, rfl, hid ⟨alloc_new _ _, (alloc_old (blk_lt hkk)).trans hkk, hbk'.size, (by assumption : Below w1.heap.size w1 _).size, hbk'.alloc hbk'.size _⟩⟩
  case rest =>
    obtain ⟨q, kn, rfl, hA⟩ := hcut
    have hz := H1.out.2.size
    go_wp2_with fail
    go_ret
    have hz1 := H1.out.1.base_le
    exact ⟨q, kn, _, _, _, rfl, hA.out.1, hA.out.2.1, H1.out.1.below hA.out.2.2.2.2, by have := hA.out.2.2.1; omega, by have := hA.out.2.2.2.1; omega, by omega, belT H1.out.2 hA.out.2.2.2.2⟩
/-- how an image lies in memory: no bitmaps, no shots, nothing held, an empty index and an empty cache -/
structure IM (w : World) (base p m q : Nat) (nm bk : List UInt8) (a b c s : Nat) (ch : Bool) (kn rd ml : Nat) : Prop where
  im : w.heap[q]? = some (.cells (imC p nm bk a b c s ch (dp kn) (Ux.cp rd)) 142 (0, 0))
  ki : w.heap[kn]? = some (.cells #[nilS, .int .i64 0] 310 (0, 0))
  ri : w.heap[rd]? = some (.cells (Ux.ccells ⟨64, [], 0⟩ ml) 307 (0, 0))
  pm : Go.Mi.PM Tryz.prog 3 w ml []
  ne : ml ≠ m
  bs : base ≤ q ∧ base ≤ kn ∧ base ≤ rd ∧ base ≤ ml
section
variable {w w' : World} {base p m q : Nat} {nm bk : List UInt8} {a b c s : Nat} {ch : Bool} {kn rd ml : Nat}
theorem IM.cache (h : IM w base p m q nm bk a b c s ch kn rd ml) : Ux.CK w base rd ml ⟨64, [], 0⟩ [] Ux.All :=
  { all := rfl, ck := h.ri, hp := h.bs.2.2.1, hm := h.bs.2.2.2, mp := h.pm, fc := fun i f h => by simp at h, ob := fun i f h => by simp at h, oa := fun i f h => by simp at h, af := fun i j f g h => by simp at h, aa := fun i j f g h => by simp at h, sb := fun i f h => by simp at h, sa := fun i f h => by simp at h }
theorem IM.below (h : IM w base p m q nm bk a b c s ch kn rd ml) (hb : Below w.heap.size w w') : IM w' base p m q nm bk a b c s ch kn rd ml :=
  ⟨(hb.block _ (blk_lt h.im)).trans h.im, (hb.block _ (blk_lt h.ki)).trans h.ki, (hb.block _ (blk_lt h.ri)).trans h.ri, h.pm.block (hb.block _ h.pm.lt), h.ne, h.bs⟩
theorem IM.keepO (h : IM w base p m q nm bk a b c s ch kn rd ml) {o : Option Nat} (hk : KeptO m o w w') (hm : ∃ es cc, w.heap[m]? = some (.map es cc)) (ho : ∀ k, o = some k → (∃ cc t fr, w.heap[k]? = some (.cells cc t fr) ∧ t ≠ 142 ∧ t ≠ 310 ∧ t ≠ 307)) : IM w' base p m q nm bk a b c s ch kn rd ml := by
  have key : ∀ {k : Nat} {cc : Array Value} {t : TypeId}, w.heap[k]? = some (.cells cc t (0, 0)) → (t = 142 ∨ t = 310 ∨ t = 307) → w'.heap[k]? = some (.cells cc t (0, 0)) := fun {k cc t} hc ht => by
    refine hk.cells hc (not_map hm hc) ?_ fun e => ?_
    · rcases ht with rfl | rfl | rfl <;> decide
    · obtain ⟨c2, t2, f2, h2, h3⟩ := ho _ e
      rw [hc] at h2; cases h2
      rcases ht with rfl | rfl | rfl
      · exact h3.1 rfl
      · exact h3.2.1 rfl
      · exact h3.2.2 rfl
  refine ⟨key h.im (.inl rfl), key h.ki (.inr (.inl rfl)), key h.ri (.inr (.inr rfl)), h.pm.block (Kept.block hk _ h.pm.lt ⟨⟨h.ne, fun cc t fr e => ?_⟩, fun e => ?_⟩), h.ne, h.bs⟩
  · obtain ⟨es, c2, h2⟩ := h.pm.isMap; rw [h2] at e; cases e
  · obtain ⟨es, c2, h2⟩ := h.pm.isMap
    obtain ⟨c3, t2, f2, h3, _⟩ := ho _ e
    rw [h2] at h3; cases h3
theorem IM.fr (h : IM w base p m q nm bk a b c s ch kn rd ml) (hf : Fr base m w w') (hm : ∃ es cc, w.heap[m]? = some (.map es cc)) : IM w' base p m q nm bk a b c s ch kn rd ml := h.keepO (hf.keptO none) hm fun k e => by cases e
theorem IM.lt (h : IM w base p m q nm bk a b c s ch kn rd ml) : q < w.heap.size := blk_lt h.im
/-- behind a step that turned the image's own block alone -/
theorem IM.turn (h : IM w base p m q nm bk a b c s ch kn rd ml) (hk : Kept w w' (· ≠ q)) {a' b' c' s' : Nat} {ch' : Bool} (hq : w'.heap[q]? = some (.cells (imC p nm bk a' b' c' s' ch' (dp kn) (Ux.cp rd)) 142 (0, 0))) : IM w' base p m q nm bk a' b' c' s' ch' kn rd ml :=
  ⟨hq, (hk.block _ (blk_lt h.ki) (blk_ne h.ki h.im (by decide) ·)).trans h.ki, (hk.block _ (blk_lt h.ri) (blk_ne h.ri h.im (by decide) ·)).trans h.ri, h.pm.block (hk.block _ h.pm.lt fun e => by obtain ⟨es, c2, h2⟩ := h.pm.isMap; rw [e, h.im] at h2; cases h2), h.ne, h.bs⟩
end
theorem made_im (base p m : Nat) (nm bk : List UInt8) (w : World) (hb : base ≤ w.heap.size) (hm : m < w.heap.size) : Calls Tryz.prog 58 #[dp p, nmv nm, emv bk nilS, slotV 0 0 0 0] w fun e w' => ∃ q kn rd ml : Nat, e = .returned (dp q) ∧ IM w' base p m q nm bk 0 0 0 0 false kn rd ml ∧ (w.heap.size ≤ q ∧ w.heap.size ≤ ml) ∧ Below w.heap.size w w' :=
  (made_any p nm bk w).mono fun e w' ⟨q, kn, rd, ml, lb, he, h1, h2, h3, h4, h5, h6, h7⟩ => ⟨q, kn, rd, ml, he, ⟨h1, h2, h3.ck, h3.mp, by have := h3.hm; omega, by have := h3.hm; have := h3.hp; omega⟩, ⟨h4, Nat.le_trans h6 h3.hm⟩, h7⟩
end Go.Proofs.YtmcllcepoiakeaaGreat
