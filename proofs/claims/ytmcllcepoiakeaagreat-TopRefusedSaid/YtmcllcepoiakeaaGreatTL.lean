import Derived.Test.YtmcllcepoiakeaaGreatTJ
set_option linter.unusedSimpArgs false
set_option linter.unusedVariables false
namespace Go.Proofs.YtmcllcepoiakeaaGreat
open Go.RowKit Go.Mx Go.Proofs.YtmcllcepoiakeaaGreat.Dx Go.Dk
structure IG where
  nm : List UInt8
  bk : List UInt8
  q : Nat
  kn : Nat
  rd : Nat
  ml : Nat
  a : Nat
  b : Nat
  c : Nat
  s : Nat
def gpl (gs : List IG) : Mp.PL := gs.map fun g => (g.nm, g.q)
def gfl (gs : List IG) : FL := gs.map fun g => (g.nm, 4)
/-- an archive over a disk, all of whose images lie as they were flushed -/
structure AR (w : World) (base p m aa am room L : Nat) (gs : List IG) : Prop where
  ar : ∃ dn : Nat, dn ≤ L ∧ w.heap[aa]? = some (.cells #[dp p, .map (some am), .int .i64 dn] 53 (0, 0))
  mp : Mp.PM Tryz.prog 9 w am (gpl gs)
  im : ∀ g ∈ gs, IM w base p m g.q g.nm g.bk g.a g.b g.c g.s false g.kn g.rd g.ml
  hg : HG w base p m room (gfl gs) L
  nm : ∀ g ∈ gs, g.nm.length = 1 ∧ BkOk g.bk
  ne : am ≠ m
  ba : base ≤ am ∧ base ≤ aa
  la : ∀ g ∈ gs, g.ml ≠ am
  ls : ∀ g ∈ gs, g.a = 1 ∧ g.b = 2 ∧ g.c = 21 + g.bk.length
section
variable {w w' : World} {base p m aa am room L : Nat} {gs : List IG}
theorem AR.below (h : AR w base p m aa am room L gs) (hb : Below w.heap.size w w') : AR w' base p m aa am room L gs := by
  obtain ⟨dn, hdn, h1⟩ := h.ar
  exact ⟨⟨dn, hdn, qk_below h1 hb⟩, h.mp.block (hb.block _ h.mp.lt), fun g hg => (h.im g hg).below hb, h.hg.below hb, h.nm, h.ne, h.ba, h.la, h.ls⟩
theorem AR.at (h : AR w base p m aa am room L gs) {g : IG} (hg : g ∈ gs) : ∃ i : Nat, (gfl gs)[i]? = some (g.nm, 4) := by
  obtain ⟨i, hi⟩ := List.getElem?_of_mem hg
  exact ⟨i, by unfold gfl; rw [List.getElem?_map, hi]; rfl⟩
theorem bk_len {bk : List UInt8} (h : BkOk bk) : bk.length ≤ 1 := by rcases h with rfl | ⟨c, rfl, _⟩ <;> simp
theorem AR.metas (h : AR w base p m aa am room L gs) {g : IG} (hg : g ∈ gs) : Calls Tryz.prog 36 #[dp g.q] w fun e w' => ∃ ca cn cc, e = .returned (emv g.bk (.slice ca cn cc)) ∧ Below w.heap.size w w' := by
  obtain ⟨i, hi⟩ := h.at hg
  exact (meta_any h.hg hi (by omega) (by have := (h.nm g hg).1; omega) (h.im g hg)).mono fun e w' ⟨cv, he, ho, hb⟩ => by obtain ⟨ca, cn, cc, rfl⟩ := slG_sh ho.slI; exact ⟨ca, cn, cc, he, hb⟩
theorem gpl_look {gs : List IG} {nm : List UInt8} {b : Nat} (h : Mp.look (gpl gs) nm = some b) : ∃ g ∈ gs, g.nm = nm ∧ g.q = b := by
  induction gs with
  | nil => simp [gpl, Mp.look_nil] at h
  | cons g l ih =>
    unfold gpl at h ih
    rw [List.map_cons, Mp.look_cons] at h
    by_cases e : g.nm = nm
    · rw [if_pos e] at h; exact ⟨g, by simp, e, by simpa using h⟩
    · rw [if_neg e] at h
      obtain ⟨g', h1, h2⟩ := ih h
      exact ⟨g', by simp [h1], h2⟩
theorem gpl_mem {gs : List IG} {g : IG} (hg : g ∈ gs) : (Mp.look (gpl gs) g.nm).isSome = true := by
  cases h : Mp.look (gpl gs) g.nm with
  | some b => rfl
  | none => rw [Mp.look_none] at h; exact absurd (List.mem_map.2 ⟨(g.nm, g.q), List.mem_map.2 ⟨g, hg, rfl⟩, rfl⟩) h
end
theorem field_bk (bk : List UInt8) (ca : Option Addr) (cn cc : Nat) (w : World) : (Instr.field 95 (emv bk (.slice ca cn cc)) 2).run Tryz.prog w = .ok (nmv bk) w := by
  simp [emv, Instr.field, go_sem, asAgg]
def lkR2 (x : List UInt8 × List UInt8) : List Value := [nmv x.1, nmv x.2]
theorem power_any {w : World} {base p m room L : Nat} {fl : FL} (hd : HG w base p m room fl L) (hno : ([] : List UInt8) ∉ fl.map (·.1)) : Calls Tryz.prog 14 #[dp p] w fun e w' => e = .returned (.int .i64 0) ∧ w = w' := by
  have HR := hid (read_no hd [] (by simp) hno)
  clear hd hno
  go_enter Tryz.func14, Tryz.ntmps14
  go_wp2_with fail
  refine HR.out.mono ?_
  rintro e w' ⟨rfl, rfl⟩
  go_wp2_with fail
  go_ret
  exact ⟨rfl, rfl⟩
theorem Tryz.info74 : (Tryz.prog.info? 74).map (fun i => (i.zero, i.size, i.bytes)) = some (some (.agg #[.string ⟨#[]⟩, .string ⟨#[]⟩]), 2, 32) := by kernel_rfl
/-- links: while they are put together -/
def Lks (gs : List IG) (nm tgt : List UInt8) (left : List UInt8 → Bool) (os : List (List UInt8 × List UInt8)) : Prop := os.Perm ((gs.filter fun g => !left g.nm && !decide (g.nm = nm)).map fun g => (g.nm, g.bk))
theorem lks_same {gs : List IG} {nm tgt s : List UInt8} {left : List UInt8 → Bool} (h : s ∉ gs.map (·.nm)) :
    (gs.filter fun x => !(left x.nm && !(decide (x.nm = s))) && !decide (x.nm = nm)) = gs.filter fun x => !left x.nm && !decide (x.nm = nm) := by
  apply List.filter_congr
  intro x hx
  have : x.nm ≠ s := fun e => h (List.mem_map.2 ⟨x, hx, e⟩)
  simp [this]
theorem lks_step {nm tgt : List UInt8} {left : List UInt8 → Bool} : ∀ (gs : List IG), (gs.map (·.nm)).Nodup → ∀ g ∈ gs, left g.nm = true → ∀ os, Lks gs nm tgt left os →
    Lks gs nm tgt (fun t => left t && !decide (t = g.nm)) (os ++ if g.nm = nm then [] else [(g.nm, g.bk)]) := by
  have key : ∀ (gs : List IG), (gs.map (·.nm)).Nodup → ∀ g ∈ gs, left g.nm = true →
      ((gs.filter fun x => !left x.nm && !decide (x.nm = nm)).map (fun g => (g.nm, g.bk)) ++ if g.nm = nm then [] else [(g.nm, g.bk)]).Perm ((gs.filter fun x => !(left x.nm && !decide (x.nm = g.nm)) && !decide (x.nm = nm)).map fun g => (g.nm, g.bk)) := by
    intro gs
    induction gs with
    | nil => intro _ g hg; cases hg
    | cons a l ih =>
      intro hn g hg hl
      rw [List.map_cons, List.nodup_cons] at hn
      by_cases e : a.nm = g.nm
      · rcases List.mem_cons.1 hg with rfl | hg'
        · rw [List.filter_cons, List.filter_cons, lks_same (tgt := tgt) hn.1]
          simp only [hl, Bool.not_true, Bool.false_and, Bool.false_eq_true, if_false, decide_true, Bool.and_false, Bool.not_false, Bool.true_and]
          by_cases e2 : g.nm = nm
          · simp [e2]
          · simp only [e2, if_false, decide_false, Bool.not_false, if_true, List.map_cons]
            exact List.perm_append_comm (l₂ := [_])
        · exact absurd (List.mem_map.2 ⟨g, hg', e.symm⟩) hn.1
      · have hg' : g ∈ l := by rcases List.mem_cons.1 hg with rfl | h; exact absurd rfl e; exact h
        have := ih hn.2 g hg' hl
        rw [List.filter_cons, List.filter_cons]
        simp only [e, decide_false, Bool.not_false, Bool.and_true]
        by_cases e3 : (!left a.nm && !decide (a.nm = nm)) = true
        · rw [if_pos e3, if_pos e3, List.map_cons, List.map_cons, List.cons_append]
          exact List.Perm.cons _ this
        · rw [if_neg e3, if_neg e3]; exact this
  intro gs hn g hg hl os h
  exact (List.Perm.append_right _ h).trans (key gs hn g hg hl)
theorem gpl_nodup {w : World} {am : Nat} {gs : List IG} (h : Mp.PM Tryz.prog 9 w am (gpl gs)) : (gs.map (·.nm)).Nodup := by
  have := h.nodup
  rwa [gpl, List.map_map] at this
set_option maxRecDepth 100000 in
set_option maxHeartbeats 2000000 in
theorem links_any {w : World} {base p m aa am room L : Nat} {gs : List IG} (h : AR w base p m aa am room L gs) (hn : gs.length ≤ 1000) (nm tgt : List UInt8) : Calls Tryz.prog 30 #[dp aa, nmv nm, nmv tgt] w fun e w' => ∃ lv os, e = .returned lv ∧ OwnG w' w.heap.size 74 2 lv (((nm, tgt) :: os).map lkR2) ∧ Lks gs nm tgt (fun _ => false) os ∧ Below w.heap.size w w' := by
  obtain ⟨dn, hdn, har⟩ := h.ar
  have H := hid h
  have hz := blk_lt har
  have har1 : (w.alloc (.cells #[nmv nm, nmv tgt] 74)).heap[aa]? = some (.cells #[dp p, .map (some am), .int .i64 dn] 53 (0, 0)) := qk_alloc har _
  have hmp : Mp.PM Tryz.prog 9 (w.alloc (.cells #[nmv nm, nmv tgt] 74)) am (gpl gs) := h.mp.block (alloc_old h.mp.lt)
  have y := fun j => cell_of har1 j
  clear h har har1
  go_enter Tryz.func30, Tryz.ntmps30
  go_wp2_with (first
    | (at_range; refine Mp.range_pm _ rfl _ rfl Tryz.underlying9 Tryz.underlying46 rfl hmp ?_; intro w0 hrg0 hg0 hs0)
    | go_in)
  go_frame
  have e1 : (w.alloc (.cells #[nmv nm, nmv tgt] 74)).heap[w.heap.size]? = some (.cells #[nmv nm, nmv tgt] 74 (0, 0)) := alloc_new _ _
  have b1 := bel1 w (.cells #[nmv nm, nmv tgt] 74)
  have hz1 : (w.alloc (.cells #[nmv nm, nmv tgt] 74)).heap.size = w.heap.size + 1 := by simp
  rw [hz1] at hrg0 hs0 ⊢
  have HW := hid (And.intro e1 b1)
  generalize w.alloc (.cells #[nmv nm, nmv tgt] 74) = w1 at *
  go_loopw [7] (fun s7 wr => ∃ (left : List UInt8 → Bool) (cnt : Nat) (os : List (List UInt8 × List UInt8)), Mp.RG Tryz.prog 9 wr am (w.heap.size + 1) (gpl gs) left cnt ∧ OwnG wr w.heap.size 74 2 s7 (((nm, tgt) :: os).map lkR2) ∧ Hid (Lks gs nm tgt left os ∧ Below w.heap.size w wr)) (fun _ wr => wr.rangeLeft am (w.heap.size + 1))
  case atStart =>
    refine ⟨_, _, [], hrg0, ⟨⟨rfl, .inr ⟨w.heap.size, 1, #[nmv nm, nmv tgt], rfl, Nat.le_refl _, (hg0.block _ (by omega) (by simp)).trans HW.out.1, Nat.le_refl _, by unfold maxLen; omega, rfl, rfl⟩⟩, by simp [lkR2]⟩, hid ⟨?_, HW.out.2.grown hg0 (by omega) (by simp)⟩⟩
    unfold Lks
    have : (gs.filter fun g => !(Mp.look (gpl gs) g.nm).isSome && !decide (g.nm = nm)) = [] := by
      rw [List.filter_eq_nil_iff]; intro g hg; rw [gpl_mem hg]; simp
    rw [this]; exact List.Perm.refl _
  case round =>
    obtain ⟨left, cnt, os, hrg, hog, hL⟩ := hrel
    clear hrg0 hg0 hs0 y e1 b1
    go_wp2_with (first
      | (at_next; refine Mp.next_pm _ rfl _ rfl Tryz.underlying9 (w.heap.size + 1) _ _ rfl hrg ?_ ?_)
      | go_in)
    · intro hl0
      have hle : left = fun _ => false := funext hl0
      subst hle
      have HO := hid hog
      clear hog
      go_wp2
      go_ret
      exact ⟨_, rfl, os, HO.out, hL.out.1, hL.out.2⟩
    · intro s b w2 cnt1 hlk hls hrg1 hlt hg1 hs1 hen
      obtain ⟨g, hg, rfl, rfl⟩ := gpl_look hlk
      have hrl := hrg.left_eq
      have hbw2 : Below w.heap.size w w2 := hL.out.2.grown hg1 hL.out.2.size (fun k hk => by cases hk; omega)
      obtain ⟨ia, ib, ic, hit⟩ := hrg.iter
      have hog2 : OwnG w2 w.heap.size 74 2 u7 (((nm, tgt) :: os).map lkR2) := hog.kept (Kept.grown (N := fun k => k ≠ w.heap.size + 1) hg1 (fun k hk => by cases hk; simp)) fun k hk e => by
        subst e
        rcases hog.1.2 with ⟨h0, _⟩ | ⟨gg, cap, cur, hv, _, hgg, _⟩
        · rw [h0] at hk; cases hk
        · rw [hv] at hk; cases hk; rw [hit] at hgg; cases hgg
      have hst := lks_step gs (gpl_nodup H.out.mp) g hg hls os hL.out.1
      rw [show (fun t => left t && !decide (t = g.nm)) = (fun t => left t && !(t == g.nm)) by funext t; by_cases h : t = g.nm <;> simp [h]] at hst
      by_cases e : g.nm = nm
      · have HR := hid (And.intro hrg1 (And.intro hlt (And.intro hst hbw2)))
        have HO := hid hog2
        rw [e] at hen
        clear hog hog2 hrg1 hlt hst hlk hls hit hg1 hrg hbw2
        go_wp2_with fail
        go_roundw
        case rel => exact ⟨_, cnt1, os, HR.out.1, HO.out, hid ⟨by have := HR.out.2.2.1; rwa [if_pos e, List.append_nil] at this, HR.out.2.2.2⟩⟩
        case measure => rw [HR.out.1.left_eq, hrl]; exact HR.out.2.1
      · have eb : (g.nm == nm) = false := by simpa using e
        have hme := hid ((H.out.below hbw2).metas hg)
        have HR := hid (And.intro hrg1 (And.intro hlt (And.intro hst hbw2)))
        have HO := hid hog2
        clear hog hog2 hrg1 hlt hst hlk hls hit hg1 hrg hbw2
        go_wp2_with fail
        refine hme.out.mono ?_
        rintro e3 w3 ⟨ca, cn, cc, rfl, hb3⟩
        have hfd := field_bk g.bk ca cn cc w3
        have ho3 := HO.out.below (hb3.mono (Nat.le_refl _)) (Nat.le_refl _)
        have ho4 := OwnG.below (ho3) (bel1 w3 (.cells #[nmv g.nm, nmv g.bk] 74)) (Nat.le_refl _)
        have hrg3 := HR.out.1.blocks (hb3.block _ (HR.out.1.pm.lt)) (hb3.block _ HR.out.1.lt)
        have HB3 := hid (And.intro hb3 hrg3)
        have HO4 := hid ho4
        have hos : os.length ≤ gs.length := by have := hL.out.1.length_eq; simp only [List.length_map] at this; rw [this]; exact List.length_filter_le _ _
        clear hb3 ho3 ho4 hrg3
        have HOS := hid (And.intro hos hs1)
        clear hos hs1
        go_wp2_with (at_builtin; refine append_g _ rfl _ _ 70 74 _ 2 32 rfl Tryz.underlying70 Tryz.info74 rfl (by decide) w.heap.size _ _ rfl HO4.out w3.heap.size 1 [nmv g.nm, nmv g.bk] rfl rfl ?_ ?_ ?_ ?_ ?_ ?_)
        case refine_1 => intro j u hj; rw [cell_of (alloc_new w3 (.cells #[nmv g.nm, nmv g.bk] 74)) j]; simpa using hj
        case refine_2 => intro u hu; simp at hu; rcases hu with rfl | rfl <;> rfl
        case refine_3 => have := HOS.out.1; simp; omega
        case refine_4 => have := HOS.out.1; simp; omega
        case refine_5 => have h1 := HB3.out.1.size; have h2 := HR.out.2.2.2.size; simp; omega
        case refine_6 =>
          intro v' w5 ho5 hg5 hb5
          have hrg5 : Mp.RG Tryz.prog 9 w5 am (w.heap.size + 1) (gpl gs) (fun t => left t && !(t == g.nm)) cnt1 := by
            have hnc : ∀ k, u7.ownBlock = some k → ∃ c t fr, (w3.alloc (.cells #[nmv g.nm, nmv g.bk] 74)).heap[k]? = some (.cells c t fr) := fun k hk => by
              rcases HO4.out.1.2 with ⟨h0, _⟩ | ⟨gg, cap, cur, hv, _, hgg, _⟩
              · rw [h0] at hk; cases hk
              · rw [hv] at hk; cases hk; exact ⟨_, _, _, hgg⟩
            have hrg4 := HB3.out.2.blocks (alloc_old (o := .cells #[nmv g.nm, nmv g.bk] 74) HB3.out.2.pm.lt) (alloc_old HB3.out.2.lt)
            refine hrg4.blocks (hg5.block _ hrg4.pm.lt fun e => ?_) (hg5.block _ hrg4.lt fun e => ?_)
            · obtain ⟨c, t, fr, h⟩ := hnc _ e.symm
              obtain ⟨es, ck, h2⟩ := hrg4.pm.isMap
              rw [h] at h2; cases h2
            · obtain ⟨c, t, fr, h⟩ := hnc _ e.symm
              obtain ⟨ja, jb, jc, h2⟩ := hrg4.iter
              rw [h] at h2; cases h2
          have hb6 : Below w.heap.size w w5 := ((HR.out.2.2.2.trans (HB3.out.1.mono HR.out.2.2.2.size)).alloc (belT HR.out.2.2.2 HB3.out.1).size (.cells #[nmv g.nm, nmv g.bk] 74)).trans hb5
          have H5 := hid (And.intro hrg5 (And.intro hb6 ho5))
          clear hrg5 hb6 ho5 hg5 hb5
          go_wp2_with fail
          go_roundw
          case rel => exact ⟨_, cnt1, os ++ [(g.nm, g.bk)], H5.out.1, by have := H5.out.2.2; simpa [lkR2] using this, hid ⟨by have := HR.out.2.2.1; rwa [if_neg e] at this, H5.out.2.1⟩⟩
          case measure => rw [H5.out.1.left_eq, hrl]; exact HR.out.2.1
/-- Check, by what a name stands upon -/
def ckF (f : List UInt8 → Option (List UInt8)) : Nat → List (List UInt8) → Nat → List UInt8 → Int
  | 0, _, _, _ => 0
  | n + 1, seen, k, bk => if bk = [] then 0 else match f bk with
    | none => 4
    | some nx => if bk ∈ seen then 11 else if 8 ≤ k then 10 else ckF f n (seen ++ [bk]) (k + 1) nx
theorem ckTo_F (ls : List Lk) : ∀ n seen k bk, ckTo ls n seen k bk = ckF (lk ls) n seen k bk
  | 0, _, _, _ => rfl
  | n + 1, seen, k, bk => by
    unfold ckTo ckF
    cases lk ls bk with
    | none => rfl
    | some nx => simp only [ckTo_F ls n]
/-- what an image stands upon -/
def gbk (gs : List IG) (s : List UInt8) : Option (List UInt8) := (gs.find? fun g => decide (g.nm = s)).map (·.bk)
def gat (gs : List IG) (nm tgt s : List UInt8) : Option (List UInt8) := if s = nm then some tgt else gbk gs s
def pfind (os : List (List UInt8 × List UInt8)) (s : List UInt8) : Option (List UInt8) := (os.find? fun x => decide (x.1 = s)).map (·.2)
theorem pfind_mem {os : List (List UInt8 × List UInt8)} (hn : (os.map (·.1)).Nodup) {s b : List UInt8} (h : (s, b) ∈ os) : pfind os s = some b := by
  induction os with
  | nil => cases h
  | cons x l ih =>
    rw [List.map_cons, List.nodup_cons] at hn
    unfold pfind
    rw [List.find?_cons]
    by_cases e : x.1 = s
    · simp only [e, decide_true]
      rcases List.mem_cons.1 h with rfl | h'
      · rfl
      · exact absurd (List.mem_map.2 ⟨_, h', e.symm⟩) hn.1
    · simp only [e, decide_false]
      rcases List.mem_cons.1 h with rfl | h'
      · exact absurd rfl e
      · exact ih hn.2 h'
theorem pfind_none {os : List (List UInt8 × List UInt8)} {s : List UInt8} (h : s ∉ os.map (·.1)) : pfind os s = none := by
  unfold pfind
  rw [List.find?_eq_none.2 fun x hx => by simp; intro e; exact h (List.mem_map.2 ⟨x, hx, e⟩)]; rfl
theorem pfind_perm {os ps : List (List UInt8 × List UInt8)} (hp : os.Perm ps) (hn : (ps.map (·.1)).Nodup) (s : List UInt8) : pfind os s = pfind ps s := by
  have hn2 : (os.map (·.1)).Nodup := (hp.map (·.1)).nodup_iff.2 hn
  by_cases h : s ∈ ps.map (·.1)
  · obtain ⟨x, hx, rfl⟩ := List.mem_map.1 h
    rw [pfind_mem hn (b := x.2) hx, pfind_mem hn2 (b := x.2) (hp.mem_iff.2 hx)]
  · rw [pfind_none h, pfind_none fun h2 => h ((hp.map (·.1)).mem_iff.1 h2)]
theorem gbk_pfind (gs : List IG) (s : List UInt8) : gbk gs s = pfind (gs.map fun g => (g.nm, g.bk)) s := by
  unfold gbk pfind; rw [List.find?_map, Option.map_map]; rfl
theorem filter_find (gs : List IG) (nm s : List UInt8) (h : s ≠ nm) : pfind ((gs.filter fun g => !decide (g.nm = nm)).map fun g => (g.nm, g.bk)) s = pfind (gs.map fun g => (g.nm, g.bk)) s := by
  induction gs with
  | nil => rfl
  | cons g l ih =>
    rw [List.filter_cons]
    by_cases e : g.nm = nm
    · rw [if_neg (by simp [e]), ih]
      unfold pfind
      rw [List.map_cons, List.find?_cons]
      have : ¬ g.nm = s := fun e2 => h (e2.symm.trans e)
      simp [this]
    · rw [if_pos (by simp [e]), List.map_cons, List.map_cons]
      unfold pfind at ih ⊢
      rw [List.find?_cons, List.find?_cons]
      by_cases e2 : g.nm = s
      · simp [e2]
      · simp only [e2, decide_false]; exact ih
/-- the links, as Check reads them -/
theorem links_lk {gs : List IG} {nm tgt : List UInt8} {os : List (List UInt8 × List UInt8)} (hn : (gs.map (·.nm)).Nodup) (h : Lks gs nm tgt (fun _ => false) os) (hl : ∀ g ∈ gs, g.nm.length = 1 ∧ BkOk g.bk) (h1 : nm.length ≤ maxLen) (h2 : tgt.length ≤ maxLen) :
    ∃ ls : List Lk, ls.map (·.1) = (nm, tgt) :: os ∧ lk ls = gat gs nm tgt := by
  have hos : ∀ x ∈ os, x.1.length ≤ maxLen ∧ x.2.length ≤ maxLen := fun x hx => by
    have hx2 := h.mem_iff.1 hx
    obtain ⟨g, hg, rfl⟩ := List.mem_map.1 hx2
    have h3 := hl g (List.mem_filter.1 hg).1
    have h4 := bk_len h3.2
    unfold maxLen; exact ⟨by show g.nm.length ≤ _; omega, by show g.bk.length ≤ _; omega⟩
  have key : ∀ l : List (List UInt8 × List UInt8), (∀ x ∈ l, x.1.length ≤ maxLen ∧ x.2.length ≤ maxLen) → ∃ ls : List Lk, ls.map (·.1) = l := by
    intro l
    induction l with
    | nil => intro _; exact ⟨[], rfl⟩
    | cons x l ih =>
      intro hx
      obtain ⟨ls, hls⟩ := ih fun y hy => hx y (by simp [hy])
      exact ⟨⟨x, hx x (by simp)⟩ :: ls, by simp [hls]⟩
  obtain ⟨ls, hls⟩ := key ((nm, tgt) :: os) (by intro x hx; rcases List.mem_cons.1 hx with rfl | hx; exact ⟨h1, h2⟩; exact hos x hx)
  refine ⟨ls, hls, funext fun s => ?_⟩
  have e1 : lk ls s = pfind (ls.map (·.1)) s := by unfold lk pfind; rw [List.find?_map, Option.map_map]; rfl
  rw [e1, hls]
  unfold gat
  by_cases e : s = nm
  · rw [if_pos e]; unfold pfind; rw [List.find?_cons]; simp [e]
  · rw [if_neg e, gbk_pfind, ← filter_find gs nm s e]
    have hp : os.Perm ((gs.filter fun g => !decide (g.nm = nm)).map fun g => (g.nm, g.bk)) := by unfold Lks at h; simpa using h
    have : pfind ((nm, tgt) :: os) s = pfind os s := by unfold pfind; rw [List.find?_cons]; simp [Ne.symm e]
    rw [this]
    refine pfind_perm hp ?_ s
    rw [List.map_map]
    exact (List.Sublist.map _ List.filter_sublist).nodup hn
/-- what Check answers of an image that is to stand there -/
def ckG (gs : List IG) (nm tgt : List UInt8) : Int := ckF (gat gs nm tgt) 9 [nm] 1 tgt
theorem check_links {w : World} {gs : List IG} {nm tgt : List UInt8} {os : List (List UInt8 × List UInt8)} (hn : (gs.map (·.nm)).Nodup) (hgl : gs.length ≤ 900) (h : Lks gs nm tgt (fun _ => false) os) (hl : ∀ g ∈ gs, g.nm.length = 1 ∧ BkOk g.bk) (h1 : nm.length ≤ maxLen) (h2 : tgt.length ≤ maxLen)
    {base : Nat} {lv : Value} (ho : OwnG w base 74 2 lv (((nm, tgt) :: os).map lkR2)) : Calls Tryz.prog 29 #[lv, nmv nm] w fun e w' => e = .returned (.int .i64 (ckG gs nm tgt)) ∧ Below w.heap.size w w' := by
  obtain ⟨ls, e1, e2⟩ := links_lk hn h hl h1 h2
  have hrow : ((nm, tgt) :: os).map lkR2 = ls.map lkR := by rw [← e1, List.map_map]; rfl
  have hlen : ls.length ≤ 1000 := by
    have h3 : ls.length = ((nm, tgt) :: os).length := by rw [← e1]; simp
    have h4 := h.length_eq
    simp only [List.length_map] at h4
    rw [h3, List.length_cons, h4]; exact Nat.le_trans (Nat.succ_le_succ (List.length_filter_le _ _)) (by omega)
  rw [hrow] at ho
  refine (check_any ls hlen lv nm h1 w ho.slG ⟨([], []), by simp, by simp⟩).mono fun e w' ⟨he, hb⟩ => ⟨he.trans ?_, hb⟩
  have : checkM ls nm = ckG gs nm tgt := by
    unfold checkM ckG
    rw [e2, show gat gs nm tgt nm = some tgt by simp [gat]]
    show ckTo ls 9 [nm] 1 tgt = _
    rw [ckTo_F, e2]
  rw [this]
theorem zero60 : ∀ w, (zeroValue 60).run Tryz.prog w = .ok (.pointer none) w := fun w => by kernel_rfl
theorem pv_beq (o : Option Nat) : Mp.pv o = .pointer (o.map fun b => ⟨b, 0, none⟩) := by cases o <;> rfl
theorem AR.look {w : World} {base p m aa am room L : Nat} {gs : List IG} (h : AR w base p m aa am room L gs) (s : List UInt8) (hs : s.length ≤ maxLen) : ∀ W, Below w.heap.size w W → (Instr.lookup 46 (.map (some am)) (nmv s) false).run Tryz.prog W = .ok (.pointer ((Mp.look (gpl gs) s).map fun b => ⟨b, 0, none⟩)) W := fun W hW => by
  rw [← pv_beq]
  exact (h.below hW).mp.look Tryz.underlying9 Tryz.underlying46 zero60 s hs
theorem AR.cell {w : World} {base p m aa am room L : Nat} {gs : List IG} (h : AR w base p m aa am room L gs) : (∀ W, Below w.heap.size w W → W.cell? ⟨aa, 0, none⟩ = some (dp p)) ∧ (∀ W, Below w.heap.size w W → W.cell? ⟨aa, 1, none⟩ = some (.map (some am))) := by
  obtain ⟨dn, hdn, h1⟩ := h.ar
  exact ⟨fun W hW => (cell_of (qk_below h1 hW) 0).trans rfl, fun W hW => (cell_of (qk_below h1 hW) 1).trans rfl⟩
set_option maxHeartbeats 2000000 in
theorem rebased_no {w : World} {base p m aa am room L : Nat} {gs : List IG} (h : AR w base p m aa am room L gs) (nm tgt : List UInt8) (ht : tgt.length ≤ maxLen) (hne : tgt ≠ []) (hl : Mp.look (gpl gs) tgt = none) : Calls Tryz.prog 46 #[dp aa, nmv nm, nmv tgt] w fun e w' => e = .returned (.int .i64 4) ∧ Below w.heap.size w w' := by
  have hlk := h.look tgt ht
  rw [hl] at hlk
  simp only [Option.map_none] at hlk
  have hemp : tgt.isEmpty = false := by simpa using hne
  obtain ⟨y0, y1⟩ := h.cell
  clear h hl hne y0
  go_enter Tryz.func46, Tryz.ntmps46
  have b0 := Below.refl w.heap.size w
  have y := y1 w b0
  have hk := hlk w b0
  clear y1 hlk
  go_wp2_with fail
  go_ret
  exact ⟨rfl, b0⟩
set_option maxHeartbeats 2000000 in
set_option maxRecDepth 100000 in
theorem rebased_chk {w : World} {base p m aa am room L : Nat} {gs : List IG} (h : AR w base p m aa am room L gs) (hgl : gs.length ≤ 900) (nm tgt : List UInt8) (hn : nm.length ≤ maxLen) (ht : tgt.length ≤ maxLen) {b : Nat} (hl : Mp.look (gpl gs) tgt = some b) {r : Int} (hr : ckG gs nm tgt = r) (hr0 : r ≠ 0) :
    Calls Tryz.prog 46 #[dp aa, nmv nm, nmv tgt] w fun e w' => e = .returned (.int .i64 r) ∧ Below w.heap.size w w' := by
  have hlk := h.look tgt ht
  rw [hl] at hlk
  simp only [Option.map_some] at hlk
  have H := hid (And.intro h (And.intro hr hr0))
  have hr1 : decide (r = 0) = false := by simpa using hr0
  obtain ⟨y0, y1⟩ := h.cell
  have b0 := Below.refl w.heap.size w
  have y := y1 w b0
  have hk := hlk w b0
  clear y1 hlk y0 h hr b0
  cases hem : tgt.isEmpty
  all_goals
    go_enter Tryz.func46, Tryz.ntmps46
    go_wp2_with fail
    refine (links_any H.out.1 (by omega) nm tgt).mono ?_
    rintro e w1 ⟨lv, os, rfl, ho, hL, hb⟩
    obtain ⟨ga, gn, gc, rfl⟩ := slG_sh ho.slG
    have H1 := hid (And.intro ho (And.intro hL hb))
    clear ho hL hb
    go_wp2_with fail
    refine (check_links (gpl_nodup H.out.1.mp) hgl H1.out.2.1 H.out.1.nm hn ht H1.out.1).mono ?_
    rintro e w2 ⟨rfl, hb⟩
    rw [H.out.2.1]
    have H2 := hid (belT H1.out.2.2 hb)
    clear hb
    go_wp2_with fail
    go_ret
    exact ⟨rfl, H2.out⟩
end Go.Proofs.YtmcllcepoiakeaaGreat
