import Derived.Test.YtbklhhmcigangaaG
namespace Go.Proofs.Ytbklhhmcigangaa
open Go.RowKit Go.Mx Go.Lr
set_option linter.unusedVariables false
set_option linter.unusedSimpArgs false
/-- what a page is after is short -/
def Sm (l : List En) : Prop := ∀ e ∈ l, e.pg.after.length ≤ 1000000
theorem Sm.turned {l : List En} (h : Sm l) (k : Int) (left : Int → Bool) : Sm (turned (looseE k) left l) := by
  intro e he
  obtain ⟨g, hg, rfl⟩ := List.mem_map.1 he
  have h1 := h g hg
  by_cases hl : left g.k
  · simp [hl]; exact h1
  · simp only [hl]
    show (looseE k g).pg.after.length ≤ _
    unfold looseE
    simp only
    split
    · simp
    · have := List.length_filter_le (fun f => !(f == k)) g.pg.after; omega
theorem look_atI {fs : List PR} {s : Int} {b : Nat} (h : Mx.look (plOf fs) s = some b) : ∃ (i : Nat) (f : PR), fs[i]? = some f ∧ f.en.k = s ∧ f.fb = b := by
  induction fs with
  | nil => simp [plOf, look_nil] at h
  | cons f l ih =>
    unfold plOf at h
    rw [List.map_cons, look_cons] at h
    split at h
    · rename_i e; exact ⟨0, f, rfl, e, Option.some.inj h⟩
    · obtain ⟨i, g, hi, hg⟩ := ih h; exact ⟨i + 1, g, by simpa using hi, hg⟩
theorem look_memI {fs : List PR} {f : PR} (h : f ∈ fs) : (Mx.look (plOf fs) f.en.k).isSome = true := by
  cases hl : Mx.look (plOf fs) f.en.k with
  | some b => rfl
  | none => rw [look_none, plOf_names] at hl; exact absurd (List.mem_map.2 ⟨f, h, rfl⟩) hl
theorem plOf_set {fs : List PR} {i : Nat} {f F : PR} (hi : fs[i]? = some f) (hk : F.en.k = f.en.k) (hb : F.fb = f.fb) : plOf (fs.set i F) = plOf fs := by
  unfold plOf
  rw [List.map_set, hk, hb]
  apply List.ext_getElem?
  intro j
  rw [List.getElem?_set]
  split
  · rename_i e; subst e; rw [List.length_map, if_pos (List.getElem?_eq_some_iff.1 hi).1, List.getElem?_map, hi]; rfl
  · rfl
section
variable {w w' : World} {base p m : Nat} {c : CM} {fs : List PR}
theorem CK.blockM (h : CK w base p m c fs All) {i : Nat} {f : PR} (hi : fs[i]? = some f) {w2 : World} (hk : Kept w w2 (fun q => f.av.ownBlock ≠ some q)) (v : Value) : (w2.setCell ⟨f.fb, 3, none⟩ v).heap[m]? = w.heap[m]? := by
  obtain ⟨o, hmo, ho⟩ := h.mapObj
  rw [Below.heap_setCell w2 ⟨f.fb, 3, none⟩ v m (not_cells hmo ho (h.fc i f hi).1).symm]
  exact hk.block m h.mp.lt (ownI_notMap (h.oa i f hi trivial) hmo ho)
theorem CK.nilAfter (h : CK w base p m c fs All) {i : Nat} {f : PR} (hi : fs[i]? = some f) :
    let w3 := w.setCell ⟨f.fb, 3, none⟩ (.slice none 0 0)
    CK w3 base p m { c with all := (fs.set i (afterPR f [] (.slice none 0 0))).map (·.en) } (fs.set i (afterPR f [] (.slice none 0 0))) All ∧ Stp base p m w fs w3 (fs.set i (afterPR f [] (.slice none 0 0))) ∧ w3.heap[m]? = w.heap[m]? := by
  intro w3
  have hk : Kept w w (fun q => f.av.ownBlock ≠ some q) := ⟨Nat.le_refl _, fun _ _ _ => rfl⟩
  have h1 := h.delAfter hi (l' := []) (v' := .slice none 0 0) hk (Below.refl base w) (OwnV.nil _ _ _) (fun q e => by cases e)
  exact ⟨h1.1, h1.2.1, h.blockM hi hk _⟩
/-- what the call of DeleteFunc leaves -/
def DelP (base p m : Nat) (c : CM) (fs : List PR) (w : World) (i : Nat) (f : PR) (k : Int) (v : Value) (w2 : World) : Prop :=
  CK (w2.setCell ⟨f.fb, 3, none⟩ v) base p m { c with all := (fs.set i (afterPR f (f.en.pg.after.filter fun x => !(x == k)) v)).map (·.en) } (fs.set i (afterPR f (f.en.pg.after.filter fun x => !(x == k)) v)) All ∧
  Stp base p m w fs (w2.setCell ⟨f.fb, 3, none⟩ v) (fs.set i (afterPR f (f.en.pg.after.filter fun x => !(x == k)) v)) ∧ (w2.setCell ⟨f.fb, 3, none⟩ v).heap[m]? = w.heap[m]?
theorem CK.del55 (h : CK w base p m c fs All) {i : Nat} {f : PR} (hi : fs[i]? = some f) (k : Int) {r : Nat} (hr : Free p m fs r) (hb : w.heap[r]? = some (.cells #[.int .i64 k] 3 (0, 0))) (hn : f.en.pg.after.length ≤ 1000000) :
    Calls Try.prog 35 #[f.av, .func (.func 55) #[] #[ptr r]] w fun e w2 => ∃ v, e = .returned v ∧ DelP base p m c fs w i f k v w2 ∧ (∃ oa n cp, v = .slice oa n cp) ∧ w2.cell? ⟨f.fb, 3, none⟩ = some f.av ∧ w2.frozen? ⟨f.fb, 3, none⟩ = false := by
  have hne : f.av.ownBlock ≠ some r := (hr.2.2 i f hi).2
  refine (delf55 f.en.pg.after f.av (fun x => x == k) r base w (h.oa i f hi trivial) (by omega) h.base_le ?_).mono ?_
  · intro w' hk x _
    refine clo55 x k r w' ?_
    have := (hk.block r (blk_lt hb) hne).trans hb
    simp [World.cell?, this]
  · rintro e w2 ⟨v, rfl, ho, hk, hbl, hv⟩
    have h1 := h.delAfter hi hk hbl ho hv
    exact ⟨v, rfl, ⟨h1.1, h1.2.1, h.blockM hi hk v⟩, ownG_shape (ownI_G ho), h1.2.2⟩
set_option maxRecDepth 100000 in
set_option maxHeartbeats 1000000 in
theorem loose_any (h : CK w base p m c fs All) (k : Int) (hs : Sm c.all) :
    Calls Try.prog 31 #[cp p, .int .i64 k] w fun e w' => e = .returned (.tuple #[]) ∧ ∃ fs', CK w' base p m { c with all := Lr.loose c.all k } fs' All ∧ plOf fs' = plOf fs ∧ Stp base p m w fs w' fs' := by
  have hal : Below w.heap.size w (w.alloc (.cells #[.int .i64 k] 3)) := (Below.refl _ _).alloc (Nat.le_refl _) _
  have h1 := h.below hal
  have hmp := h1.mp
  have hbox := alloc_new w (.cells #[.int .i64 k] 3)
  have hsz1 : (w.alloc (.cells #[.int .i64 k] 3)).heap.size = w.heap.size + 1 := by simp
  have c1 := h1.cells.2.1
  have H := hid (And.intro h (And.intro h1 hs))
  have HB := hid (And.intro h.base_le (And.intro hal hbox))
  clear h h1 hs hal hbox
  go_enter Try.func31, Try.ntmps31
  go_wp2_with (first
    | (at_range; refine range_pm _ rfl _ rfl Try.underlying3 Try.underlying56 rfl hmp ?_; intro w0 hrg0 hg0 hs0)
    | go_in)
  rw [hsz1] at hrg0 ⊢
  go_frame
  go_loopw [4] (fun _ wr => ∃ (left : Int → Bool) (cnt : Nat) (fs' : List PR), RG Try.prog 3 wr m (w.heap.size + 1) (plOf fs) left cnt ∧ plOf fs' = plOf fs ∧ CK wr base p m { c with all := turned (looseE k) left c.all } fs' All ∧ Stp base p m w fs wr fs' ∧
      Free p m fs' w.heap.size ∧ Free p m fs' (w.heap.size + 1) ∧ wr.heap[w.heap.size]? = some (.cells #[.int .i64 k] 3 (0, 0)) ∧ w.heap.size + 1 < wr.heap.size) (fun _ wr => wr.rangeLeft m (w.heap.size + 1))
  case atStart =>
    have hb0 : Below (w.heap.size + 1) (w.alloc (.cells #[.int .i64 k] 3)) w0 := (Below.refl _ _).grown hg0 (by rw [hsz1]; omega) (by simp)
    have e : turned (looseE k) (fun s => (Mx.look (plOf fs) s).isSome) c.all = c.all := turned_all _ _ _ fun g hg => by
      rw [H.out.1.all] at hg
      obtain ⟨f, hf, rfl⟩ := List.mem_map.1 hg
      exact look_memI hf
    have hb02 : Below w.heap.size w w0 := HB.out.2.1.trans (hb0.mono (by omega))
    refine ⟨_, _, fs, hrg0, rfl, ?_, Stp.of_below hb02 HB.out.1, H.out.1.free_new (Nat.le_refl _), H.out.1.free_new (Nat.le_succ _), (hb0.block _ (by omega)).trans HB.out.2.2, by rw [hs0, hsz1]; omega⟩
    rw [e]
    exact H.out.1.below hb02
  case round =>
    obtain ⟨left, cnt, fs', hrg, hpl', hD, hS, hfr, hfr2, hbox, hsz⟩ := hrel
    clear hrg0 hg0 hs0 c1
    obtain ⟨wO, hwO⟩ : ∃ x, x = wr := ⟨_, rfl⟩
    subst hwO
    go_wp2_with (first
      | (at_next; refine next_pm _ rfl _ rfl Try.underlying3 (w.heap.size + 1) _ _ rfl hrg ?_ ?_)
      | go_in)
    · intro hl0
      rw [turned_none _ _ _ hl0] at hD
      have HD := hid (And.intro hD (And.intro hpl' hS))
      clear hD hrg hpl' hS hl0 hfr hfr2 hbox
      go_wp2_with fail
      go_end0
      exact ⟨rfl, fs', HD.out.1, HD.out.2.1, HD.out.2.2⟩
    · intro s b w1 cnt1 hlk hls hrg1 hlt hg1 hs1 hen
      rw [← hpl'] at hlk
      obtain ⟨i, f, hi, rfl, rfl⟩ := look_atI hlk
      obtain ⟨ia, ib, ic, hit⟩ := hrg.iter
      have hkr : Kept wO w1 (fun q => q ≠ w.heap.size + 1) := Kept.grown hg1 fun k hk hN => by cases hk; exact hN rfl
      have hD1 := hD.other hfr2 hkr (fun c f e => by rw [hit] at e; cases e)
      have hbr : Below base wO w1 := (Below.refl base wO).grown hg1 hD.base_le (fun k hk => by cases hk; have := HB.out.1; omega)
      have hS1 : Stp base p m w fs w1 fs' := ⟨hS.bel.trans hbr, ⟨by have := hS.kept.size; have := hkr.size; omega, fun q hq hf => (hkr.block q (by have := hS.kept.size; omega) (by omega)).trans (hS.kept.block q hq hf)⟩, hS.free⟩
      have hbox1 : w1.heap[w.heap.size]? = some (.cells #[.int .i64 k] 3 (0, 0)) := (hkr.block _ (by omega) (by omega)).trans hbox
      have hsm : f.en.pg.after.length ≤ 1000000 := by
        refine H.out.2.2.turned k left f.en ?_
        have e : turned (looseE k) left c.all = fs'.map (·.en) := hD.all
        rw [e]; exact List.mem_map.2 ⟨f, List.mem_of_getElem? hi, rfl⟩
      have hln : (c.all.map (·.k)).Nodup := by
        have := H.out.1.nodup
        rwa [H.out.1.all, List.map_map]
      have hset := fun (F : PR) (hF : F.en = looseE k f.en) => turned_set (F := F) hD.all hD.nodup hi rfl hls hln hF
      -- what stands behind a round
      have HEND : Hid (∀ (w3 : World) (F : PR), F.en = looseE k f.en → F.fb = f.fb → CK w3 base p m { c with all := (fs'.set i F).map (·.en) } (fs'.set i F) All → Stp base p m w1 fs' w3 (fs'.set i F) → w3.heap[m]? = w1.heap[m]? →
          RG Try.prog 3 w3 m (w.heap.size + 1) (plOf fs) (fun t => left t && !(t == f.en.k)) cnt1 ∧ plOf (fs'.set i F) = plOf fs ∧ CK w3 base p m { c with all := turned (looseE k) (fun t => left t && !(t == f.en.k)) c.all } (fs'.set i F) All ∧ Stp base p m w fs w3 (fs'.set i F) ∧
          Free p m (fs'.set i F) w.heap.size ∧ Free p m (fs'.set i F) (w.heap.size + 1) ∧ w3.heap[w.heap.size]? = some (.cells #[.int .i64 k] 3 (0, 0)) ∧ w.heap.size + 1 < w3.heap.size) := hid fun w3 F hF hFb h3 s3 m3 => by
        have hs1' : w.heap.size + 1 < w1.heap.size := by omega
        refine ⟨hrg1.blocks m3 (s3.kept.block _ hs1' hfr2), ?_, ?_, hS1.trans s3, s3.free _ (by omega) hfr, s3.free _ hs1' hfr2, (s3.kept.block _ (by omega) hfr).trans hbox1, by have := s3.kept.size; omega⟩
        · rw [plOf_set hi (by rw [hF]; rfl) hFb]; exact hpl'
        · rw [← hset F hF]; exact h3
      have hms : w1.rangeLeft m (w.heap.size + 1) = cnt1 := hrg1.left_eq
      have HM := hid (And.intro hrg.left_eq hlt)
      obtain ⟨d0, d1, d2, d3, dz⟩ := hD1.pcells hi
      have HN := hid (And.intro hi (And.intro hsm hD1))
      obtain ⟨va, vn, vc, hav⟩ := hD1.sa i f hi
      have HF := hid hfr
      clear hln hset hrg hrg1 hpl' hD hS hfr2 hbox hsz hlt hg1 hs1 hlk hls hit hkr hbr hS1 hsm d0 d1 d2 hms hfr
      by_cases hkk : f.en.k = k
      · have hn := HN.out.2.2.nilAfter HN.out.1
        have hi2 : (fs'.set i (afterPR f [] (.slice none 0 0)))[i]? = some (afterPR f [] (.slice none 0 0)) := List.getElem?_set_self (List.getElem?_eq_some_iff.1 HN.out.1).1
        obtain ⟨w2, hw2⟩ : ∃ x, x = w1.setCell ⟨f.fb, 3, none⟩ (.slice none 0 0) := ⟨_, rfl⟩
        rw [← hw2] at hn
        have hf2 := hn.2.1.free _ (blk_lt hbox1) HF.out
        have hcall := hn.1.del55 hi2 k hf2 ((hn.2.1.kept.block _ (blk_lt hbox1) HF.out).trans hbox1) (by simp [afterPR])
        have hcell := (hn.1.pcells hi2).2.2.2.1
        have hfz := (hn.1.pcells hi2).2.2.2.2
        obtain ⟨fb, hfb⟩ : ∃ x, x = f.fb := ⟨_, rfl⟩
        rw [← hfb] at d3 dz hw2 hen
        have hcell : w2.cell? ⟨fb, 3, none⟩ = some (.slice none 0 0) := by rw [hfb]; exact hcell
        have hfz : ∀ j, w2.frozen? ⟨fb, j, none⟩ = false := by rw [hfb]; exact hfz
        have HC : Hid (Calls Try.prog 35 #[.slice none 0 0, .func (.func 55) #[] #[ptr w.heap.size]] w2 fun e w3 => ∃ v, e = .returned v ∧ DelP base p m _ _ w2 i (afterPR f [] (.slice none 0 0)) k v w3 ∧ (∃ oa n cp, v = .slice oa n cp) ∧ w3.cell? ⟨fb, 3, none⟩ = some (.slice none 0 0) ∧ w3.frozen? ⟨fb, 3, none⟩ = false) := hid (by rw [hfb]; exact hcall)
        have HFB := hid (And.intro hfb hn)
        have hkb : ((f.en.k : Int) == k) = true := by simpa using hkk
        have hbc : w1.cell? ⟨w.heap.size, 0, none⟩ = some (.int .i64 k) := by simp [World.cell?, hbox1]
        have HKK := hid hkk
        clear hfb hn hcall hbox1 hi2 hf2 hkk
        go_wp2_with fail
        rw [← hw2]
        go_wp2_with fail
        refine HC.out.mono ?_
        rintro e w3 ⟨v, rfl, hP, ⟨oa, vn, vc, rfl⟩, e3, z3⟩
        have hF : (afterPR (afterPR f [] (.slice none 0 0)) (List.filter (fun x => !(x == k)) []) (.slice oa vn vc)).en = looseE k f.en := by
          unfold afterPR looseE; simp only [hkb, if_true, List.filter_nil]
        have HP := hid (HEND.out _ (afterPR (afterPR f [] (.slice none 0 0)) (List.filter (fun x => !(x == k)) []) (.slice oa vn vc)) hF rfl (by have := hP.1; rw [List.set_set] at this; exact this) (by
          have := HFB.out.2.2.1.trans hP.2.1; rw [List.set_set] at this; exact this) (hP.2.2.trans HFB.out.2.2.2))
        rw [show (afterPR f [] (.slice none 0 0)).fb = fb from HFB.out.1.symm] at HP
        clear hP hF
        go_wp2_with fail
        go_roundw
        case rel => exact ⟨_, _, _, HP.out⟩
        case measure =>
          rw [HP.out.1.left_eq, HM.out.1]; exact HM.out.2
      · have hcall := HN.out.2.2.del55 HN.out.1 k HF.out hbox1 HN.out.2.1
        obtain ⟨fb, hfb⟩ : ∃ x, x = f.fb := ⟨_, rfl⟩
        rw [hav] at hcall d3
        rw [← hfb] at d3 dz hen hcall
        have HC := hid hcall
        have hkb : ((f.en.k : Int) == k) = false := by simpa using hkk
        have hbc : w1.cell? ⟨w.heap.size, 0, none⟩ = some (.int .i64 k) := by simp [World.cell?, hbox1]
        have HFB := hid hfb
        clear hfb hcall hbox1 hkk
        go_wp2_with fail
        refine HC.out.mono ?_
        rintro e w3 ⟨v, rfl, hP, ⟨oa, vn, vc, rfl⟩, e3, z3⟩
        have hF : (afterPR f (List.filter (fun x => !(x == k)) f.en.pg.after) (.slice oa vn vc)).en = looseE k f.en := by
          unfold afterPR looseE; simp only [hkb]; rfl
        have HP := hid (HEND.out _ (afterPR f (List.filter (fun x => !(x == k)) f.en.pg.after) (.slice oa vn vc)) hF rfl hP.1 hP.2.1 hP.2.2)
        rw [← HFB.out] at HP
        clear hP hF
        go_wp2_with fail
        go_roundw
        case rel => exact ⟨_, _, _, HP.out⟩
        case measure =>
          rw [HP.out.1.left_eq, HM.out.1]; exact HM.out.2
end
end Go.Proofs.Ytbklhhmcigangaa
