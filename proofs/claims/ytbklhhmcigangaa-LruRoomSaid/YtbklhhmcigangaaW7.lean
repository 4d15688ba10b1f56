import Derived.Test.YtbklhhmcigangaaW6
import Derived.BigQuiet
import Derived.StillTailTactics
import Derived.Deep.RegionHeld3
import Derived.Deep.RegionLaw
namespace Go.Proofs.Ytbklhhmcigangaa
open Go.RowKit Go.Mx Go.Lr Go.Maps
set_option linter.unusedVariables false
set_option linter.unusedSimpArgs false
section
variable {w w' : World} {base p m : Nat} {c : CM} {fs : List PR}
theorem copy_perm (l : List En) (hn : (l.map (·.k)).Nodup) (left : Int → Bool) (e : En) (he : e ∈ l) (hl : left e.k = true) (ky : Int) (hk : ky = e.k) : ((l.filter fun e => !left e.k) ++ [e]).Perm (l.filter fun e => !(left e.k && !(e.k == ky))) := by
  subst hk
  have hnl : l.Nodup := List.Pairwise.of_map (·.k) (fun a b hab e => hab (by rw [e])) hn
  have huniq : ∀ g ∈ l, g.k = e.k → g = e := fun g hg hk => by
    obtain ⟨i, hi⟩ := List.getElem?_of_mem hg
    obtain ⟨j, hj⟩ := List.getElem?_of_mem he
    have h1 : (l.map (·.k))[i]? = some e.k := by rw [List.getElem?_map, hi]; simp [hk]
    have h2 : (l.map (·.k))[j]? = some e.k := by rw [List.getElem?_map, hj]; rfl
    obtain ⟨l1, e1⟩ := List.getElem?_eq_some_iff.1 h1
    obtain ⟨l2, e2⟩ := List.getElem?_eq_some_iff.1 h2
    have key := List.pairwise_iff_getElem.1 hn
    have hij : i = j := by
      rcases Nat.lt_trichotomy i j with h3 | h3 | h3
      · exact absurd (e1.trans e2.symm) (key i j l1 l2 h3)
      · exact h3
      · exact absurd (e2.trans e1.symm) (key j i l2 l1 h3)
    subst hij; rw [hi] at hj; exact Option.some.inj hj
  refine (List.perm_ext_iff_of_nodup ?_ (hnl.filter _)).2 fun g => ?_
  · rw [List.nodup_append]
    refine ⟨hnl.filter _, by simp, fun a ha b hb => ?_⟩
    simp at hb; subst hb
    rintro rfl
    have := (List.mem_filter.1 ha).2
    rw [hl] at this; cases this
  · rw [List.mem_append, List.mem_filter, List.mem_filter]
    constructor
    · rintro (⟨h1, h2⟩ | h1)
      · refine ⟨h1, ?_⟩
        simp only [Bool.not_eq_true'] at h2
        rw [h2]; rfl
      · simp at h1; subst h1; exact ⟨he, by simp⟩
    · rintro ⟨h1, h2⟩
      by_cases hg : g.k = e.k
      · right; simp [huniq g h1 hg]
      · left
        refine ⟨h1, ?_⟩
        have : (g.k == e.k) = false := by simpa using hg
        rw [this] at h2
        simpa using h2
set_option maxRecDepth 100000 in
set_option maxHeartbeats 1000000 in
theorem copy_any (h : CK w base p m c fs All) (hu : c.uses ≤ 1000000000) (hbl : ∀ e ∈ c.all, e.pg.b.length ≤ 1000000) (hs : Sm c.all) (hl : c.all.length ≤ 1000000) :
    Calls Try.prog 23 #[cp p] w fun e w' => e = .returned (cp (w.heap.size + 1)) ∧ Below w.heap.size w w' ∧ ∃ fs', CK w' w.heap.size (w.heap.size + 1) w.heap.size c fs' All := by
  obtain ⟨c0, c1, c2, cz⟩ := h.cells
  have h0 := new_ck w c.room
  have hb0 : Below w.heap.size w ((w.alloc (.map #[] 0)).alloc (.cells #[.int .i64 c.room, .map (some w.heap.size), .int .i64 0] 63)) := ((Below.refl _ _).alloc (Nat.le_refl _) _).alloc (by simp) _
  have hmm := @run_makeMap Try.prog
  obtain ⟨w1, hw1⟩ : ∃ x, x = (w.alloc (.map #[] 0)).alloc (.cells #[.int .i64 c.room, .map (some w.heap.size), .int .i64 0] 63) := ⟨_, rfl⟩
  have hz1 : w1.heap.size = w.heap.size + 2 := by rw [hw1]; simp
  have HW := hid hw1
  rw [← hw1] at h0 hb0
  have hld := load_any p (c.uses : Int) w1.drew ((hb0.drew.cell (p := ⟨p, 2, none⟩) h.plt).trans c2)
  have hst := store_any (w.heap.size + 1) 0 (c.uses : Int) w1.drew ((h0.below (Below.refl _ _).drew).cells.2.2.1) ((h0.below (Below.refl _ _).drew).cells.2.2.2 2)
  have h2 := ((h0.setUses c.uses).1).below (Below.refl _ _).drew
  have hb2 : Below w.heap.size w (w1.setCell ⟨w.heap.size + 1, 2, none⟩ (.int .i64 c.uses)).drew := (hb0.setCell (p := ⟨w.heap.size + 1, 2, none⟩) (Nat.le_succ _) _).drew
  have hz2 : (w1.setCell ⟨w.heap.size + 1, 2, none⟩ (.int .i64 c.uses)).drew.heap.size = w.heap.size + 2 := by
    have := hb0.size
    show (w1.setCell ⟨w.heap.size + 1, 2, none⟩ (.int .i64 c.uses)).heap.size = _
    simp [hz1]
  have HL := hid hld
  have HT := hid hst
  have H := hid (And.intro h (And.intro hu (And.intro hbl (And.intro hs hl))))
  clear h hu hbl hs hl hld hst hw1
  go_enter Try.func23, Try.ntmps23
  go_wp2_with fail
  rw [← HW.out]
  go_region_with (first
    | (go_at_call 46; refine HL.out.mono ?_; rintro e w' ⟨rfl, rfl⟩)
    | (go_at_call 45; refine HT.out.mono ?_; rintro e w' ⟨rfl, rfl⟩))
  obtain ⟨w2, hw2⟩ : ∃ x, x = (w1.setCell ⟨w.heap.size + 1, 2, none⟩ (.int .i64 c.uses)).drew := ⟨_, rfl⟩
  rw [← hw2] at h2 hb2 hz2 ⊢
  have hmp := (H.out.1.below hb2).mp
  have c12 : w2.cell? ⟨p, 1, none⟩ = some (.map (some m)) := (hb2.cell (p := ⟨p, 1, none⟩) H.out.1.plt).trans c1
  have H2 := hid (And.intro h2 hb2)
  clear h2 hb2 h0 hb0 c0 c1 c2 cz hmm hw2 HL HT HW hz1
  go_wp2_with (first
    | (at_range; refine range_pm _ rfl _ rfl Try.underlying3 Try.underlying56 rfl hmp ?_; intro w0 hrg0 hg0 hs0)
    | go_in)
  rw [hz2] at hrg0 ⊢
  go_frame
  go_loopw [4] (fun _ wr => ∃ (left : Int → Bool) (cnt : Nat) (fs2 : List PR), RG Try.prog 3 wr m (w.heap.size + 2) (plOf fs) left cnt ∧ Below w.heap.size w wr ∧ CK wr w.heap.size (w.heap.size + 1) w.heap.size { c with all := c.all.filter fun e => !left e.k } fs2 All ∧ Free (w.heap.size + 1) w.heap.size fs2 (w.heap.size + 2)) (fun _ wr => wr.rangeLeft m (w.heap.size + 2))
  case atStart =>
    have hb0 : Below (w.heap.size + 2) w2 w0 := (Below.refl _ _).grown hg0 (by omega) (by simp)
    refine ⟨_, _, [], hrg0, H2.out.2.trans (hb0.mono (by omega)), ?_, ⟨by omega, by omega, by simp⟩⟩
    have e : c.all.filter (fun e => !(Mx.look (plOf fs) e.k).isSome) = [] := by
      rw [List.filter_eq_nil_iff]
      intro g hg
      rw [H.out.1.all] at hg
      obtain ⟨f, hf, rfl⟩ := List.mem_map.1 hg
      simp [look_memI hf]
    rw [e]
    exact H2.out.1.below (by rw [hz2]; exact hb0)
  case round =>
    obtain ⟨left, cnt, fs2, hrg, hb, hD, hfr⟩ := hrel
    clear hrg0 hg0 hs0 c12 hmp
    obtain ⟨wO, hwO⟩ : ∃ x, x = wr := ⟨_, rfl⟩
    subst hwO
    go_wp2_with (first
      | (at_next; refine next_pm _ rfl _ rfl Try.underlying3 (w.heap.size + 2) _ _ rfl hrg ?_ ?_)
      | go_in)
    · intro hl0
      have e : c.all.filter (fun e => !left e.k) = c.all := List.filter_eq_self.2 fun e _ => by rw [hl0]; rfl
      rw [e] at hD
      have HD := hid (And.intro hD hb)
      clear hD hb hrg hfr hl0 e
      go_wp2_with fail
      go_ret
      exact ⟨rfl, HD.out.2, fs2, HD.out.1⟩
    · intro s b w3 cnt1 hlk hls hrg1 hlt hg1 hs1 hen
      obtain ⟨i, f, hi, rfl, rfl⟩ := look_atI hlk
      obtain ⟨ia, ib, ic, hit⟩ := hrg.iter
      have hkr : Kept wO w3 (fun q => q ≠ w.heap.size + 2) := Kept.grown hg1 fun k hk hN => by cases hk; exact hN rfl
      have hD1 := hD.other hfr hkr (fun c f e => by rw [hit] at e; cases e)
      have hbr : Below w.heap.size w w3 := hb.trans ((Below.refl w.heap.size wO).grown hg1 (by have := hb.size; omega) (fun k hk => by cases hk; omega))
      have hS := H.out.1.below hbr
      obtain ⟨d0, d1, d2, d3, dz⟩ := hS.pcells hi
      obtain ⟨ba, bn, bc, hbv⟩ := hS.sb i f hi
      obtain ⟨va, vn, vc, hav⟩ := hS.sa i f hi
      have hob := hS.ob i f hi
      have hoa := hS.oa i f hi trivial
      have hbl9 : f.en.pg.b.length ≤ 1000000 := H.out.2.2.1 f.en (by rw [H.out.1.all]; exact List.mem_map_of_mem (List.mem_of_getElem? hi))
      have hal9 : f.en.pg.after.length ≤ 1000000 := H.out.2.2.2.1 f.en (by rw [H.out.1.all]; exact List.mem_map_of_mem (List.mem_of_getElem? hi))
      have hflt := blk_lt (H.out.1.fc i f hi).1
      have hfne : f.fb ≠ w.heap.size := by omega
      -- what a clone answers
      have HCB : Hid (∀ w', Kept w3 w' (fun q => q ≠ w.heap.size) → Calls Try.prog 27 #[f.bv] w' fun e w'' => ∃ v', e = .returned v' ∧ OwnB w'' w3.heap.size 5 v' f.en.pg.b ∧ Kept w3 w'' (fun q => q ≠ w.heap.size) ∧ Below w'.heap.size w' w'' ∧ ∃ oa n c, v' = .slice oa n c) := hid fun w' hk => by
        have h1 : OwnB w' base 5 f.bv f.en.pg.b := hob.kept hk fun q e => by
          have := (H.out.1.ob i f hi).lt q e
          omega
        refine (clone_b f.bv f.en.pg.b w'.heap.size w' h1.slB (Nat.le_refl _) hbl9).mono fun e w'' ⟨v', he, ho, hb9⟩ => ⟨v', he, ho.any_base hk.size, hk.trans (Kept.of_below hb9 fun _ h _ => h), hb9, slB_shape ho.slB⟩
      have HCI : Hid (∀ w', Kept w3 w' (fun q => q ≠ w.heap.size) → Calls Try.prog 47 #[f.av] w' fun e w'' => ∃ v', e = .returned v' ∧ OwnI w'' w3.heap.size v' f.en.pg.after ∧ Kept w3 w'' (fun q => q ≠ w.heap.size) ∧ Below w'.heap.size w' w'' ∧ ∃ oa n c, v' = .slice oa n c) := hid fun w' hk => by
        have h1 : OwnI w' base f.av f.en.pg.after := ownI_kept hoa hk fun q e => by
          have := OwnV.lt (H.out.1.oa i f hi trivial) q e
          omega
        refine (clone_i f.av f.en.pg.after base w' h1 hal9).mono fun e w'' ⟨v', he, ho, hb9⟩ => ⟨v', he, OwnV.any_base ho hk.size, hk.trans (Kept.of_below hb9 fun _ h _ => h), hb9, ownG_shape (ownI_G ho)⟩
      rw [hbv] at HCB d0
      rw [hav] at HCI d3
      have hcl : ∀ (j : Nat) (u : Value), w3.cell? ⟨f.fb, j, none⟩ = some u → ∀ w', Kept w3 w' (fun q => q ≠ w.heap.size) → w'.cell? ⟨f.fb, j, none⟩ = some u := fun j u hu w' hk => (hk.cell (by have := hbr.size; omega) hfne).trans hu
      have e0 := hcl 0 _ d0
      have e1 := hcl 1 _ d1
      have e2 := hcl 2 _ d2
      have e3 := hcl 3 _ d3
      have em : ∀ w', Kept w3 w' (fun q => q ≠ w.heap.size) → w'.cell? ⟨w.heap.size + 1, 1, none⟩ = some (.map (some w.heap.size)) := fun w' hk => (hk.cell (by have := hD1.plt; exact this) (by omega)).trans hD1.cells.2.1
      obtain ⟨fb, hfb⟩ : ∃ y, y = f.fb := ⟨_, rfl⟩
      obtain ⟨ky, hK⟩ : ∃ y, y = f.en.k := ⟨_, rfl⟩
      obtain ⟨dd, hdd⟩ : ∃ y, y = f.en.pg.dirty := ⟨_, rfl⟩
      obtain ⟨us, hus⟩ : ∃ y, y = f.en.pg.used := ⟨_, rfl⟩
      obtain ⟨B, hB⟩ : ∃ y, y = f.en.pg.b := ⟨_, rfl⟩
      obtain ⟨A, hA⟩ : ∃ y, y = f.en.pg.after := ⟨_, rfl⟩
      rw [← hfb] at e0 e1 e2 e3 hen
      rw [← hK] at hen hls
      rw [← hdd] at e1
      rw [← hus] at e2
      rw [← hB] at HCB
      rw [← hA] at HCI
      have hKI : isI ky := by rw [hK]; exact hS.ksI f.en (by rw [H.out.1.all]; exact List.mem_map_of_mem (List.mem_of_getElem? hi))
      have HQ := hid (And.intro hfb (And.intro hK (And.intro hdd (And.intro hus (And.intro hB hA)))))
      have HN := hid (And.intro hD1 (And.intro hbr (And.intro hrg1 (And.intro hi (And.intro hls (And.intro hfr (And.intro hkr hs1)))))))
      have HM := hid (And.intro hrg.left_eq hlt)
      have hr0 : (0:Nat) = 0 := rfl
      clear hrg hrg1 hb hD hD1 hfr hkr hbr hS hob hoa hcl d0 d1 d2 d3 dz hlk hit hlt hg1 hi hbv hav hfb hK hdd hus hB hA hfne hflt hbl9 hal9 hr0
      go_wp2_with fail
      refine wp_region_held_drew (S := fun w' => Kept w3 w' (fun q => q ≠ w.heap.size)) (by kernel_rfl) (by exact Kept.drew _ _) (fun hHeld => ?_)
      refine wpAnyH_take (i := 0) (v := ?_) rfl (by kernel_rfl) (by kernel_rfl) (by kernel_rfl) (fun _ _ _ h => h) (Or.inl ⟨by rfl, ?_⟩) (by assumption) ?_
      rotate_left
      · (intro w hSw; (try dsimp only at hSw); go_simp; try (with_reducible rfl))
      try simp only [Act.put, List.getElem_toArray, List.getElem_cons_succ, List.getElem_cons_zero, List.setIfInBounds_toArray, List.set_cons_zero, List.set_cons_succ]
      refine wpAnyH_take (i := 1) (v := ?_) rfl (by kernel_rfl) (by kernel_rfl) (by kernel_rfl) (fun _ _ _ h => h) (Or.inl ⟨by rfl, ?_⟩) (by assumption) ?_
      rotate_left
      · (intro w hSw; (try dsimp only at hSw); go_simp; try (with_reducible rfl))
      try simp only [Act.put, List.getElem_toArray, List.getElem_cons_succ, List.getElem_cons_zero, List.setIfInBounds_toArray, List.set_cons_zero, List.set_cons_succ]
      refine wpAnyH_take (i := 2) (v := ?_) rfl (by kernel_rfl) (by kernel_rfl) (by kernel_rfl) (fun _ _ _ h => h) (Or.inl ⟨by rfl, ?_⟩) (by assumption) ?_
      rotate_left
      · (intro w hSw; (try dsimp only at hSw); go_simp; try (with_reducible rfl))
      try simp only [Act.put, List.getElem_toArray, List.getElem_cons_succ, List.getElem_cons_zero, List.setIfInBounds_toArray, List.set_cons_zero, List.set_cons_succ]
      refine wpAnyH_take (i := 3) (v := ?_) rfl (by kernel_rfl) (by kernel_rfl) (by kernel_rfl) (fun _ _ _ h => h) (Or.inl ⟨by rfl, ?_⟩) (by assumption) ?_
      rotate_left
      · (intro w hSw; (try dsimp only at hSw); go_simp; try (with_reducible rfl))
      try simp only [Act.put, List.getElem_toArray, List.getElem_cons_succ, List.getElem_cons_zero, List.setIfInBounds_toArray, List.set_cons_zero, List.set_cons_succ]
      refine wpAnyH_take (i := 4) (v := ?_) rfl (by kernel_rfl) (by kernel_rfl) (by kernel_rfl) (fun _ _ _ h => h) (Or.inl ⟨by rfl, ?_⟩) (by assumption) ?_
      rotate_left
      · (intro w hSw; (try dsimp only at hSw); go_simp; try (with_reducible rfl))
      try simp only [Act.put, List.getElem_toArray, List.getElem_cons_succ, List.getElem_cons_zero, List.setIfInBounds_toArray, List.set_cons_zero, List.set_cons_succ]
      refine wpAnyH_take (i := 5) (v := ?_) rfl (by kernel_rfl) (by kernel_rfl) (by kernel_rfl) (fun _ _ _ h => h) (Or.inl ⟨by rfl, ?_⟩) (by assumption) ?_
      rotate_left
      · (intro w hSw; (try dsimp only at hSw); go_simp; try (with_reducible rfl))
      try simp only [Act.put, List.getElem_toArray, List.getElem_cons_succ, List.getElem_cons_zero, List.setIfInBounds_toArray, List.set_cons_zero, List.set_cons_succ]
      refine wpAnyH_take (i := 6) (v := ?_) rfl (by kernel_rfl) (by kernel_rfl) (by kernel_rfl) (fun _ _ _ h => h) (Or.inl ⟨by rfl, ?_⟩) (by assumption) ?_
      rotate_left
      · (intro w hSw; (try dsimp only at hSw); go_simp; try (with_reducible rfl))
      try simp only [Act.put, List.getElem_toArray, List.getElem_cons_succ, List.getElem_cons_zero, List.setIfInBounds_toArray, List.set_cons_zero, List.set_cons_succ]
      refine wpAnyH_take (i := 7) (v := ?_) rfl (by kernel_rfl) (by kernel_rfl) (by kernel_rfl) (fun _ _ _ h => h) (Or.inl ⟨by rfl, ?_⟩) (by assumption) ?_
      rotate_left
      · (intro w hSw; (try dsimp only at hSw); go_simp; try (with_reducible rfl))
      try simp only [Act.put, List.getElem_toArray, List.getElem_cons_succ, List.getElem_cons_zero, List.setIfInBounds_toArray, List.set_cons_zero, List.set_cons_succ]
      refine wpAnyH_take (i := 8) (v := ?_) rfl (by kernel_rfl) (by kernel_rfl) (by kernel_rfl) (fun _ _ _ h => h) (Or.inl ⟨by rfl, ?_⟩) (by assumption) ?_
      rotate_left
      · (intro w hSw; (try dsimp only at hSw); go_simp; try (with_reducible rfl))
      try simp only [Act.put, List.getElem_toArray, List.getElem_cons_succ, List.getElem_cons_zero, List.setIfInBounds_toArray, List.set_cons_zero, List.set_cons_succ]
      refine wpAnyH_take (i := 10) (v := ?_) rfl (by kernel_rfl) (by kernel_rfl) (by kernel_rfl) (fun _ _ _ h => h) (Or.inl ⟨by rfl, ?_⟩) (by assumption) ?_
      rotate_left
      · (intro w hSw; (try dsimp only at hSw); go_simp; try (with_reducible rfl))
      try simp only [Act.put, List.getElem_toArray, List.getElem_cons_succ, List.getElem_cons_zero, List.setIfInBounds_toArray, List.set_cons_zero, List.set_cons_succ]
      refine wpAnyH_take (i := 11) (v := ?_) rfl (by kernel_rfl) (by kernel_rfl) (by kernel_rfl) (fun _ _ _ h => h) (Or.inl ⟨by rfl, ?_⟩) (by assumption) ?_
      rotate_left
      · (intro w hSw; (try dsimp only at hSw); go_simp; try (with_reducible rfl))
      try simp only [Act.put, List.getElem_toArray, List.getElem_cons_succ, List.getElem_cons_zero, List.setIfInBounds_toArray, List.set_cons_zero, List.set_cons_succ]
      refine wpAnyH_take (i := 12) (v := ?_) rfl (by kernel_rfl) (by kernel_rfl) (by kernel_rfl) (fun _ _ _ h => h) (Or.inl ⟨by rfl, ?_⟩) (by assumption) ?_
      rotate_left
      · (intro w hSw; (try dsimp only at hSw); go_simp; try (with_reducible rfl))
      try simp only [Act.put, List.getElem_toArray, List.getElem_cons_succ, List.getElem_cons_zero, List.setIfInBounds_toArray, List.set_cons_zero, List.set_cons_succ]
      refine wpAnyH_take (i := 13) (v := ?_) rfl (by kernel_rfl) (by kernel_rfl) (by kernel_rfl) (fun _ _ _ h => h) (Or.inl ⟨by rfl, ?_⟩) (by assumption) ?_
      rotate_left
      · (intro w hSw; (try dsimp only at hSw); go_simp; try (with_reducible rfl))
      try simp only [Act.put, List.getElem_toArray, List.getElem_cons_succ, List.getElem_cons_zero, List.setIfInBounds_toArray, List.set_cons_zero, List.set_cons_succ]
      refine wpAnyH_take (i := 14) (v := ?_) rfl (by kernel_rfl) (by kernel_rfl) (by kernel_rfl) (fun _ _ _ h => h) (Or.inl ⟨by rfl, ?_⟩) (by assumption) ?_
      rotate_left
      · (intro w hSw; (try dsimp only at hSw); go_simp; try (with_reducible rfl))
      try simp only [Act.put, List.getElem_toArray, List.getElem_cons_succ, List.getElem_cons_zero, List.setIfInBounds_toArray, List.set_cons_zero, List.set_cons_succ]
      refine wpAnyH_take (i := 15) (v := ?_) rfl (by kernel_rfl) (by kernel_rfl) (by kernel_rfl) (fun _ _ _ h => h) (Or.inl ⟨by rfl, ?_⟩) (by assumption) ?_
      rotate_left
      · (intro w hSw; (try dsimp only at hSw); go_simp; try (with_reducible rfl))
      try simp only [Act.put, List.getElem_toArray, List.getElem_cons_succ, List.getElem_cons_zero, List.setIfInBounds_toArray, List.set_cons_zero, List.set_cons_succ]
      refine wpAnyH_take (i := 16) (v := ?_) rfl (by kernel_rfl) (by kernel_rfl) (by kernel_rfl) (fun _ _ _ h => h) (Or.inl ⟨by rfl, ?_⟩) (by assumption) ?_
      rotate_left
      · (intro w hSw; (try dsimp only at hSw); go_simp; try (with_reducible rfl))
      try simp only [Act.put, List.getElem_toArray, List.getElem_cons_succ, List.getElem_cons_zero, List.setIfInBounds_toArray, List.set_cons_zero, List.set_cons_succ]
      refine wpAnyH_take (i := 17) (v := ?_) rfl (by kernel_rfl) (by kernel_rfl) (by kernel_rfl) (fun _ _ _ h => h) (Or.inl ⟨by rfl, ?_⟩) (by assumption) ?_
      rotate_left
      · (intro w hSw; (try dsimp only at hSw); go_simp; try (with_reducible rfl))
      try simp only [Act.put, List.getElem_toArray, List.getElem_cons_succ, List.getElem_cons_zero, List.setIfInBounds_toArray, List.set_cons_zero, List.set_cons_succ]
      refine wpAnyH_take (i := 18) (v := ?_) rfl (by kernel_rfl) (by kernel_rfl) (by kernel_rfl) (fun _ _ _ h => h) (Or.inl ⟨by rfl, ?_⟩) (by assumption) ?_
      rotate_left
      · (intro w hSw; (try dsimp only at hSw); go_simp; try (with_reducible rfl))
      try simp only [Act.put, List.getElem_toArray, List.getElem_cons_succ, List.getElem_cons_zero, List.setIfInBounds_toArray, List.set_cons_zero, List.set_cons_succ]
      refine wpAnyH_take (i := 19) (v := ?_) rfl (by kernel_rfl) (by kernel_rfl) (by kernel_rfl) (fun _ _ _ h => h) (Or.inl ⟨by rfl, ?_⟩) (by assumption) ?_
      rotate_left
      · (intro w hSw; (try dsimp only at hSw); go_simp; try (with_reducible rfl))
      try simp only [Act.put, List.getElem_toArray, List.getElem_cons_succ, List.getElem_cons_zero, List.setIfInBounds_toArray, List.set_cons_zero, List.set_cons_succ]
      refine wpAnyH_take (i := 20) (v := ?_) rfl (by kernel_rfl) (by kernel_rfl) (by kernel_rfl) (fun _ _ _ h => h) (Or.inl ⟨by rfl, ?_⟩) (by assumption) ?_
      rotate_left
      · (intro w hSw; (try dsimp only at hSw); go_simp; try (with_reducible rfl))
      try simp only [Act.put, List.getElem_toArray, List.getElem_cons_succ, List.getElem_cons_zero, List.setIfInBounds_toArray, List.set_cons_zero, List.set_cons_succ]
      refine wpAnyH_take (i := 21) (v := ?_) rfl (by kernel_rfl) (by kernel_rfl) (by kernel_rfl) (fun _ _ _ h => h) (Or.inl ⟨by rfl, ?_⟩) (by assumption) ?_
      rotate_left
      · (intro w hSw; (try dsimp only at hSw); go_simp; try (with_reducible rfl))
      try simp only [Act.put, List.getElem_toArray, List.getElem_cons_succ, List.getElem_cons_zero, List.setIfInBounds_toArray, List.set_cons_zero, List.set_cons_succ]
      refine wpAnyH_ready (rs := [9]) (by kernel_rfl) (by simp) (AllReadyH.cons rfl (fun K hK => ?_) AllReadyH.nil)
      go_simp
      go_wp2_with ((go_at_call 27; refine (HCB.out _ hHeld).mono ?_; rintro e w5 ⟨v5, rfl, ho5, hk5, hb5, ⟨xa, xn, xc, rfl⟩⟩))
      refine hK.out _ _ (by assumption) (fun hHeld5 => ?_)
      clear hK K hHeld
      have hHeld := hHeld5
      clear hHeld5
      try simp only [Act.put, List.getElem_toArray, List.getElem_cons_succ, List.getElem_cons_zero, List.setIfInBounds_toArray, List.set_cons_zero, List.set_cons_succ]
      refine wpAnyH_ready (rs := [22]) (by kernel_rfl) (by simp) (AllReadyH.cons rfl (fun K hK => ?_) AllReadyH.nil)
      go_simp
      go_wp2_with ((go_at_call 47; refine (HCI.out _ hHeld).mono ?_; rintro e w6 ⟨v6, rfl, ho6, hk6, hb6, ⟨ya, yn, yc, rfl⟩⟩))
      refine hK.out _ _ (by assumption) (fun hHeld5 => ?_)
      clear hK K hHeld
      have hHeld := hHeld5
      clear hHeld5
      try simp only [Act.put, List.getElem_toArray, List.getElem_cons_succ, List.getElem_cons_zero, List.setIfInBounds_toArray, List.set_cons_zero, List.set_cons_succ]
      have hb35 : Below w3.heap.size w3 w5 := (Below.refl w3.heap.size w3).drew.trans hb5
      have hb36 : Below w3.heap.size w3 w6 := hb35.trans (hb6.mono hb35.size)
      have hb37 : Below w3.heap.size w3 (w6.alloc (.cells #[.slice xa xn xc, .bool dd, .int .i64 us, .slice ya yn yc] 66)) := hb36.alloc hb36.size _
      have hbA : Below w6.heap.size w6 (w6.alloc (.cells #[.slice xa xn xc, .bool dd, .int .i64 us, .slice ya yn yc] 66)) := (Below.refl _ _).alloc (Nat.le_refl _) _
      have hpg := alloc_new w6 (.cells #[.slice xa xn xc, .bool dd, .int .i64 us, .slice ya yn yc] 66)
      have hm2 := HN.out.1.mp.lt
      have hkys : fs2.map (·.en.k) = (c.all.filter fun e => !left e.k).map (·.k) := by
        have h1 : (c.all.filter fun e => !left e.k) = fs2.map (·.en) := HN.out.1.all
        rw [h1, List.map_map]; rfl
      have hlkn : Mx.look (plOf fs2) ky = none := by
        rw [look_none, plOf_names, hkys]
        intro hm9
        obtain ⟨e9, he9, hk9⟩ := List.mem_map.1 hm9
        have := (List.mem_filter.1 he9).2
        rw [hk9, hls] at this; cases this
      have hfl2 : (plOf fs2).length < maxLen := by
        have h1 := congrArg List.length hkys
        have h2 := List.length_filter_le (fun e : En => !left e.k) c.all
        have h3 := H.out.2.2.2.2
        simp only [List.length_map] at h1
        unfold plOf maxLen; rw [List.length_map]; omega
      obtain ⟨w8, hrun, hpm8, hg8, hz8, hf8⟩ := (HN.out.1.mp.block (hb37.block _ hm2)).upd (t := 56) Try.underlying3 Try.underlying56 ky hKI.wf w6.heap.size hfl2
      have hk78 : Kept (w6.alloc (.cells #[.slice xa xn xc, .bool dd, .int .i64 us, .slice ya yn yc] 66)) w8 (fun q => q ≠ w.heap.size) := Kept.grown hg8 fun k hk hN => by cases hk; exact hN rfl
      have hk38 : Kept w3 w8 (fun q => q ≠ w.heap.size) := (Kept.of_below hb37 fun _ h _ => h).trans hk78
      obtain ⟨f2, hf2⟩ : ∃ f2 : PR, f2 = ⟨f.en, w6.heap.size, .slice xa xn xc, .slice ya yn yc⟩ := ⟨_, rfl⟩
      have hpl : Mx.upd (plOf fs2) ky w6.heap.size = plOf (fs2 ++ [f2]) := by
        unfold Mx.upd; rw [hlkn, hf2, HQ.out.2.1]; simp [plOf]
      rw [hpl] at hpm8
      have hsz6 : w3.heap.size ≤ w6.heap.size := hb36.size
      have hm3 : w.heap.size < w3.heap.size := hm2
      have ho5' : OwnB w8 w3.heap.size 5 (.slice xa xn xc) f.en.pg.b := by
        rw [← HQ.out.2.2.2.2.1]
        have h1 := (ho5.below hb6 ho5.lt).below hbA fun q e => by have := ho5.lt q e; have := hb6.size; omega
        exact h1.kept hk78 fun q e => by have := (World.ownsRow.lt ho5 q e).1; omega
      have ho6' : OwnI w8 w3.heap.size (.slice ya yn yc) f.en.pg.after := by
        rw [← HQ.out.2.2.2.2.2]
        exact ownI_kept (OwnV.below ho6 hbA (Nat.le_refl _)) hk78 fun q e => by have := (World.ownsRow.lt ho6 q e).1; omega
      have hadd := HN.out.1.addFull f2 (w' := w8) (by rw [hf2]; exact hsz6) hk38 (by
        rw [hf2]
        have h1 := (hk78.block w6.heap.size (by simp) (by omega)).trans hpg
        show w8.heap[w6.heap.size]? = some (.cells #[.slice xa xn xc, .bool f.en.pg.dirty, .int .i64 f.en.pg.used, .slice ya yn yc] 66 (0, 0))
        rw [← HQ.out.2.2.1, ← HQ.out.2.2.2.1]; exact h1) (by rw [hf2]; exact ho5') (by rw [hf2]; exact ho6') (by rw [hf2]; exact ⟨_, _, _, rfl⟩) (by rw [hf2]; exact ⟨_, _, _, rfl⟩) hpm8
      have hknd : (c.all.map (·.k)).Nodup := by
        have := H.out.1.nodup
        rwa [H.out.1.all, List.map_map]
      have hfm : f.en ∈ c.all := by rw [H.out.1.all]; exact List.mem_map_of_mem (List.mem_of_getElem? HN.out.2.2.2.1)
      have hper : ((fs2 ++ [f2]).map (·.en)).Perm (c.all.filter fun e => !(left e.k && !(e.k == ky))) := by
        have h1 : (c.all.filter fun e => !left e.k) = fs2.map (·.en) := HN.out.1.all
        rw [List.map_append, ← h1]
        have e9 : [f2].map (·.en) = [f.en] := by rw [hf2]; rfl
        rw [e9]
        exact copy_perm c.all hknd left f.en hfm (by rw [← HQ.out.2.1]; exact hls) ky HQ.out.2.1
      obtain ⟨fs3, hp3, hm3'⟩ := perm_lift hper _ rfl
      have hck3 := hadd.perm hp3
      rw [hm3'] at hck3
      have hfr3 : Free (w.heap.size + 1) w.heap.size fs3 (w.heap.size + 2) := by
        have h1 := HN.out.2.2.2.2.2.1
        have hit9 := HN.out.2.2.1.lt
        refine ⟨h1.1, h1.2.1, fun j g hj => ?_⟩
        have hg9 := hp3.mem_iff.2 (List.mem_of_getElem? hj)
        rcases List.mem_append.1 hg9 with hg9 | hg9
        · obtain ⟨j', hj'⟩ := List.getElem?_of_mem hg9
          exact h1.2.2 j' g hj'
        · simp at hg9; rw [hg9, hf2]
          refine ⟨by show w.heap.size + 2 ≠ w6.heap.size; omega, fun e => ?_⟩
          have := (World.ownsRow.lt ho6 _ e).1
          omega
      have hrg3 : RG Try.prog 3 w8 m (w.heap.size + 2) (plOf fs) (fun t => left t && !(t == ky)) cnt1 := by
        have h1 := HN.out.2.2.1
        rw [← HQ.out.2.1] at h1
        have hmo := H.out.1.mp.lt
        exact h1.blocks (hk38.block m (by have := HN.out.2.1.size; omega) (by omega)) (hk38.block _ h1.lt (by omega))
      have hb8 : Below w.heap.size w w8 := HN.out.2.1.trans ((hb37.mono (by omega)).trans ((Below.refl w.heap.size _).grown hg8 (by simp; omega) (fun k hk => by cases hk; omega)))
      have HE := hid (And.intro hrg3 (And.intro hb8 (And.intro hck3 hfr3)))
      clear hb35 hb36 hb37 hbA hpg hm2 hkys hlkn hfl2 hpm8 hg8 hz8 hf8 hk78 hpl hsz6 hm3 ho5' ho6' hadd hknd hfm hper hp3 hm3' hck3 hfr3 hrg3 hb8 hf2 ho5 ho6 hb5 hb6
      have hk67 : Kept w3 (w6.alloc (.cells #[.slice xa xn xc, .bool dd, .int .i64 us, .slice ya yn yc] 66)) (fun q => q ≠ w.heap.size) := hk6.trans (Kept.alloc _ _ _)
      refine wpAnyH_take (i := 23) (v := ?_) rfl (by kernel_rfl) (by kernel_rfl) (by kernel_rfl) (fun _ _ _ h => h) (Or.inl ⟨by rfl, ?_⟩) (by assumption) ?_
      rotate_left
      · (intro w hSw; (try dsimp only at hSw); go_simp; try (with_reducible rfl))
      try simp only [Act.put, List.getElem_toArray, List.getElem_cons_succ, List.getElem_cons_zero, List.setIfInBounds_toArray, List.set_cons_zero, List.set_cons_succ]
      refine wpAnyH_ready (rs := [24]) (by kernel_rfl) (by simp) (AllReadyH.cons rfl (fun K hK => ?_) AllReadyH.nil)
      go_simp
      go_wp2_with (fail)
      refine hK.out _ _ (hk67) (fun hHeld5 => ?_)
      clear hK K hHeld
      have hHeld := hHeld5
      clear hHeld5
      try simp only [Act.put, List.getElem_toArray, List.getElem_cons_succ, List.getElem_cons_zero, List.setIfInBounds_toArray, List.set_cons_zero, List.set_cons_succ]
      refine wpAnyH_ready (rs := [25]) (by kernel_rfl) (by simp) (AllReadyH.cons rfl (fun K hK => ?_) AllReadyH.nil)
      go_simp
      go_wp2_with (fail)
      refine hK.out _ _ (hk38) (fun hHeld5 => ?_)
      clear hK K hHeld
      have hHeld := hHeld5
      clear hHeld5
      try simp only [Act.put, List.getElem_toArray, List.getElem_cons_succ, List.getElem_cons_zero, List.setIfInBounds_toArray, List.set_cons_zero, List.set_cons_succ]
      refine wpAnyH_done (by kernel_rfl) ?_ _
      clear hk67 hk38 hHeld hk5 hk6 e0 e1 e2 e3 em hen hrun
      go_wp2_with fail
      go_roundw
      case rel => exact ⟨_, _, fs3, HE.out⟩
      case measure =>
        rw [HE.out.1.left_eq, HM.out.1]; exact HM.out.2
end
end Go.Proofs.Ytbklhhmcigangaa
