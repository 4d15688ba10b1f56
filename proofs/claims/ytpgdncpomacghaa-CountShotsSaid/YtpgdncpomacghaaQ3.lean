import Derived.Test.YtpgdncpomacghaaQ2
namespace Go.Proofs.Ytpgdncpomacghaa
open Go.RowKit Go.Mx Go.Cnt
set_option linter.unusedSimpArgs false
set_option linter.unusedVariables false
/-- a table that the call itself has made -/
def TabO (w : World) (base : Nat) (tv : Value) (t : Tab) : Prop :=
  ∃ lvs : List Value, lvs.length = t.length ∧ OwnG w base 76 1 tv (lvs.map fun v => [v]) ∧ ∀ i, i < t.length → OwnG w base 39 5 (lvs.getD i undef) ((t.getD i []).map entC)
theorem TabO.tab {w : World} {base : Nat} {tv : Value} {t : Tab} (h : TabO w base tv t) : IsTab w w.heap.size tv t := by
  obtain ⟨lvs, h1, h2, h3⟩ := h
  exact ⟨lvs, h1, h2.slG, fun i hi => (h3 i hi).slG⟩
theorem own_type {w : World} {base : Nat} {e : TypeId} {s : Nat} {v : Value} {rows : List (List Value)} (h : OwnG w base e s v rows) : ∀ k, v.ownBlock = some k → ∃ c f, w.heap[k]? = some (.cells c e f) := by
  intro k hk
  rcases h.1.2 with ⟨rfl, _⟩ | ⟨g, cap, cur, rfl, _, hg, _⟩
  · cases hk
  · cases hk; exact ⟨_, _, hg⟩
theorem TabO.kept {w w' : World} {base : Nat} {tv : Value} {t : Tab} (h : TabO w base tv t) {N : Nat → Prop} (hk : Kept w w' N) (hN : ∀ q c e f, w.heap[q]? = some (.cells c e f) → (e = 39 ∨ e = 76) → N q) : TabO w' base tv t := by
  obtain ⟨lvs, h1, h2, h3⟩ := h
  refine ⟨lvs, h1, h2.kept hk fun k hk' => ?_, fun i hi => (h3 i hi).kept hk fun k hk' => ?_⟩
  · obtain ⟨c, f, hc⟩ := own_type h2 k hk'; exact hN _ _ _ _ hc (.inr rfl)
  · obtain ⟨c, f, hc⟩ := own_type (h3 i hi) k hk'; exact hN _ _ _ _ hc (.inl rfl)
theorem Kept.imp' {w w' : World} {N M : Nat → Prop} (h : Kept w w' N) (hi : ∀ k, k < w.heap.size → M k → N k) : Kept w w' M := ⟨h.size, fun k hk hm => h.block k hk (hi k hk hm)⟩
theorem kept_heap {w w' : World} (h : w'.heap = w.heap) (N : Nat → Prop) : Kept w w' N := ⟨by rw [h]; exact Nat.le_refl _, fun k _ _ => by rw [h]⟩
theorem slG_heap {w w' : World} (h : w'.heap = w.heap) {B s : Nat} {v : Value} {rows : List (List Value)} (hs : SlG w B s v rows) : SlG w' B s v rows := by
  obtain ⟨oa, cap, h1, h2, h3, h4⟩ := hs
  refine ⟨oa, cap, h1, h2, h3, fun hn => ?_⟩
  obtain ⟨bb, bo, h5, h6, h7⟩ := h4 hn
  refine ⟨bb, bo, h5, h6, fun i hi j u hu => ?_⟩
  have := h7 i hi j u hu
  simp only [World.cell?, h] at this ⊢
  exact this
theorem own_not {w : World} {base : Nat} {e t : TypeId} {s : Nat} {v : Value} {rows : List (List Value)} (h : OwnG w base e s v rows) {q : Nat} {c : Array Value} {f : Nat × Nat} (hq : w.heap[q]? = some (.cells c t f)) (ht : t ≠ e) : v.ownBlock ≠ some q := ownsRow_not h.1 hq ht
theorem own_shape {w : World} {base : Nat} {e : TypeId} {s : Nat} {v : Value} {rows : List (List Value)} (h : OwnG w base e s v rows) : ∃ oa n c, v = .slice oa n c := by
  rcases h.shape with ⟨rfl, _⟩ | ⟨g, c, rfl, _⟩
  · exact ⟨_, _, _, rfl⟩
  · exact ⟨_, _, _, rfl⟩
theorem one_slice (a : Option Addr) (n c : Nat) : ∀ u ∈ [Value.slice a n c], u.oneCell' = true := by intro u hu; simp at hu; subst hu; rfl
theorem Try.info39 : (Try.prog.info? 39).map (fun i => (i.zero, i.size, i.bytes)) = some (some (entV Ent.zero), 5, 40) := by kernel_rfl
theorem Try.info76 : (Try.prog.info? 76).map (fun i => (i.zero, i.size, i.bytes)) = some (some (.slice none 0 0), 1, 24) := by kernel_rfl
theorem entC_one (e : Ent) : ∀ u ∈ entC e, u.oneCell' = true := by
  intro u hu; simp [entC] at hu; rcases hu with rfl | rfl | rfl | rfl | rfl <;> rfl
/-- a table's copy under way: how far, and the leaves that are there -/
def CRel (w wr : World) (tv ov : Value) (t : Tab) (k : Nat) (lvs : List Value) : Prop :=
  lvs.length = k ∧ Below w.heap.size w wr ∧ wr.heap[w.heap.size]? = some (.cells #[tv] 24 (0, 0)) ∧ wr.heap[w.heap.size + 1]? = some (.cells #[.slice none 0 0] 24 (0, 0)) ∧ wr.heap[w.heap.size + 1 + 1]? = some (.cells #[ov] 24 (0, 0)) ∧
    OwnG wr w.heap.size 76 1 ov (lvs.map fun v => [v]) ∧ ∀ i, i < k → OwnG wr w.heap.size 39 5 (lvs.getD i undef) ((t.getD i []).map entC)
theorem getD_snoc {α : Type} (l : List α) (x d : α) (i : Nat) : (l ++ [x]).getD i d = if i = l.length then x else l.getD i d := by
  simp only [List.getD_eq_getElem?_getD]
  by_cases e : i = l.length
  · rw [if_pos e, e, List.getElem?_append_right (Nat.le_refl _)]; simp
  · rw [if_neg e]
    by_cases h : i < l.length
    · rw [List.getElem?_append_left h]
    · rw [List.getElem?_eq_none (by simp; omega), List.getElem?_eq_none (by omega)]
theorem CRel.step {w wr w5 w6 : World} {tv ov v1 v2 : Value} {t : Tab} {k : Nat} {lvs : List Value} (h : CRel w wr tv ov t k lvs) (hb5 : Below wr.heap.size wr w5) (ho5 : OwnG w5 wr.heap.size 39 5 v1 ((t.getD k []).map entC))
    (ho6 : OwnG w6 w.heap.size 76 1 v2 ((lvs.map fun v => [v]) ++ [[v1]])) (hg6 : (w5.alloc (.cells #[v1] 76)).grownBy w6 ov.ownBlock) : CRel w (w6.setCell ⟨w.heap.size + 1 + 1, 0, none⟩ v2) tv v2 t (k + 1) (lvs ++ [v1]) := by
  obtain ⟨hl, hbl, q1, q2, q3, hown, HL⟩ := h
  have hbA : Below wr.heap.size wr (w5.alloc (.cells #[v1] 76)) := hb5.alloc hb5.size _
  have K5 : Kept wr (w5.alloc (.cells #[v1] 76)) (fun _ => True) := .of_below hbA fun _ h _ => h
  have K6 : Kept (w5.alloc (.cells #[v1] 76)) w6 (fun q => ov.ownBlock ≠ some q) := Kept.grown hg6 fun k hk hN => hN hk
  have K9 : Kept w6 (w6.setCell ⟨w.heap.size + 1 + 1, 0, none⟩ v2) (fun q => q ≠ w.heap.size + 1 + 1) := Kept.set w6 _ 0 v2 fun h => h rfl
  have K56 : Kept wr w6 (fun q => ov.ownBlock ≠ some q) := (Kept.imp' K5 fun _ _ _ => trivial).trans K6
  have KK : Kept wr (w6.setCell ⟨w.heap.size + 1 + 1, 0, none⟩ v2) (fun q => ov.ownBlock ≠ some q ∧ q ≠ w.heap.size + 1 + 1) := (Kept.imp' K56 fun q _ hq => hq.1).trans (Kept.imp' K9 fun q _ hq => hq.2)
  have q36 : w6.heap[w.heap.size + 1 + 1]? = some (.cells #[ov] 24 (0, 0)) := (K56.block _ (blk_lt q3) (own_not hown q3 (by decide))).trans q3
  have hs5 : w.heap.size ≤ (w5.alloc (.cells #[v1] 76)).heap.size := by have := hbl.size; have := hbA.size; omega
  have hsb := hbl.size
  refine ⟨by simp [hl], ((hbl.trans (hbA.mono hbl.size)).trans ((Below.refl w.heap.size _).grown hg6 hs5 (fun k hk => hown.ge k hk))).setCell (p := ⟨w.heap.size + 1 + 1, 0, none⟩) (by show _ ≤ w.heap.size + 1 + 1; omega) v2, ?_, ?_, ?_, ?_, ?_⟩
  · exact (KK.block _ (blk_lt q1) ⟨own_not hown q1 (by decide), by omega⟩).trans q1
  · exact (KK.block _ (blk_lt q2) ⟨own_not hown q2 (by decide), by omega⟩).trans q2
  · have := heap_setCell_at' w6 (w.heap.size + 1 + 1) 0 v2 _ 24 (0, 0) q36
    simpa using this
  · rw [List.map_append]
    exact ho6.kept K9 fun k e => by rintro rfl; exact own_not ho6 q36 (by decide) e
  · intro i hi
    rw [getD_snoc]
    by_cases e : i = lvs.length
    · rw [if_pos e, e, hl]
      have h1 : OwnG (w5.alloc (.cells #[v1] 76)) wr.heap.size 39 5 v1 ((t.getD k []).map entC) := ho5.below ((Below.refl w5.heap.size w5).alloc (Nat.le_refl _) _) (Nat.le_refl _)
      have hne : ∀ q, v1.ownBlock = some q → ov.ownBlock ≠ some q := fun q e1 e2 => by
        have h2 := h1.ge q e1
        have h3 := hown.lt q e2
        omega
      have h4 := h1.kept K6 hne
      exact (h4.kept K9 fun q e1 => by rintro rfl; exact own_not h4 q36 (by decide) e1).any_base hsb
    · rw [if_neg e]
      refine (HL i (by omega)).kept KK fun q e1 => ?_
      obtain ⟨c, f, hc⟩ := own_type (HL i (by omega)) q e1
      exact ⟨own_not hown hc (by decide), blk_ne hc q3 (by decide)⟩
set_option maxRecDepth 100000 in
set_option maxHeartbeats 2000000 in
theorem tcopy_any (t : Tab) (tv : Value) (w : World) (ht : IsTab w w.heap.size tv t) (hs : TabS t) :
    Calls Try.prog 36 #[.agg #[tv]] w fun e w' => ∃ tv', e = .returned (.agg #[tv']) ∧ TabO w' w.heap.size tv' t ∧ Below w.heap.size w w' := by
  have hlen := fun w' => ht.len w' (ty := 3)
  obtain ⟨ta, tn, tc, htv⟩ := ht.shape
  subst htv
  have HT := hid (And.intro ht hs)
  clear ht
  have hb3 : Below w.heap.size w (((w.alloc (.cells #[.slice ta tn tc] 24)).alloc (.cells #[.slice none 0 0] 24)).alloc (.cells #[.slice none 0 0] 24)) := (((Below.refl _ _).alloc (Nat.le_refl _) _).alloc (by simp) _).alloc (by simp <;> omega) _
  have hq1 : (((w.alloc (.cells #[.slice ta tn tc] 24)).alloc (.cells #[.slice none 0 0] 24)).alloc (.cells #[.slice none 0 0] 24)).heap[w.heap.size]? = some (.cells #[.slice ta tn tc] 24 (0, 0)) := by
    have h1 : Below (w.heap.size + 1) (w.alloc (.cells #[.slice ta tn tc] 24)) (((w.alloc (.cells #[.slice ta tn tc] 24)).alloc (.cells #[.slice none 0 0] 24)).alloc (.cells #[.slice none 0 0] 24)) := (((Below.refl _ _).alloc (by simp) _).alloc (by simp <;> omega) _)
    exact (h1.block w.heap.size (by omega)).trans (alloc_new w _)
  have hq2 : (((w.alloc (.cells #[.slice ta tn tc] 24)).alloc (.cells #[.slice none 0 0] 24)).alloc (.cells #[.slice none 0 0] 24)).heap[w.heap.size + 1]? = some (.cells #[.slice none 0 0] 24 (0, 0)) := by
    have h1 : Below (w.heap.size + 2) ((w.alloc (.cells #[.slice ta tn tc] 24)).alloc (.cells #[.slice none 0 0] 24)) (((w.alloc (.cells #[.slice ta tn tc] 24)).alloc (.cells #[.slice none 0 0] 24)).alloc (.cells #[.slice none 0 0] 24)) := ((Below.refl _ _).alloc (by simp) _)
    have h2 := alloc_new (w.alloc (.cells #[.slice ta tn tc] 24)) (.cells #[.slice none 0 0] 24)
    simp only [World.size_alloc] at h2
    exact (h1.block (w.heap.size + 1) (by omega)).trans h2
  have hq3 : (((w.alloc (.cells #[.slice ta tn tc] 24)).alloc (.cells #[.slice none 0 0] 24)).alloc (.cells #[.slice none 0 0] 24)).heap[w.heap.size + 1 + 1]? = some (.cells #[.slice none 0 0] 24 (0, 0)) := by
    have h2 := alloc_new ((w.alloc (.cells #[.slice ta tn tc] 24)).alloc (.cells #[.slice none 0 0] 24)) (.cells #[.slice none 0 0] 24)
    simp only [World.size_alloc] at h2
    exact h2
  have HB := hid (And.intro hb3 (And.intro hq1 (And.intro hq2 hq3)))
  clear hb3 hq1 hq2 hq3
  go_enter Try.func36, Try.ntmps36
  go_wp2_with fail
  go_loopw [4] (fun s4 wr => ∃ (k : Nat) (lvs : List Value) (oa : Option Addr) (on oc : Nat), s4 = .int .i64 k ∧ k ≤ t.length ∧ lvs.length = k ∧ Below w.heap.size w wr ∧ wr.heap[w.heap.size]? = some (.cells #[.slice ta tn tc] 24 (0, 0)) ∧ wr.heap[w.heap.size + 1]? = some (.cells #[.slice none 0 0] 24 (0, 0)) ∧ wr.heap[w.heap.size + 1 + 1]? = some (.cells #[.slice oa on oc] 24 (0, 0)) ∧
      OwnG wr w.heap.size 76 1 (.slice oa on oc) (lvs.map fun v => [v]) ∧ Hid (∀ i, i < k → OwnG wr w.heap.size 39 5 (lvs.getD i undef) ((t.getD i []).map entC))) (fun s4 _ => t.length - (intOf s4).toNat)
  case atStart => exact ⟨0, [], _, _, _, rfl, by omega, rfl, HB.out.1, HB.out.2.1, HB.out.2.2.1, HB.out.2.2.2, OwnG.nil _ _ _ _, fun i hi => absurd hi (by omega)⟩
  case round =>
    obtain ⟨k, lvs, oa, on, oc, rfl, hk, hlv, hbl, hq1, hq2, hq3, hown, HL⟩ := hrel
    have c1 : wr.cell? ⟨w.heap.size, 0, none⟩ = some (.slice ta tn tc) := by simp [World.cell?, hq1]
    have c3 : wr.cell? ⟨w.heap.size + 1 + 1, 0, none⟩ = some (.slice oa on oc) := by simp [World.cell?, hq3]
    have f3 : wr.frozen? ⟨w.heap.size + 1 + 1, 0, none⟩ = false := by simp [World.frozen?, hq3]
    by_cases hlt : k < t.length
    · obtain ⟨b, o, lv, hbb, hia, hc, hlv2⟩ := (HT.out.1.below hbl (Nat.le_refl _)).leaf k hlt
      have hA : Below wr.heap.size wr (wr.alloc (.cells #[] 39)) := (Below.refl _ _).alloc (Nat.le_refl _) _
      have c1A : (wr.alloc (.cells #[] 39)).cell? ⟨w.heap.size, 0, none⟩ = some (.slice ta tn tc) := (hA.cell (p := ⟨w.heap.size, 0, none⟩) (blk_lt hq1)).trans c1
      have c3A : (wr.alloc (.cells #[] 39)).cell? ⟨w.heap.size + 1 + 1, 0, none⟩ = some (.slice oa on oc) := (hA.cell (p := ⟨w.heap.size + 1 + 1, 0, none⟩) (blk_lt hq3)).trans c3
      have clA : (wr.alloc (.cells #[] 39)).cell? ⟨b, o, none⟩ = some lv := (hA.cell (p := ⟨b, o, none⟩) (by have := hbl.size; show b < _; omega)).trans hc
      have hE1 : ∀ W : World, W.heap = (wr.alloc (.cells #[] 39)).heap → OwnG W wr.heap.size 39 5 (.slice (some ⟨wr.heap.size, 0, none⟩) 0 0) [] := fun W hW => (OwnG.empty wr 39 5).kept (kept_heap hW (fun _ => True)) fun _ _ => trivial
      have hE2 : ∀ W : World, W.heap = (wr.alloc (.cells #[] 39)).heap → SlG W wr.heap.size 5 lv ((t.getD k []).map entC) := fun W hW => slG_heap hW ((hlv2.mono hbl.size).below hA (Nat.le_refl _))
      have hE3 : ∀ W : World, W.heap = (wr.alloc (.cells #[] 39)).heap → wr.heap.size ≤ W.heap.size := fun W hW => by rw [hW]; simp
      have hrl : ∀ r ∈ (t.getD k []).map entC, r.length = 5 := by intro r hr; simp at hr; obtain ⟨x, _, rfl⟩ := hr; rfl
      have hone : ∀ r ∈ (t.getD k []).map entC, ∀ u ∈ r, u.oneCell' = true := by intro r hr; simp at hr; obtain ⟨x, _, rfl⟩ := hr; exact entC_one x
      have hll : (t.getD k []).length ≤ 6000 := HT.out.2.2 k hlt
      have hL := HT.out.2.1
      have hl40 : (([] : List (List Value)).length + ((t.getD k []).map entC).length) * 40 ≤ 140737488355328 := by rw [List.length_map]; simp only [List.length_nil]; omega
      have hl1 : ([] : List (List Value)).length + ((t.getD k []).map entC).length ≤ 140737488355328 := by rw [List.length_map]; simp only [List.length_nil]; omega
      have hm24 : ((lvs.map fun v => [v]).length + 1) * 24 ≤ 140737488355328 := by rw [List.length_map]; omega
      have hm1 : (lvs.map fun v => [v]).length + 1 ≤ 140737488355328 := by rw [List.length_map]; omega
      have HE := hid (And.intro hE1 (And.intro hE2 (And.intro hE3 (And.intro hrl hone))))
      have HS2 : Hid (∀ (w5 : World) (v1 : Value), Below wr.heap.size wr w5 → OwnG (w5.alloc (.cells #[v1] 76)) w.heap.size 76 1 (.slice oa on oc) (lvs.map fun v => [v]) ∧ (∀ j u, [v1][j]? = some u → (w5.alloc (.cells #[v1] 76)).cell? ⟨w5.heap.size, j, none⟩ = some u) ∧ w.heap.size ≤ (w5.alloc (.cells #[v1] 76)).heap.size ∧ Below wr.heap.size wr (w5.alloc (.cells #[v1] 76))) :=
        hid fun w5 v1 h5 => by
          have hb := h5.alloc h5.size (.cells #[v1] 76)
          exact ⟨hown.below hb (Nat.le_refl _), fun j u hj => row_cells w5 [v1] 76 j u hj, by have := hbl.size; have := h5.size; simp; omega, hb⟩
      have HCR : Hid (CRel w wr (.slice ta tn tc) (.slice oa on oc) t k lvs) := hid ⟨hlv, hbl, hq1, hq2, hq3, hown, HL.out⟩
      have HQ := hid (And.intro hq1 (And.intro hq2 (And.intro hq3 (And.intro hown hbl))))
      have HS3 : Hid (∀ (W w6 : World), Below wr.heap.size wr W → W.grownBy w6 (Value.slice oa on oc).ownBlock → w6.cell? ⟨w.heap.size + 1 + 1, 0, none⟩ = some (.slice oa on oc) ∧ w6.frozen? ⟨w.heap.size + 1 + 1, 0, none⟩ = false) :=
        hid fun W w6 hb hg => by
          have h1 := (hg.block (w.heap.size + 1 + 1) (by have := blk_lt HQ.out.2.2.1; have := hb.size; omega) (fun e => own_not HQ.out.2.2.2.1 HQ.out.2.2.1 (by decide) e.symm)).trans ((hb.block _ (blk_lt HQ.out.2.2.1)).trans HQ.out.2.2.1)
          exact ⟨by simp [World.cell?, h1], by simp [World.frozen?, h1]⟩
      have HS4 : Hid (∀ (w5 : World), Below wr.heap.size wr w5 → w5.cell? ⟨w.heap.size + 1 + 1, 0, none⟩ = some (.slice oa on oc) ∧ ∀ v : Value, (w5.alloc (.cells #[v] 76)).cell? ⟨w.heap.size + 1 + 1, 0, none⟩ = some (.slice oa on oc)) :=
        hid fun w5 hb => by
          have h1 := (hb.block _ (blk_lt HQ.out.2.2.1)).trans HQ.out.2.2.1
          refine ⟨by simp [World.cell?, h1], fun v => ?_⟩
          have h2 := ((hb.alloc hb.size (.cells #[v] 76)).block _ (blk_lt HQ.out.2.2.1)).trans HQ.out.2.2.1
          simp [World.cell?, h2]
      clear hE1 hE2 hE3 hrl hone hown hq1 hq2 hq3 hlv2 hbl
      go_wp2_with fail
      go_region_law (first
        | (refine step_append_g _ (by rfl) (.tmp 13) (.tmp 21) 22 76 _ 1 24 rfl Try.underlying22 Try.info76 rfl (by decide) w.heap.size _ (lvs.map fun v => [v]) (by rfl) (HS2.out w5 _ hb5).1 w5.heap.size 1 [_] (by rfl) rfl (HS2.out w5 _ hb5).2.1 (one_slice _ _ _) hm24 hm1 (HS2.out w5 _ hb5).2.2.1 ?_; intro v2 w6 ho6 hg6 hb6; obtain ⟨x2, y2, z2, rfl⟩ := own_shape ho6; obtain ⟨hgc, hgf⟩ := HS3.out _ w6 (HS2.out w5 _ hb5).2.2.2 hg6)
        | (refine step_append_sg _ (by rfl) (.tmp 14) (.tmp 19) 76 39 _ 5 40 rfl Try.underlying76 Try.info39 rfl (by decide) wr.heap.size _ [] (by rfl) (HE.out.1 _ rfl) wr.heap.size lv _ (by rfl) (HE.out.2.1 _ rfl) HE.out.2.2.2.1 HE.out.2.2.2.2 hl40 hl1 (HE.out.2.2.1 _ rfl) ?_; intro v1 w5 ho5 hg5 hb5'; obtain ⟨x1, y1, z1, rfl⟩ := own_shape ho5; have hb5 : Below wr.heap.size wr w5 := (by first | exact hA.drew.trans hb5' | exact hA.trans hb5'); have c3B := (HS4.out w5 hb5).1; have c3C := (HS4.out w5 hb5).2; clear hg5 hb5'))
      all_goals
        obtain ⟨g1, g2, g3, g4, g5, g6, g7⟩ := HCR.out.step hb5 (by simpa using ho5) ho6 hg6
        have HG := hid (And.intro g1 (And.intro g2 (And.intro g3 (And.intro g4 (And.intro g5 (And.intro g6 g7))))))
        clear g1 g2 g3 g4 g5 g6 g7 c3B c3C hgc hgf ho5 ho6 hg6 hb6 c1 c3 f3 c1A c3A clA hA
        go_wp2_with fail
        go_roundw
        case rel => exact ⟨k + 1, _, _, _, _, by go_num, by omega, HG.out.1, HG.out.2.1, HG.out.2.2.1, HG.out.2.2.2.1, HG.out.2.2.2.2.1, HG.out.2.2.2.2.2.1, hid HG.out.2.2.2.2.2.2⟩
        case measure => simp [intOf]; omega
    · obtain rfl : k = t.length := by omega
      have HTO : Hid (TabO wr w.heap.size (.slice oa on oc) t) := hid ⟨lvs, hlv, hown, HL.out⟩
      have hq2' := heap_setCell_at' wr (w.heap.size + 1) 0 (.slice oa on oc) _ 24 (0, 0) hq2
      have cR : (wr.setCell ⟨w.heap.size + 1, 0, none⟩ (.slice oa on oc)).cell? ⟨w.heap.size + 1, 0, none⟩ = some (.slice oa on oc) := by simp [World.cell?, hq2']
      have c2 : wr.cell? ⟨w.heap.size + 1, 0, none⟩ = some (.slice none 0 0) := by simp [World.cell?, hq2]
      have f2 : wr.frozen? ⟨w.heap.size + 1, 0, none⟩ = false := by simp [World.frozen?, hq2]
      have HE := hid (And.intro hbl hq2)
      clear hown hq1 hq2 hq3 hbl hq2'
      go_wp2_with fail
      refine bodyPost_ret (v := .agg #[.slice oa on oc]) (by simp [results, Try.results36, go_sem, cR]) rfl ⟨_, rfl, ?_, ?_⟩
      · refine HTO.out.kept (Kept.set wr (w.heap.size + 1) 0 _ (N := fun q => q ≠ w.heap.size + 1) fun h => h rfl) fun q c e f hq he => blk_ne hq HE.out.2 (by rcases he with rfl | rfl <;> decide)
      · exact HE.out.1.setCell (p := ⟨w.heap.size + 1, 0, none⟩) (by show _ ≤ w.heap.size + 1; omega) _
end Go.Proofs.Ytpgdncpomacghaa
