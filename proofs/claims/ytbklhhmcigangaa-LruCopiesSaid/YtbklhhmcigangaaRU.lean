import Derived.Test.YtbklhhmcigangaaP6
import Derived.Deep.RegionLaw
import Derived.Deep.Cut
namespace Go.Proofs.Ytbklhhmcigangaa
open Go.RowKit Go.Mx Go.Lr Go.Maps
set_option linter.unusedVariables false
set_option linter.unusedSimpArgs false
section
variable {w w' : World} {base q : Nat} {r : RC} {ls : List PI} {lv rv : Value}
theorem slG_heap {B s : Nat} {v : Value} {rows : List (List Value)} {w1 W : World} (h : SlG w1 B s v rows) (hW : W.heap = w1.heap) : SlG W B s v rows := by
  obtain ⟨oa, cap, e, h2, h3, h4⟩ := h
  refine ⟨oa, cap, e, h2, h3, fun hn => ?_⟩
  obtain ⟨bb, bo, e2, hl9, hr⟩ := h4 hn
  refine ⟨bb, bo, e2, hl9, fun i hi j u hj => ?_⟩
  have := hr i hi j u hj
  unfold World.cell? at this ⊢
  rw [hW]; exact this
theorem ownG_heap {b : Nat} {e : TypeId} {s : Nat} {v : Value} {rows : List (List Value)} {w1 W : World} (h : OwnG w1 b e s v rows) (hW : W.heap = w1.heap) : OwnG W b e s v rows :=
  h.kept (⟨by rw [hW]; exact Nat.le_refl _, fun k _ _ => by rw [hW]⟩ : Kept w1 W fun _ => True) fun _ _ => trivial
theorem relrow_one : ∀ (l : List (Int × Int)), ∀ r ∈ l.map relrow, ∀ u ∈ r, u.oneCell' = true := by
  intro l r hr u hu
  obtain ⟨x, _, rfl⟩ := List.mem_map.1 hr
  simp at hu; rcases hu with rfl | rfl <;> rfl
theorem relrow_len : ∀ (l : List (Int × Int)), ∀ r ∈ l.map relrow, r.length = 2 := by
  intro l r hr
  obtain ⟨x, _, rfl⟩ := List.mem_map.1 hr; rfl
set_option maxRecDepth 100000 in
set_option maxHeartbeats 2000000 in
theorem rcopy_any (h : RK w base q r ls lv rv) (hbl : ∀ it ∈ r.l, it.b.length ≤ 1000000) : Calls Try.prog 24 #[cp q] w fun e w' => ∃ q', e = .returned (cp q') ∧ RX w' w.heap.size q' r ∧ Below w.heap.size w w' := by
  obtain ⟨⟨la, ln, lc, rfl⟩, ra, rn, rc, rfl⟩ := h.shapes
  have hA : Below w.heap.size w (w.alloc (.cells #[] 98)) := (Below.refl _ _).alloc (Nat.le_refl _) _
  have hE1 : ∀ W : World, W.heap = (w.alloc (.cells #[] 98)).heap → OwnG W w.heap.size 98 2 (.slice (some ⟨w.heap.size, 0, none⟩) 0 0) [] := fun W hW => ownG_heap (OwnG.empty w 98 2) hW
  have hE2 : ∀ W : World, W.heap = (w.alloc (.cells #[] 98)).heap → SlG W w.heap.size 2 (.slice ra rn rc) (r.r.map relrow) := fun W hW => slG_heap (h.orr.slG.below hA (Nat.le_refl _)) hW
  have hE3 : ∀ W : World, W.heap = (w.alloc (.cells #[] 98)).heap → w.heap.size ≤ W.heap.size := fun W hW => by rw [hW]; simp
  have hlr := h.lr
  have hll := h.ll
  have hl1 : (([] : List (List Value)).length + (r.r.map relrow).length) * 16 ≤ 140737488355328 := by simp; omega
  have hl2 : ([] : List (List Value)).length + (r.r.map relrow).length ≤ 140737488355328 := by simp; omega
  have HE := hid (And.intro hE1 (And.intro hE2 hE3))
  obtain ⟨c0, c1, c2, _⟩ := h.cells
  obtain ⟨d0, _, d2, _⟩ := (h.below hA).cells
  have H := hid (And.intro h (And.intro hbl hA))
  have hlenL := h.lenL
  clear hE1 hE2 hE3 h hbl hA
  go_enter Try.func24, Try.ntmps24
  go_upto_region 1 with (fail)
  go_cut [3] from 6 (fun s3 wx => ∃ q' rv', s3 = cp q' ∧ RK wx w.heap.size q' ⟨r.room, [], r.r⟩ [] (.slice none 0 0) rv' ∧ Below w.heap.size w wx)
  case first =>
    go_region_law (first
      | (refine step_append_sg _ (by rfl) (.tmp 10) (.tmp 14) 79 98 _ 2 16 rfl Try.underlying79 info98 rfl (by decide) w.heap.size _ [] (by rfl) (HE.out.1 _ rfl) w.heap.size (.slice ra rn rc) _ (by rfl) (HE.out.2.1 _ rfl) (relrow_len _) (relrow_one _) hl1 hl2 (HE.out.2.2 _ rfl) ?_; intro v5 w5 ho5 hg5 hb5; obtain ⟨x1, y1, z1, rfl⟩ := ownG_sh ho5; have hb15 : Below w.heap.size w w5 := (by first | exact H.out.2.2.drew.trans hb5 | exact H.out.2.2.trans hb5); obtain ⟨k0, _, k2, _⟩ := (H.out.1.below hb15).cells))
    all_goals
      have hqn := alloc_new w5 (.cells #[.int .i64 r.room, .slice none 0 0, .slice x1 y1 z1] 81)
      have hbx : Below w5.heap.size w5 (w5.alloc (.cells #[.int .i64 r.room, .slice none 0 0, .slice x1 y1 z1] 81)) := (Below.refl _ _).alloc (Nat.le_refl _) _
      have HK := hid (show RK (w5.alloc (.cells #[.int .i64 r.room, .slice none 0 0, .slice x1 y1 z1] 81)) w.heap.size w5.heap.size ⟨r.room, [], r.r⟩ [] (.slice none 0 0) (.slice x1 y1 z1) ∧ Below w.heap.size w (w5.alloc (.cells #[.int .i64 r.room, .slice none 0 0, .slice x1 y1 z1] 81)) from ⟨{ l := rfl, ck := hqn, hq := hb15.size, ol := OwnG.nil _ _ _ _, orr := (by simpa using ho5.kept (Kept.of_below (N := fun _ => True) hbx fun _ h _ => h) fun _ _ => trivial), ob := by simp, nd := by simp, ll := by simp, lr := hlr }, hb15.trans (hbx.mono hb15.size)⟩)
      clear hqn hbx ho5 hg5 hb5 hb15 k0 k2
      go_wp2_with fail
      go_meet
      case rel => exact ⟨_, _, rfl, HK.out.1, HK.out.2⟩
  case rest =>
    obtain ⟨q', rv', rfl, hR, hbl⟩ := hcut
    have H2 := hid (And.intro hR hbl)
    clear hR hbl c0 c1 c2 d0 d2 hl1 hl2
    go_wp2_with fail
    go_loopw [4] (fun s4 wr => ∃ (j : Nat) (ls' : List PI) (lv' rv'' : Value), s4 = .int .i64 j ∧ j ≤ r.l.length ∧ RK wr w.heap.size q' ⟨r.room, r.l.take j, r.r⟩ ls' lv' rv'' ∧ Below w.heap.size w wr) (fun s4 _ => 3000 - (intOf s4).toNat)
    case atStart => exact ⟨0, _, _, _, rfl, by omega, by simpa using H2.out.1, H2.out.2⟩
    case round =>
      obtain ⟨j, ls', lv', rv'', rfl, hj, hR, hbl⟩ := hrel
      have hW := H.out.1.below hbl
      obtain ⟨_, c1, _, _⟩ := hW.cells
      obtain ⟨⟨xa, xn, xc, rfl⟩, ya, yn, yc, rfl⟩ := hR.shapes
      by_cases hlt : j < r.l.length
      · obtain ⟨f, hf⟩ : ∃ f, ls[j]? = some f := ⟨_, List.getElem?_eq_getElem (by rw [hW.lsl]; exact hlt)⟩
        obtain ⟨bq, o, hbq, hia, g0, g1, g2⟩ := hW.item hf
        obtain ⟨k, bs, d, ba, bn, bc, rfl⟩ : ∃ k bs d ba bn bc, f = ⟨⟨k, bs, d⟩, .slice ba bn bc⟩ := by
          obtain ⟨⟨k, bs, d⟩, bv⟩ := f
          obtain ⟨ba, bn, bc, e⟩ := hW.bsh (List.mem_of_getElem? hf)
          simp only at e; subst e; exact ⟨_, _, _, _, _, _, rfl⟩
        simp only at g0 g1 g2
        have HX := hid (And.intro hR (And.intro hbl (And.intro hf hW)))
        clear hR hbl hf hW
        go_upto_region 6 with (fail)
        have hob : SlB wr wr.heap.size (.slice ba bn bc) bs := (HX.out.2.2.2.ob _ (List.mem_of_getElem? HX.out.2.2.1)).slB
        have hri : r.l[j]? = some ⟨k, bs, d⟩ := by rw [HX.out.2.2.2.l, List.getElem?_map, HX.out.2.2.1]; rfl
        have hbs : bs.length ≤ 1000000 := H.out.2.1 _ (List.mem_of_getElem? hri)
        have hb1 : Below wr.heap.size wr (wr.alloc (.cells #[.int .i64 k, .slice ba bn bc, .bool d] 88)) := (Below.refl _ _).alloc (Nat.le_refl _) _
        have hq1 := alloc_new wr (.cells #[.int .i64 k, .slice ba bn bc, .bool d] 88)
        obtain ⟨xb, hxb⟩ : ∃ x, x = wr.heap.size := ⟨_, rfl⟩
        obtain ⟨w1, hw1⟩ : ∃ x, x = wr.alloc (.cells #[.int .i64 k, .slice ba bn bc, .bool d] 88) := ⟨_, rfl⟩
        rw [← hw1] at hb1 hq1 ⊢
        rw [← hxb] at hq1 ⊢
        have hb2 : Below w1.heap.size w1 (w1.alloc (.cells #[] 5)) := (Below.refl _ _).alloc (Nat.le_refl _) _
        have hq2 : (w1.alloc (.cells #[] 5)).heap[xb]? = some (.cells #[.int .i64 k, .slice ba bn bc, .bool d] 88 (0, 0)) := (hb2.block xb (blk_lt hq1)).trans hq1
        have e1 : (w1.alloc (.cells #[] 5)).cell? ⟨xb, 1, none⟩ = some (.slice ba bn bc) := by simp [World.cell?, hq2]
        have hsl : SlB (w1.alloc (.cells #[] 5)) wr.heap.size (.slice ba bn bc) bs := (hob.below hb1 (Nat.le_refl _)).below hb2 hb1.size
        have hoe := own_empty w1 5
        have HY := hid (And.intro hb1 (And.intro hq1 (And.intro hb2 (And.intro hbs (And.intro hri hxb)))))
        clear hob hb1 hq1 hb2 hq2 hbs hri hxb hw1 c1 g0 g1 g2 hia hbq
        go_wp2_with (at_builtin; refine append_sl _ rfl _ _ 22 5 rfl Try.underlying22 Try.info5 w1.heap.size _ [] rfl hoe _ bs _ rfl hsl ?_ ?_ ?_)
        · have := HY.out.2.2.2.1; simp; omega
        · simp
        intro v2 w3 ho3 hb3
        replace ho3 : OwnB w3 w1.heap.size 5 v2 bs := by simpa using ho3
        have hb13 : Below w1.heap.size w1 w3 := HY.out.2.2.1.trans hb3
        have hq3 := (hb13.block xb (blk_lt HY.out.2.1)).trans HY.out.2.1
        obtain ⟨za, zn, zc, rfl⟩ := slB_shape ho3.slB
        have c3 : w3.cell? ⟨xb, 1, none⟩ = some (.slice ba bn bc) := by simp [World.cell?, hq3]
        have f3 : w3.frozen? ⟨xb, 1, none⟩ = false := by simp [World.frozen?, hq3]
        have hq4 := heap_setCell_at w3 xb 1 (.slice za zn zc) _ 88 _ hq3
        have hb4 : Below wr.heap.size wr (w3.setCell ⟨xb, 1, none⟩ (.slice za zn zc)) := (HY.out.1.trans (hb13.mono HY.out.1.size)).setCell (Nat.le_of_eq HY.out.2.2.2.2.2.symm) _
        have ho4 : OwnB (w3.setCell ⟨xb, 1, none⟩ (.slice za zn zc)) w1.heap.size 5 (.slice za zn zc) bs := ho3.setCell (blk_lt HY.out.2.1) _
        have HZ := hid (And.intro hq4 (And.intro hb4 ho4))
        clear hq3 hb3 hb13 ho3 hq4 hb4 ho4 e1 hsl hoe
        go_upto_region 7 with (fail)
        clear c3 f3
        obtain ⟨w4, hw4⟩ : ∃ x, x = w3.setCell ⟨xb, 1, none⟩ (.slice za zn zc) := ⟨_, rfl⟩
        rw [← hw4] at HZ ⊢
        clear hw4
        have hq4 : w4.heap[xb]? = some (.cells #[.int .i64 k, .slice za zn zc, .bool d] 88 (0, 0)) := HZ.out.1
        have hR4 := HX.out.1.below HZ.out.2.1
        have h41 := hR4.cells.2.1
        have x0 : w4.cell? ⟨xb, 0, none⟩ = some (.int .i64 k) := by simp [World.cell?, hq4]
        have x1 : w4.cell? ⟨xb, 1, none⟩ = some (.slice za zn zc) := by simp [World.cell?, hq4]
        have x2 : w4.cell? ⟨xb, 2, none⟩ = some (.bool d) := by simp [World.cell?, hq4]
        obtain ⟨row, hrow⟩ : ∃ row : List Value, row = [.int .i64 k, .slice za zn zc, .bool d] := ⟨_, rfl⟩
        have hb5 : Below w4.heap.size w4 (w4.alloc (.cells #[.int .i64 k, .slice za zn zc, .bool d] 88)) := (Below.refl _ _).alloc (Nat.le_refl _) _
        have hW5 : ∀ W : World, (W = (w4.alloc (.cells #[.int .i64 k, .slice za zn zc, .bool d] 88)) ∨ W = (w4.alloc (.cells #[.int .i64 k, .slice za zn zc, .bool d] 88)).drew) → Below w4.heap.size w4 W := fun W hW => by
          rcases hW with rfl | rfl
          · exact hb5
          · exact hb5.drew
        have hE1 : ∀ W : World, (W = (w4.alloc (.cells #[.int .i64 k, .slice za zn zc, .bool d] 88)) ∨ W = (w4.alloc (.cells #[.int .i64 k, .slice za zn zc, .bool d] 88)).drew) → RK W w.heap.size q' ⟨r.room, r.l.take j, r.r⟩ ls' (.slice xa xn xc) (.slice ya yn yc) := fun W hW => hR4.below (hW5 W hW)
        have hE2 : ∀ W : World, (W = (w4.alloc (.cells #[.int .i64 k, .slice za zn zc, .bool d] 88)) ∨ W = (w4.alloc (.cells #[.int .i64 k, .slice za zn zc, .bool d] 88)).drew) → ∀ j u, row[j]? = some u → W.cell? ⟨w4.heap.size, j, none⟩ = some u := fun W hW j u hj => by
          subst hrow
          have := alloc_new w4 (.cells #[.int .i64 k, .slice za zn zc, .bool d] 88)
          replace this : W.heap[w4.heap.size]? = some (.cells #[.int .i64 k, .slice za zn zc, .bool d] 88 (0, 0)) := by rcases hW with rfl | rfl <;> exact this
          rcases j with _ | _ | _ | j <;> simp at hj <;> subst hj <;> simp [World.cell?, this]
        have hE3 : ∀ u ∈ row, u.oneCell' = true := by subst hrow; intro u hu; simp at hu; rcases hu with rfl | rfl | rfl <;> rfl
        have hE4 : ∀ W : World, (W = (w4.alloc (.cells #[.int .i64 k, .slice za zn zc, .bool d] 88)) ∨ W = (w4.alloc (.cells #[.int .i64 k, .slice za zn zc, .bool d] 88)).drew) → w.heap.size ≤ W.heap.size := fun W hW => Nat.le_trans hR4.base_le (hW5 W hW).size
        have hl1 : ((ls'.map itrow).length + 1) * 40 ≤ 140737488355328 := by
          have := HX.out.1.ll; have h9 := HX.out.1.lsl; simp only at this h9; rw [List.length_map, h9]; omega
        have hl2 : (ls'.map itrow).length + 1 ≤ 140737488355328 := by omega
        have HE7 := hid (And.intro hE1 (And.intro hE2 (And.intro hE3 (And.intro hE4 (And.intro hrow hb5)))))
        have HAP : Hid (∀ (W w7 : World) (a7 : Option Addr) (n7 c7 : Nat), (W = (w4.alloc (.cells #[.int .i64 k, .slice za zn zc, .bool d] 88)) ∨ W = (w4.alloc (.cells #[.int .i64 k, .slice za zn zc, .bool d] 88)).drew) → OwnG w7 w.heap.size 88 3 (.slice a7 n7 c7) (ls'.map itrow ++ [row]) → W.grownBy w7 (Value.slice xa xn xc).ownBlock → Below w.heap.size W w7 →
            w7.cell? ⟨q', 1, none⟩ = some (.slice xa xn xc) ∧ w7.frozen? ⟨q', 1, none⟩ = false ∧ (∃ ls7, RK (w7.setCell ⟨q', 1, none⟩ (.slice a7 n7 c7)) w.heap.size q' ⟨r.room, r.l.take (j + 1), r.r⟩ ls7 (.slice a7 n7 c7) (.slice ya yn yc)) ∧ Below w.heap.size w (w7.setCell ⟨q', 1, none⟩ (.slice a7 n7 c7))) := hid fun W w7 a7 n7 c7 hW ho hg hb => by
          have hRW := hR4.below (hW5 W hW)
          have he : ((ls' ++ [(⟨⟨k, bs, d⟩, .slice za zn zc⟩ : PI)]).map (·.it)) = r.l.take (j + 1) := by
            rw [List.map_append, List.take_add_one, HY.out.2.2.2.2.1, ← HX.out.1.l]; rfl
          obtain ⟨hR8, hS8, hc8, hf8⟩ := hRW.appL (ls' := ls' ++ [⟨⟨k, bs, d⟩, .slice za zn zc⟩]) (lv' := .slice a7 n7 c7) (by rw [List.map_append]; subst hrow; exact ho) hg hb (fun g hg9 => by
            rcases List.mem_append.1 hg9 with h9 | h9
            · exact .inl h9
            · simp at h9; subst h9
              refine .inr ?_
              have hge : w.heap.size ≤ w1.heap.size := Nat.le_trans HX.out.2.1.size HY.out.1.size
              have hk1 : Kept W w7 (fun k => (Value.slice xa xn xc).ownBlock ≠ some k) := Kept.grown hg fun k e => by simp [e]
              have hoW : OwnB W w.heap.size 5 (.slice za zn zc) bs := (HZ.out.2.2.any_base hge).kept (Kept.of_below (N := fun _ => True) (hW5 W hW) fun _ h _ => h) fun _ _ => trivial
              exact hoW.kept hk1 fun k e e2 => by
                obtain ⟨c9, f9, h9⟩ := ownG_type hRW.ol k e2
                exact absurd e (hoW.not_block h9 (by decide))) (by rw [he, List.map_take]; exact H.out.1.nd.sublist (List.take_sublist _ _)) (by have h9 := HX.out.1.lsl; have := HX.out.1.ll; simp only at h9 this; simp; have := H.out.1.ll; rw [h9, List.length_take]; omega)
          rw [he] at hR8
          exact ⟨hc8, hf8, ⟨_, hR8⟩, ((HX.out.2.1.trans (HZ.out.2.1.mono HX.out.2.1.size)).trans ((hW5 W hW).mono (Nat.le_trans HX.out.2.1.size HZ.out.2.1.size))).trans hS8.bel⟩
        have h41A := (hE1 _ (.inl rfl)).cells.2.1
        clear hE1 hE2 hE3 hE4 hrow hb5 hW5 hR4 hq4
        go_region_law (first
          | (refine step_append_g _ (by rfl) (.tmp 43) (.tmp 45) 78 88 (.agg #[.int .i64 0, .slice none 0 0, .bool false]) 3 40 rfl Try.underlying78 info88 rfl (by decide) w.heap.size _ (ls'.map itrow) (by rfl) (HE7.out.1 _ (by first | exact Or.inl rfl | exact Or.inr rfl)).ol w4.heap.size 1 row (by rfl) (by rw [HE7.out.2.2.2.2.1]; rfl) (HE7.out.2.1 _ (by first | exact Or.inl rfl | exact Or.inr rfl)) HE7.out.2.2.1 hl1 hl2 (HE7.out.2.2.2.1 _ (by first | exact Or.inl rfl | exact Or.inr rfl)) ?_; intro v7 w7 ho7 hg7 hb7; obtain ⟨a7, n7, c7, rfl⟩ := ownG_sh ho7; obtain ⟨hc8, hf8, hR8, hb8⟩ := HAP.out _ _ _ _ _ (by first | exact Or.inl rfl | exact Or.inr rfl) ho7 hg7 hb7))
        all_goals
          clear ho7 hg7 hb7
          have HT := hid (And.intro hR8 hb8)
          clear hR8 hb8
          go_wp2_with fail
          obtain ⟨ls7, hR7⟩ := HT.out.1
          exact ⟨⟨j + 1, ls7, _, _, by go_num, by omega, hR7, HT.out.2⟩, by simp [intOf]; omega⟩
      · obtain rfl : j = r.l.length := by omega
        have HX := hid (And.intro hR hbl)
        clear hR hbl hW
        go_wp2_with fail
        go_ret
        exact ⟨_, rfl, ⟨_, _, _, by simpa using HX.out.1⟩, HX.out.2⟩
end
end Go.Proofs.Ytbklhhmcigangaa
