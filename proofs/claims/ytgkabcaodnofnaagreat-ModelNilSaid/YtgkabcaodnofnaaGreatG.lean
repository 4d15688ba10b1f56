import Derived.Test.YtgkabcaodnofnaaGreatF
import Derived.Deep.Cut
import Derived.Deep.RegionLaw
namespace Go.Proofs.YtgkabcaodnofnaaGreat
open Go.RowKit Go.Mx Go.Md
set_option linter.unusedVariables false
set_option linter.unusedSimpArgs false
section
variable {w w' : World} {base : Nat} {v : Value} {l : List BM} {ps : List PB}
set_option maxRecDepth 100000 in
set_option maxHeartbeats 1000000 in
theorem touch_any (h : BMS w base v l ps) (hbase : base ≤ w.heap.size) (s : Sp) : Calls Tryz.prog 85 #[v, spV s] w fun e w' => ∃ v' ps', e = .returned v' ∧ BMS w' base v' (touch l s) ps' ∧ NewB w.heap.size v' ∧ Below w.heap.size w w' := by
  obtain ⟨sx, sy⟩ := s
  have hbA : Below w.heap.size w (w.alloc (.cells #[.int .i64 sx, .int .i64 sy] 111)) := (Below.refl _ _).alloc (Nat.le_refl _) _
  have hqA := alloc_new w (.cells #[.int .i64 sx, .int .i64 sy] 111)
  have HO := hid (own_any (h.below hbA) (Nat.le_trans hbase hbA.size))
  have H := hid (And.intro h (And.intro hbase (And.intro hbA hqA)))
  obtain ⟨oa, n, c, rfl⟩ := ownG_sh h.o
  clear h hbase hbA hqA
  go_enter Tryz.func85, Tryz.ntmps85
  go_wp2_with fail
  refine HO.out.mono ?_
  rintro e w1 ⟨v1, ps1, rfl, hB1, hnew, hb1⟩
  have hbt : Below w.heap.size w w1 := H.out.2.2.1.trans (hb1.mono H.out.2.2.1.size)
  have hq1 := (hb1.block _ (blk_lt H.out.2.2.2)).trans H.out.2.2.2
  have hnew1 : NewB (w.heap.size + 1) v1 := by have := hnew; simpa using this
  obtain ⟨xa, xn, xc, rfl⟩ := ownG_sh hB1.o
  have hlen := hB1.len
  have H1 := hid (And.intro hB1 (And.intro hbt (And.intro hnew1 hq1)))
  clear hB1 hb1 hnew hnew1 hbt hq1 HO
  go_wp2_with fail
  go_loopw [11] (fun s11 wr => ∃ (i : Nat) (l' : List BM) (ps' : List PB), s11 = .int .i64 i ∧ i ≤ l.length ∧ l' = (l.take i).map (touchB (sx, sy)) ++ l.drop i ∧ BMS wr base (.slice xa xn xc) l' ps' ∧ Below w.heap.size w wr ∧ wr.heap[w.heap.size]? = some (.cells #[.int .i64 sx, .int .i64 sy] 111 (0, 0))) (fun s11 _ => l.length - (intOf s11).toNat)
  case atStart => exact ⟨0, l, ps1, rfl, by omega, by simp, H1.out.1, H1.out.2.1, H1.out.2.2.2⟩
  case round =>
    obtain ⟨i, l', ps', rfl, hi, hl', hB, hbl, hq⟩ := hrel
    have hn100 : l.length ≤ 100 := H.out.1.n
    have hll : l'.length = l.length := by rw [hl']; simp; omega
    by_cases hlt : i < l.length
    · obtain ⟨p, hp, hlp⟩ := hB.get (by omega : i < l'.length)
      obtain ⟨g, n', c', hv, hg, ⟨cc, hgc⟩, hia⟩ := hB.place hp
      simp only [Value.slice.injEq] at hv
      obtain ⟨rfl, rfl, rfl⟩ := hv
      obtain ⟨⟨nm, on, bl⟩, lv⟩ := p
      have hc1 := hB.cellAt hp 1 _ rfl
      have hc2 := hB.cellAt hp 2 _ rfl
      have hpm := List.mem_of_getElem? hp
      have hlk : bl.length ≤ 3000000000 := hB.k _ (List.mem_of_getElem? hlp)
      have s0 : wr.cell? ⟨w.heap.size, 0, none⟩ = some (.int .i64 sx) := by simp [World.cell?, hq]
      have s1 : wr.cell? ⟨w.heap.size, 1, none⟩ = some (.int .i64 sy) := by simp [World.cell?, hq]
      have hli : l[i]? = some ⟨nm, on, bl⟩ := by
        have := hlp
        simp only at this
        rw [hl', List.getElem?_append_right (by simp; omega)] at this
        simp only [List.length_map, List.length_take, Nat.min_eq_left hi, Nat.sub_self, List.getElem?_drop, Nat.add_zero] at this
        exact this
      have hnx : ∀ b', touchB (sx, sy) ⟨nm, on, bl⟩ = b' → l'.set i b' = (l.take (i + 1)).map (touchB (sx, sy)) ++ l.drop (i + 1) := fun b' hb' => by
        rw [hl', List.take_add_one, hli, List.map_append, List.drop_eq_getElem_cons hlt]
        have hlen : ((l.take i).map (touchB (sx, sy))).length = i := by simp; omega
        rw [List.set_append_right _ _ (by omega), hlen, Nat.sub_self, List.set_cons_zero, ← hb']
        simp
      obtain ⟨o, ho⟩ : ∃ o, o = i * 3 := ⟨_, rfl⟩
      rw [← ho] at hia hc1 hc2
      cases on
      · have HX := hid (And.intro hB (And.intro hbl (And.intro hq (And.intro (hnx _ rfl) hlp))))
        clear hB hbl hq hp hlp hlk hpm ho hg hgc hli hnx hl' hll s0 s1
        go_wp2_with fail
        have h9 := HX.out.2.2.2.1
        rw [show touchB (sx, sy) ⟨nm, false, bl⟩ = ⟨nm, false, bl⟩ from rfl, set_self HX.out.2.2.2.2] at h9
        exact ⟨⟨i + 1, l', ps', by go_num, by omega, h9, HX.out.1, HX.out.2.1, HX.out.2.2.1⟩, by simp [intOf]; omega⟩
      · have hsp : OwnG wr base 111 2 lv (bl.map spC) := hB.s _ hpm
        have HA := hid (add_any bl (sx, sy) lv wr.drew (by omega) (hsp.below (Below.refl _ _).drew (Nat.le_refl _)).slG)
        obtain ⟨la, ln, lc, rfl⟩ : ∃ a n c, lv = .slice a n c := ownG_sh hsp
        have HX := hid (And.intro hB (And.intro hbl (And.intro hq (And.intro (hnx _ rfl) (And.intro hp (And.intro hlk ho))))))
        clear hB hbl hq hp hlp hlk hpm ho hg hgc hli hnx hl' hll hsp
        go_upto_region 6 with (fail)
        go_region_with (go_at_call 116; refine HA.out.mono ?_; rintro e w5 ⟨v5, rfl, ho5, hb5⟩; obtain ⟨ya, yn, yc, rfl⟩ := ownG_sh ho5; have hb5' : Below wr.heap.size wr w5 := (Below.refl _ _).drew.trans hb5; have hf5 : w5.frozen? ⟨g, o + 2, none⟩ = false := (HX.out.1.below hb5').fz _; have hc5 : w5.cell? ⟨g, o + 2, none⟩ = some (.slice la ln lc) := (by rw [HX.out.2.2.2.2.2.2]; exact (HX.out.1.below hb5').cellAt HX.out.2.2.2.2.1 2 _ rfl))
        all_goals
          have hB6 := (HX.out.1.below hb5').setL HX.out.2.2.2.2.1 (ho5.any_base (Nat.le_trans H.out.2.1 HX.out.2.1.size)) (addS_len _ _)
          have hgw : w.heap.size + 1 ≤ g := H1.out.2.2.1 g rfl
          rw [← HX.out.2.2.2.2.2.2] at hB6
          have hb6 : Below w.heap.size w (w5.setCell ⟨g, o + 2, none⟩ (.slice ya yn yc)) := (HX.out.2.1.trans (hb5'.mono HX.out.2.1.size)).setCell (by show w.heap.size ≤ g; omega) _
          have hq6 : (w5.setCell ⟨g, o + 2, none⟩ (.slice ya yn yc)).heap[w.heap.size]? = some (.cells #[.int .i64 sx, .int .i64 sy] 111 (0, 0)) :=
            (Below.heap_setCell _ _ _ _ (show w.heap.size ≠ g by omega)).trans ((hb5'.block _ (blk_lt HX.out.2.2.1)).trans HX.out.2.2.1)
          have HZ := hid (And.intro hB6 (And.intro hb6 hq6))
          clear hB6 hb6 hq6 ho5 hb5 hb5'
          go_wp2_with fail
          exact ⟨⟨i + 1, _, _, by go_num, by omega, HX.out.2.2.2.1, HZ.out.1, HZ.out.2.1, HZ.out.2.2⟩, by simp [intOf]; omega⟩
    · obtain rfl : i = l.length := by omega
      have HX := hid (And.intro hB (And.intro hbl hl'))
      clear hB hbl hl' hq
      go_wp2_with fail
      go_ret
      refine ⟨_, ps', rfl, ?_, fun k hk => by have := H1.out.2.2.1 k hk; omega, HX.out.2.1⟩
      have := HX.out.2.2
      rw [List.take_length, List.drop_length, List.append_nil] at this
      unfold touch
      rw [← this]; exact HX.out.1
end
end Go.Proofs.YtgkabcaodnofnaaGreat
