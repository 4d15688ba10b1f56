import Derived.Test.YtgkabcaodnofnaaGreatE
namespace Go.Proofs.YtgkabcaodnofnaaGreat
open Go.RowKit Go.Mx Go.Md
set_option linter.unusedVariables false
set_option linter.unusedSimpArgs false
theorem set_self {α : Type} {l : List α} {i : Nat} {x : α} (h : l[i]? = some x) : l.set i x = l := by
  apply List.ext_getElem?
  intro j
  rw [List.getElem?_set]
  split
  · rename_i e; subst e; rw [if_pos (List.getElem?_eq_some_iff.1 h).1, h]
  · rfl
theorem pbrow_len (ps : List PB) : ∀ r ∈ ps.map pbrow, r.length = 3 := by intro r hr; obtain ⟨p, _, rfl⟩ := List.mem_map.1 hr; rfl
theorem spC_len (l : List Sp) : ∀ r ∈ l.map spC, r.length = 2 := by intro r hr; obtain ⟨p, _, rfl⟩ := List.mem_map.1 hr; rfl
theorem spC_one (l : List Sp) : ∀ r ∈ l.map spC, ∀ u ∈ r, u.oneCell' = true := by intro r hr u hu; obtain ⟨p, _, rfl⟩ := List.mem_map.1 hr; simp at hu; rcases hu with rfl | rfl <;> rfl
section
variable {w w' : World} {base : Nat} {v : Value} {l : List BM} {ps : List PB}
theorem BMS.ones (h : BMS w base v l ps) : ∀ r ∈ ps.map pbrow, ∀ u ∈ r, u.oneCell' = true := by
  intro r hr u hu; obtain ⟨p, hp, rfl⟩ := List.mem_map.1 hr
  exact pbrow_one p (ownG_sh (h.s p hp)) u hu
theorem BMS.get (h : BMS w base v l ps) {i : Nat} (hi : i < l.length) : ∃ p, ps[i]? = some p ∧ l[i]? = some p.b := by
  obtain ⟨p, hp⟩ : ∃ p, ps[i]? = some p := ⟨_, List.getElem?_eq_getElem (by rw [h.pl]; exact hi)⟩
  exact ⟨p, hp, by rw [h.e, List.getElem?_map, hp]; rfl⟩
/-- the list's block is a new one -/
def NewB (b : Nat) (v : Value) : Prop := ∀ k, v.ownBlock = some k → b ≤ k
set_option maxRecDepth 100000 in
theorem own_any (h : BMS w base v l ps) (hbase : base ≤ w.heap.size) : Calls Tryz.prog 115 #[v] w fun e w' => ∃ v' ps', e = .returned v' ∧ BMS w' base v' l ps' ∧ NewB w.heap.size v' ∧ Below w.heap.size w w' := by
  have HC := hid (clone108 v (ps.map pbrow) w.heap.size w h.o.slG (Nat.le_refl _) (pbrow_len ps) h.ones (by rw [List.length_map, h.pl]; have := h.n; omega))
  have H := hid (And.intro h hbase)
  obtain ⟨oa, n, c, rfl⟩ := ownG_sh h.o
  clear h hbase
  go_enter Tryz.func115, Tryz.ntmps115
  go_wp2_with fail
  refine HC.out.mono ?_
  rintro e w1 ⟨v1, rfl, ho1, hb1⟩
  have hB1 : BMS w1 base v1 l ps := { (H.out.1.below hb1) with o := ho1.any_base H.out.2 }
  have hnew : NewB w.heap.size v1 := fun k hk => ho1.ge k hk
  obtain ⟨xa, xn, xc, rfl⟩ := ownG_sh ho1
  have hlen := hB1.len
  have H1 := hid (And.intro hB1 (And.intro hb1 hnew))
  clear hB1 hb1 hnew ho1 HC
  go_wp2_with fail
  go_loopw [9] (fun s9 wr => ∃ (i : Nat) (ps' : List PB), s9 = .int .i64 i ∧ i ≤ l.length ∧ BMS wr base (.slice xa xn xc) l ps' ∧ Below w.heap.size w wr) (fun s9 _ => l.length - (intOf s9).toNat)
  case atStart => exact ⟨0, ps, rfl, by omega, H1.out.1, H1.out.2.1⟩
  case round =>
    obtain ⟨i, ps', rfl, hi, hB, hbl⟩ := hrel
    have hn100 := hB.n
    by_cases hlt : i < l.length
    · obtain ⟨p, hp, hlp⟩ := hB.get hlt
      obtain ⟨g, n', c', hv, hg, ⟨cc, hgc⟩, hia⟩ := hB.place hp
      simp only [Value.slice.injEq] at hv
      obtain ⟨rfl, rfl, rfl⟩ := hv
      obtain ⟨b, lv⟩ := p
      have hc2 := hB.cellAt hp 2 _ rfl
      have hpm := List.mem_of_getElem? hp
      have hlk : b.l.length ≤ 3000000000 := hB.k b (List.mem_of_getElem? hlp)
      have HCL := hid (clone111 lv (b.l.map spC) wr.heap.size wr (hB.s _ hpm).slG (Nat.le_refl _) (spC_len _) (spC_one _) (by rw [List.length_map]; omega))
      obtain ⟨la, ln, lc, rfl⟩ : ∃ a n c, lv = .slice a n c := ownG_sh (hB.s _ hpm)
      have HX := hid (And.intro hB (And.intro hbl (And.intro hp (And.intro hlp hlk))))
      obtain ⟨o, ho⟩ : ∃ o, o = i * 3 := ⟨_, rfl⟩
      rw [← ho] at hia hc2
      have HO := hid ho
      clear hB hbl hp hlp hlk hpm ho hg hgc
      go_wp2_with fail
      refine HCL.out.mono ?_
      rintro e w5 ⟨v5, rfl, ho5, hb5⟩
      have hB5 := HX.out.1.below hb5
      have hf5 : w5.frozen? ⟨g, o + 2, none⟩ = false := hB5.fz _
      have hc5 : w5.cell? ⟨g, o + 2, none⟩ = some (.slice la ln lc) := by have := hB5.cellAt HX.out.2.2.1 2 _ rfl; rw [HO.out]; exact this
      obtain ⟨ya, yn, yc, rfl⟩ := ownG_sh ho5
      have hbw : base ≤ wr.heap.size := Nat.le_trans H.out.2 HX.out.2.1.size
      have hgw : w.heap.size ≤ g := H1.out.2.2 g rfl
      have hB6 := hB5.setL HX.out.2.2.1 (ho5.any_base hbw) HX.out.2.2.2.2
      have hl6 : l.set i { b with l := b.l } = l := set_self HX.out.2.2.2.1
      rw [hl6, ← HO.out] at hB6
      have hb6 : Below w.heap.size w (w5.setCell ⟨g, o + 2, none⟩ (.slice ya yn yc)) := (HX.out.2.1.trans (hb5.mono HX.out.2.1.size)).setCell hgw _
      have HZ := hid (And.intro hB6 hb6)
      clear hB5 ho5 hb5 hB6 hb6 HCL hl6
      go_wp2_with fail
      exact ⟨⟨i + 1, _, by go_num, by omega, HZ.out.1, HZ.out.2⟩, by simp [intOf]; omega⟩
    · obtain rfl : i = l.length := by omega
      have HX := hid (And.intro hB hbl)
      clear hB hbl
      go_wp2_with fail
      go_ret
      exact ⟨_, _, rfl, HX.out.1, H1.out.2.2, HX.out.2⟩
end
end Go.Proofs.YtgkabcaodnofnaaGreat
