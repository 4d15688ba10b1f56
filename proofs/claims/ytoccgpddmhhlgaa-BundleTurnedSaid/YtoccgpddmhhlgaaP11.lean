import Derived.Test.YtoccgpddmhhlgaaBO
import Derived.Test.YtoccgpddmhhlgaaBH
namespace Go.Bun
open Go.Mx Go.Crc Go.Str
theorem good_itm (l : List Prt) (hr : rise (names l) = true) (h16 : l.length ≤ 16) (hw : wt l ≤ 50000) : Proofs.Ytoccgpddmhhlgaa.Good (l.map itm) := by
  refine ⟨?_, by simpa using h16, ?_, ?_⟩
  · rw [List.map_map]; exact hr
  · intro p hp
    rw [List.mem_map] at hp
    obtain ⟨q, _, rfl⟩ := hp
    exact (sum q.data).isLt
  · rw [bun_len, dat_map, List.length_map, List.flatMap_map]
    show 14 + _ + 14 * l.length + (l.flatMap (·.name)).length ≤ _
    unfold wt at hw
    omega
theorem itm_prt (l : List Prt) : (l.map itm).map Proofs.Ytoccgpddmhhlgaa.prt = l := by
  rw [List.map_map]; conv => rhs; rw [← List.map_id l]
  rfl
theorem itm_getD (l : List Prt) (k : Nat) (hk : k < l.length) : (l.map itm).getD k default = itm (l.getD k default) := by
  simp [List.getD_eq_getElem?_getD, List.getElem?_map, List.getElem?_eq_getElem hk]
theorem put_bad (l : List Prt) (h : ¬ (rise (names l) = true ∧ l.length ≤ 16)) : ∃ n, putR l = ([], n) ∧ n ≠ 0 := by
  unfold putR
  by_cases hr : rise (names l) = true
  · rw [if_pos hr, if_pos (by have : ¬ l.length ≤ 16 := fun h2 => h ⟨hr, h2⟩; omega)]; exact ⟨9, rfl, by decide⟩
  · rw [if_neg hr]; exact ⟨1, rfl, by decide⟩
theorem itm_ok (l : List Prt) : Proofs.Ytoccgpddmhhlgaa.AllOk (l.map itm) := by
  intro k hk
  rw [itm_getD l k (by simpa using hk)]; rfl
end Go.Bun
namespace Go.Proofs.Ytoccgpddmhhlgaa
open Go.RowKit Go.Mx Go.Crc Go.Str Go.Bun
set_option linter.unusedSimpArgs false
set_option linter.unusedVariables false

theorem fres_same {its : List Itm} (hg : Good its) {nm : List UInt8} {e : Ending} {w : World} (h : FRes its nm e w) (i : Nat) (hi : i < its.length) (hn : (its.getD i default).name = nm) :
    ((sum (its.getD i default).data).toNat = (its.getD i default).s ∧ ∃ v, e = .returned (.tuple #[v, .int .i64 0]) ∧ SlB w w.heap.size v (its.getD i default).data) ∨ ((sum (its.getD i default).data).toNat ≠ (its.getD i default).s ∧ e = .returned (.tuple #[.slice none 0 0, .int .i64 13])) := by
  rcases h with ⟨k, hk, hkn, h⟩ | ⟨h, _⟩
  · have : k = i := by
      rcases Nat.lt_trichotomy k i with h1 | h1 | h1
      · have := rise_lt its hg k i h1 hi
        rw [hkn, hn, lss_irr] at this; cases this
      · exact h1
      · have := rise_lt its hg i k h1 hk
        rw [hkn, hn, lss_irr] at this; cases this
    subst this; exact h
  · exact absurd hn (h i hi)
theorem gres_ok {its : List Itm} (ho : AllOk its) {e : Ending} {w : World} (h : GRes its e w) : ∃ v, e = .returned (.tuple #[v, .int .i64 0]) ∧ SlPt w w.heap.size v (its.map prt) := by
  rcases h with ⟨_, h⟩ | ⟨h, _⟩
  · exact h
  · exact absurd ho h
def hasN (l : List Prt) (nm : List UInt8) : Bool := l.any (fun p => p.name == nm)
theorem fres_any {l : List Prt} {nm : List UInt8} {e : Ending} {w : World} (h : FRes (l.map itm) nm e w) :
    ∃ v, e = .returned (.tuple #[v, .int .i64 (if hasN l nm then 0 else 4)]) := by
  rcases h with ⟨k, hk, hkn, ⟨_, v, he, _⟩ | ⟨hne, _⟩⟩ | ⟨h, he⟩
  · have hk' : k < l.length := by simpa using hk
    have ht : hasN l nm = true := by
      unfold hasN; rw [List.any_eq_true]
      refine ⟨l.getD k default, ?_, ?_⟩
      · rw [List.getD_eq_getElem?_getD, List.getElem?_eq_getElem hk']; exact List.getElem_mem _
      · rw [itm_getD l k hk'] at hkn; simpa [itm] using hkn
    rw [ht]; exact ⟨v, he⟩
  · exact absurd (itm_ok l k hk) hne
  · have hf : hasN l nm = false := by
      unfold hasN; rw [List.any_eq_false]
      intro p hp hpn
      obtain ⟨k, hk, rfl⟩ := List.getElem_of_mem hp
      refine h k (by simpa using hk) ?_
      rw [itm_getD l k hk]
      have : l.getD k default = l[k] := by simp [List.getD_eq_getElem?_getD, List.getElem?_eq_getElem hk]
      rw [this]; simpa [itm] using hpn
    rw [hf]; exact ⟨_, he⟩
theorem has_succ (l : List Prt) (nm : List UInt8) (k : Nat) (hk : k < l.length) : hasN (l.take (k + 1)) nm = (hasN (l.take k) nm || (l.getD k default).name == nm) := by
  unfold hasN; rw [takeD' l k default hk]; simp

set_option maxRecDepth 100000 in
set_option maxHeartbeats 4000000 in
theorem back_any (l : List Prt) (lv : Value) (nm : List UInt8) (w : World) (h : SlPt w w.heap.size lv l) (hn : ∀ p ∈ l, p.name.length ≤ 9223372036854775807) :
    Calls Try.prog 11 #[lv, .string ⟨nm.toArray⟩] w fun e w' => e = .returned (.bool true) ∧ Below w.heap.size w w' := by
  have hlen := fun w' => h.len (ty := 3) w'
  have H := hid h
  have HG := hid (bgreat_any l lv w h hn)
  clear h hn
  go_enter Try.func11, Try.ntmps11
  go_wp2_with fail
  refine HG.out.mono ?_
  rintro e w1 ⟨b, rfl, hg, hb1⟩
  have HB1 := hid hb1
  have hnl : (Builtin.len_ #[9] 3 #[.string ⟨nm.toArray⟩]).run Try.prog w1 = .ok (.int .i64 nm.length) w1 := by first | rfl | go_simp
  clear hb1
  cases b
  rotate_left
  · clear hg
    go_wp2_with fail
    refine (bawake_any _).mono ?_
    rintro e w2 ⟨rfl, hb2⟩
    go_wp2
    go_ret
    exact ⟨rfl, HB1.out.trans (hb2.mono HB1.out.size)⟩
  have hw := hg rfl
  clear hg
  by_cases h100 : 100 < nm.length
  · go_wp2_with fail
    refine (bawake_any _).mono ?_
    rintro e w2 ⟨rfl, hb2⟩
    go_wp2
    go_ret
    exact ⟨rfl, HB1.out.trans (hb2.mono HB1.out.size)⟩
  have b0 : decide (100 < (nm.length : Int)) = false := by simp; omega
  have H1 := hid ((H.out.below HB1.out (Nat.le_refl _)).mono HB1.out.size)
  have HC := hid (bput_any l lv w1 H1.out hw)
  by_cases hgd : rise (names l) = true ∧ l.length ≤ 16
  rotate_left
  · obtain ⟨n, hR, hn0⟩ := put_bad l hgd
    rw [hR] at HC
    have t0 : (n == 0) = false := by simpa using hn0
    clear hR hn0 hgd hw
    go_wp2_with fail
    refine HC.out.mono ?_
    rintro e w2 ⟨v2, rfl, ho2, hb2⟩
    have hl2 := fun w' => ho2.slB.len (P := Try.prog) (ty := 3) Try.underlying25 w'
    have HB2 := hid (HB1.out.trans (hb2.mono HB1.out.size))
    clear HC ho2 hb2
    go_wp2_with (first
      | (go_at_call 14; refine (bawake_any _).mono ?_; rintro e w9 ⟨rfl, hb9⟩)
      | (go_at_call 18; refine (bnumE_any _ _).mono ?_; rintro e w' ⟨rfl, rfl⟩))
    go_ret
    exact ⟨rfl, HB2.out.trans (hb9.mono HB2.out.size)⟩
  have hR : Bun.putR l = (bunB (l.map itm), 0) := by unfold Bun.putR; rw [if_pos hgd.1, if_neg (by omega)]
  rw [hR] at HC
  have HGd := hid (good_itm l hgd.1 hgd.2 hw)
  have hl16 := hgd.2
  have hsmall : ∀ k, k < l.length → (l.getD k default).data.length ≤ 50000 := fun k hk => by have := wt_at l k hk; omega
  clear hR hgd hw
  go_wp2_with fail
  refine HC.out.mono ?_
  rintro e w2 ⟨v2, rfl, ho2, hb2⟩
  have HO2 := hid (And.intro ho2.slB (HB1.out.trans (hb2.mono HB1.out.size)))
  have HGt := hid (bget_any (l.map itm) HGd.out v2 w2 ho2.slB)
  clear HC ho2 hb2
  go_wp2_with (go_at_call 18; refine (bnumE_any _ _).mono ?_; rintro e w' ⟨rfl, rfl⟩)
  refine HGt.out.mono ?_
  rintro e w3 ⟨hb3, hgr⟩
  obtain ⟨mv, rfl, hm⟩ := gres_ok (itm_ok l) hgr
  rw [itm_prt] at hm
  have HO3 := hid (And.intro hm (HO2.out.2.trans (hb3.mono HO2.out.2.size)))
  have hb2v := HO2.out.1.below hb3 (Nat.le_refl _)
  have H3 := hid (And.intro (H.out.below HO3.out.2 (Nat.le_refl _)) (hb2v.mono hb3.size))
  obtain ⟨va, vn, vc, rfl⟩ := slB_shape hb2v
  clear HGt hm hb3 hgr hb2v
  go_wp2_with fail
  go_loopw [9, 10] (fun t i wr => ∃ k : Nat, k ≤ l.length ∧ t = .bool (hasN (l.take k) nm) ∧ i = .int .i64 k ∧ Below w3.heap.size w3 wr) (fun _ i _ => l.length - (intOf i).toNat)
  case atStart => exact ⟨0, by omega, rfl, rfl, Below.refl _ _⟩
  case round =>
    obtain ⟨k, hk, rfl, rfl, hbl⟩ := hrel
    have hs3 := (H3.out.2.below hbl (Nat.le_refl _)).mono hbl.size
    by_cases hlt : k < l.length
    · obtain ⟨b, o, dv, hbb, hia, i0, i1, hd⟩ := (H3.out.1.below hbl (Nat.le_trans HO3.out.2.size (Nat.le_refl _))).at k hlt
      have HHS := hid (has_succ l nm k hlt)
      have HF := hid (bfind_any (l.map itm) HGd.out _ (l.getD k default).name wr hs3)
      have HK := hid (fun (e : Ending) (w' : World) (hh : FRes (l.map itm) (l.getD k default).name e w') => fres_same HGd.out hh k (by simpa using hlt) (by rw [itm_getD l k hlt]; rfl))
      have HIT := hid (itm_getD l k hlt)
      obtain ⟨p, hp⟩ : ∃ p, p = l.getD k default := ⟨_, rfl⟩
      rw [← hp] at i0 hd HHS HF HK HIT
      obtain ⟨s, da⟩ := p
      simp only at i0 hd HHS HF HK HIT
      obtain ⟨th, hth⟩ : ∃ t, t = hasN (l.take k) nm := ⟨_, rfl⟩
      rw [← hth] at HHS ⊢
      have HBL := hid hbl
      have hbz := hbl.size
      clear hbl hs3 hp hth
      go_wp2_with fail
      refine HF.out.mono ?_
      rintro e w4 ⟨hb4, hfr⟩
      have hfs := HK.out e w4 hfr
      rw [HIT.out] at hfs
      obtain ⟨v4, rfl, hv4⟩ : ∃ v, e = .returned (.tuple #[v, .int .i64 0]) ∧ SlB w4 w4.heap.size v da := by
        rcases hfs with ⟨_, h⟩ | ⟨h, _⟩
        · exact h
        · exact absurd rfl h
      obtain ⟨xa, xn, xc, rfl⟩ := slB_shape hv4
      have hd4 := hd.below hb4 (by have := HO3.out.2.size; omega)
      have hc := slB_convs hv4
      have hz4 := hb4.size
      have hz3 := HO3.out.2.size
      have hc' := slB_convs (hd4.mono (by omega : w.heap.size ≤ w4.heap.size))
      obtain ⟨ya, yn, yc, rfl⟩ := slB_shape hd
      have M0 : ∀ w', Below w4.heap.size w4 w' → w'.cell? ⟨b, o, none⟩ = some (.string ⟨s.toArray⟩) := fun w' h => (h.cell (p := ⟨b, o, none⟩) (by show b < _; omega)).trans ((hb4.cell (p := ⟨b, o, none⟩) (by show b < _; omega)).trans i0)
      have M1 : ∀ w', Below w4.heap.size w4 w' → w'.cell? ⟨b, o + 1, none⟩ = some (.slice ya yn yc) := fun w' h => (h.cell (p := ⟨b, o + 1, none⟩) (by show b < _; omega)).trans ((hb4.cell (p := ⟨b, o + 1, none⟩) (by show b < _; omega)).trans i1)
      have HB4 := hid (HBL.out.trans (hb4.mono HBL.out.size))
      clear hfs hfr hd hd4 hv4 hb4 i0 i1
      go_wp2_with fail
      go_region_held3 (fun w' => Below w4.heap.size w4 w') (first | exact (Below.refl _ _).drew | assumption | exact Below.drew (by assumption))
        (first | (go_at_call 18; refine (bnumE_any _ _).mono ?_; rintro e w' ⟨rfl, rfl⟩))
      have m0 := M0 w4.drew (Below.refl _ _).drew
      have HB5 := hid HB4.out.drew
      clear M0 M1 hc hc'
      cases th <;> cases hq : (s == nm) <;> rw [hq] at HHS
      all_goals
        go_wp2_with fail
        go_roundw
        case rel => exact ⟨k + 1, by omega, by rw [HHS.out]; rfl, by go_num, HB5.out⟩
        case measure => simp [intOf]; omega
    · obtain rfl : k = l.length := by omega
      rw [List.take_length]
      have HF := hid (bfind_any (l.map itm) HGd.out _ nm wr hs3)
      have HBL := hid hbl
      have hbz := hbl.size
      obtain ⟨th, hth⟩ : ∃ t, t = hasN l nm := ⟨_, rfl⟩
      rw [← hth]
      clear hs3 hbl
      go_wp2_with fail
      refine HF.out.mono ?_
      rintro e w4 ⟨hb4, hfr⟩
      obtain ⟨v4, rfl⟩ := fres_any hfr
      rw [← hth]
      have hb34 := HBL.out.trans (hb4.mono hbz)
      have h4 := (H3.out.1.below hb34 HO3.out.2.size).mono (Nat.le_trans HO3.out.2.size hb34.size)
      have HP := hid (parts_any l lv w4 h4 (by omega))
      have HM := hid ((HO3.out.1.below hb34 (Nat.le_refl _)).mono hb34.size)
      have HB4 := hid (HO3.out.2.trans (hb34.mono HO3.out.2.size))
      clear hfr hb4 hb34 h4 hth
      cases th
      all_goals
        go_wp2_with (go_at_call 18; refine (bnumE_any _ _).mono ?_; rintro e w' ⟨rfl, rfl⟩)
        refine HP.out.mono ?_
        rintro e w5 ⟨nv, rfl, hp5, hb5⟩
        have HS := hid (bsame_any l mv nv w5 ((HM.out.below hb5 (Nat.le_refl _)).mono hb5.size) hp5)
        have HB5 := hid (HB4.out.trans (hb5.mono HB4.out.size))
        clear hb5 hp5
        go_wp2_with fail
        refine HS.out.mono ?_
        rintro e w6 ⟨rfl, hb6⟩
        have HB6 := hid (HB5.out.trans (hb6.mono HB5.out.size))
        clear hb6
        go_wp2_with (first
          | (go_at_call 14; refine (bawake_any _).mono ?_; rintro e w9 ⟨rfl, hb9⟩)
          | (go_at_call 18; refine (bnumE_any _ _).mono ?_; rintro e w' ⟨rfl, rfl⟩))
        go_ret
        exact ⟨rfl, HB6.out.trans (hb9.mono HB6.out.size)⟩
end Go.Proofs.Ytoccgpddmhhlgaa
