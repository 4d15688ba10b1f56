import Derived.Test.YtbklhhmcigangaaW4
import Derived.Test.YtbklhhmcigangaaK
namespace Go.Lr
/-- keys by use, with one that was used last, so many at most -/
def lastM (l : List Int) (k : Int) (n : Nat) : List Int :=
  let o := (l.filter fun y => !(y == k)) ++ [k]
  if o.length > n then o.drop (o.length - n) else o
end Go.Lr
namespace Go.Proofs.Ytbklhhmcigangaa
open Go.RowKit Go.Mx Go.Lr Go.Maps
set_option linter.unusedVariables false
set_option linter.unusedSimpArgs false
set_option maxRecDepth 100000 in
set_option maxHeartbeats 1000000 in
theorem last_any (l : List Int) (lv : Value) (k : Int) (n B : Nat) (w : World) (hs : SlI w B lv l) (hB : B ≤ w.heap.size) (hn : l.length ≤ 1000) (hn2 : 1 ≤ n ∧ n ≤ 1000) : Calls Try.prog 22 #[lv, .int .i64 k, .int .i64 n] w fun e w' => ∃ v, e = .returned v ∧ SlI w' w'.heap.size v (lastM l k n) ∧ (∀ q, v.ownBlock = some q → w.heap.size ≤ q) ∧ Below w.heap.size w w' := by
  have hlen := fun w' => hs.len (P := Try.prog) Try.underlying29 (ty := 3) w'
  have HS := hid hs
  obtain ⟨oa, nn, c, rfl⟩ : ∃ oa n c, lv = .slice oa n c := by obtain ⟨oa, c, rfl, _⟩ := hs; exact ⟨_, _, _, rfl⟩
  clear hs
  go_enter Try.func22, Try.ntmps22
  go_wp2_with fail
  go_loopw [7, 8] (fun s t wr => ∃ j : Nat, j ≤ l.length ∧ t = .int .i64 j ∧ OwnI wr w.heap.size s ((l.take j).filter fun y => !(y == k)) ∧ Below w.heap.size w wr) (fun _ t _ => l.length - (intOf t).toNat)
  case atStart => exact ⟨0, by omega, rfl, OwnV.nil _ _ _, Below.refl _ _⟩
  case round =>
    obtain ⟨j, hj, rfl, ho, hbl⟩ := hrel
    obtain ⟨xa, xn, xc, rfl⟩ := ownG_shape (ownI_G ho)
    by_cases hlt : j < l.length
    · obtain ⟨bb, bo, hbb, hia, hrow⟩ := (HS.out.below hbl hB).addr (P := Try.prog) Try.underlying29 size3 j hlt
      have HN := hid (show l.take (j + 1) = l.take j ++ [l.getD j 0] by rw [List.take_add_one, List.getElem?_eq_getElem hlt, List.getD_eq_getElem?_getD, List.getElem?_eq_getElem hlt]; rfl)
      obtain ⟨x, hx⟩ : ∃ x, x = l.getD j 0 := ⟨_, rfl⟩
      rw [← hx] at hrow HN
      by_cases hxk : x = k
      · subst hxk
        have hbe : (x != x) = false := by simp
        have HB := hid (And.intro ho hbl)
        clear hbl ho hx
        go_wp2_with fail
        exact ⟨⟨j + 1, by omega, by go_num, by rw [HN.out, List.filter_append]; simpa using HB.out.1, HB.out.2⟩, by simp [intOf]; omega⟩
      · have hbe : (x != k) = true := by simpa using hxk
        have hfl : ((l.take j).filter fun y => !(y == k)).length ≤ 1000000000 := by have := List.length_filter_le (fun y => !(y == k)) (l.take j); simp at this; omega
        have hbA : Below wr.heap.size wr (wr.alloc (.cells #[.int .i64 x] 3)) := (Below.refl _ _).alloc (Nat.le_refl _) _
        have hoA : OwnI (wr.alloc (.cells #[.int .i64 x] 3)) w.heap.size (.slice xa xn xc) ((l.take j).filter fun y => !(y == k)) := OwnV.below ho hbA (Nat.le_refl _)
        have HB := hid (And.intro hbl (And.intro hbA hxk))
        have hz1 : w.heap.size ≤ (wr.alloc (.cells #[.int .i64 x] 3)).heap.size := by have := hbl.size; have := hbA.size; omega
        clear hbl hbA ho hx hxk
        go_wp2_with (at_builtin; refine append_i1 _ rfl _ _ 29 rfl Try.underlying29 info3 w.heap.size _ _ x rfl hoA _ _ rfl (cell_alloc1 _ _ _) hfl hz1 ?_)
        intro v' w1 ho1 hk1 hb1 hq1
        have H1 := hid (And.intro ho1 ((HB.out.1.trans (HB.out.2.1.mono HB.out.1.size)).trans hb1))
        clear ho1 hk1 hb1 hq1
        go_wp2_with fail
        refine ⟨⟨j + 1, by omega, by go_num, ?_, H1.out.2⟩, by simp [intOf]; omega⟩
        rw [HN.out, List.filter_append]
        have : [x].filter (fun y => !(y == k)) = [x] := by simp [HB.out.2.2]
        rw [this]; exact H1.out.1
    · obtain rfl : j = l.length := by omega
      rw [List.take_length] at ho
      obtain ⟨F, hF⟩ : ∃ F, F = l.filter fun y => !(y == k) := ⟨_, rfl⟩
      have hfl : F.length ≤ 1000 := by have := List.length_filter_le (fun y => !(y == k)) l; rw [hF]; omega
      rw [← hF] at ho
      have hfl2 : F.length ≤ 1000000000 := by omega
      have hbA : Below wr.heap.size wr (wr.alloc (.cells #[.int .i64 k] 3)) := (Below.refl _ _).alloc (Nat.le_refl _) _
      have hoA : OwnI (wr.alloc (.cells #[.int .i64 k] 3)) w.heap.size (.slice xa xn xc) F := OwnV.below ho hbA (Nat.le_refl _)
      have HB := hid (And.intro hbl (And.intro hbA hF))
      have hz1 : w.heap.size ≤ (wr.alloc (.cells #[.int .i64 k] 3)).heap.size := by have := hbl.size; have := hbA.size; omega
      clear hbl hbA ho hF
      go_wp2_with (at_builtin; refine append_i1 _ rfl _ _ 29 rfl Try.underlying29 info3 w.heap.size _ _ k rfl hoA _ _ rfl (cell_alloc1 _ _ _) hfl2 hz1 ?_)
      intro v' w1 ho1 hk1 hb1 hq1
      obtain ⟨L, hL⟩ : ∃ L, L = F ++ [k] := ⟨_, rfl⟩
      have hlenL := fun w' => ho1.slI.len (P := Try.prog) Try.underlying29 (ty := 3) w'
      rw [← hL] at ho1 hlenL
      have hll : L.length ≤ 1001 := by rw [hL]; simp; omega
      have hge : ∀ q, v'.ownBlock = some q → w.heap.size ≤ q := fun q e => (World.ownsRow.lt ho1 q e).1
      have hlm : lastM l k n = if L.length > n then L.drop (L.length - n) else L := by unfold lastM; rw [hL, HB.out.2.2]
      have HL := hid (And.intro hlm (And.intro ((HB.out.1.trans (HB.out.2.1.mono HB.out.1.size)).trans hb1) hge))
      by_cases hc : L.length ≤ n
      · have t1 : ¬ (n : Int) < (L.length : Int) := by omega
        have t2 : ¬ n < L.length := by omega
        obtain ⟨ya, yn, yc, rfl⟩ := ownG_shape (ownI_G ho1)
        have HO := hid ho1.slI
        clear ho1 hk1 hb1 hq1 hL hlm hge
        go_wp2_with fail
        go_ret
        exact ⟨_, rfl, by rw [HL.out.1, if_neg (by omega)]; exact HO.out, HL.out.2.2, HL.out.2.1⟩
      · have t1 : (n : Int) < (L.length : Int) := by omega
        have t2 : n < L.length := by omega
        obtain ⟨D, hD⟩ : ∃ D, D = L.length - n := ⟨_, rfl⟩
        have hD1 : IntKind.i64.wrap ((L.length : Int) - (n : Int)) = (D : Int) := by rw [IntWalk.i64_in _ (by omega)]; omega
        have hsl : SlI w1 w1.heap.size v' L := ho1.slI
        have hrl : (L.map fun n => [Value.int .i64 n]).length = L.length := by simp
        obtain ⟨v2, hs2, hr2⟩ := SlG.from (P := Try.prog) hsl Try.underlying29 size3 D (by rw [hrl]; omega)
        have hsh : ∃ a n c, v2 = .slice a n c ∧ ∀ q, v2.ownBlock = some q → w.heap.size ≤ q := by
          rcases (ownI_G ho1).shape with ⟨_, he⟩ | ⟨g, cap, he, hg1, hg2⟩
          · exfalso
            have := congrArg List.length he
            rw [hrl, hL] at this; simp at this
          · have hr9 := hr2
            have ho9 := ownI_G ho1
            rw [he] at hr9 ho9
            have hr3 := ho9.from (P := Try.prog) Try.underlying29 size3 D (by rw [hrl]; omega)
            have h1 := hr9 w .i64
            rw [hr3 w .i64] at h1
            injection h1 with h1 _
            exact ⟨_, _, _, h1.symm, fun q e => by rw [← h1] at e; cases e; exact hg1⟩
        obtain ⟨za, zn, zc, e2, hge2⟩ := hsh
        subst e2
        have HO := hid (show SlI w1 w1.heap.size (.slice za zn zc) (L.drop D) by unfold SlI; rw [List.map_drop]; exact hs2)
        have HG := hid (And.intro hge2 hD)
        obtain ⟨ya, yn, yc, rfl⟩ := ownG_shape (ownI_G ho1)
        clear ho1 hk1 hb1 hq1 hL hlm hge hs2 hge2 hD hsl hrl
        go_wp2_with fail
        go_ret
        exact ⟨_, rfl, by rw [HL.out.1, if_pos t2, ← HG.out.2]; exact HO.out, HG.out.1, HL.out.2.1⟩
end Go.Proofs.Ytbklhhmcigangaa
