import Derived.Test.YtbklhhmcigangaaL7
import Derived.Test.YtbklhhmcigangaaK
import Derived.BigQuiet
import Derived.StillTailTactics
import Derived.Deep.RegionHeld3
import Derived.Deep.RegionLaw
namespace Go.Lr
/-- a cache behind a Get -/
def getM (c : CM) (k : Int) : CM := match find c.all k with
  | none => c
  | some _ => ⟨c.room, setE c.all k fun q => { q with used := c.uses + 1 }, c.uses + 1⟩
/-- a cache behind a Drop -/
def dropM (c : CM) (k : Int) : CM := { c with all := delE (loose c.all k) k }
end Go.Lr
namespace Go.Proofs.Ytbklhhmcigangaa
open Go.RowKit Go.Mx Go.Lr Go.Maps
set_option linter.unusedVariables false
set_option linter.unusedSimpArgs false
section
variable {w w' : World} {base p m : Nat} {c : CM} {fs : List PR}
/-- what a Get answers: own bytes, made behind the world w1 -/
def GetP (base p m : Nat) (c : CM) (fs : List PR) (w : World) (k : Int) (e : Ending) (w' : World) : Prop :=
  (Lr.find c.all k = none ∧ e = .returned (.tuple #[.slice none 0 0, .bool false]) ∧ Below w.heap.size w w') ∨
  ∃ g v fs' w1, Lr.find c.all k = some g ∧ e = .returned (.tuple #[v, .bool true]) ∧ CK w1 base p m (getM c k) fs' All ∧ Stp base p m w fs w1 fs' ∧ Below w1.heap.size w1 w' ∧ OwnB w' w1.heap.size 5 v g.b
set_option maxRecDepth 100000 in
set_option maxHeartbeats 1000000 in
theorem get_any (h : CK w base p m c fs All) (k : Int) (hk : isI k) (hu : c.uses ≤ 1000000000) (hbl : ∀ e ∈ c.all, e.pg.b.length ≤ 1000000) : Calls Try.prog 20 #[cp p, .int .i64 k] w (GetP base p m c fs w k) := by
  have hlk := h.look k hk
  have c1 := h.cells.2.1
  rcases h.who k with ⟨h1, h2⟩ | ⟨i, f, hi, hfk, h1, h2⟩
  · rw [h1] at hlk
    replace hlk : (Instr.lookup 56 (.map (some m)) (.int .i64 k) false).run Try.prog w = .ok (.pointer none) w := hlk
    have HF := hid h2
    clear h h1 h2
    go_enter Try.func20, Try.ntmps20
    go_wp2
    go_ret2
    exact .inl ⟨HF.out, rfl, Below.refl _ _⟩
  · rw [h1] at hlk
    replace hlk : (Instr.lookup 56 (.map (some m)) (.int .i64 k) false).run Try.prog w = .ok (.pointer (some ⟨f.fb, 0, none⟩)) w := hlk
    have HU := hid (use_any h hi trivial hu)
    have hset := setE_set (fun q => { q with used := c.uses + 1 }) fs i f (usedPR f (c.uses + 1)) h.nodup hi rfl
    have hgm : (⟨c.room, (fs.set i (usedPR f (c.uses + 1))).map (·.en), c.uses + 1⟩ : CM) = getM c k := by
      unfold getM; rw [h2, hset, h.all, hfk]
    have hfl : i < fs.length := (List.getElem?_eq_some_iff.1 hi).1
    have hfi : (fs.set i (usedPR f (c.uses + 1)))[i]? = some (usedPR f (c.uses + 1)) := by rw [List.getElem?_set_self hfl]
    have hbl' : f.en.pg.b.length ≤ 1000000 := hbl f.en (by rw [h.all]; exact List.mem_map_of_mem (List.mem_of_getElem? hi))
    have HF := hid (And.intro h2 (And.intro hgm (And.intro hfi (And.intro hbl' hfk))))
    obtain ⟨fb, hfb⟩ : ∃ y, y = f.fb := ⟨_, rfl⟩
    rw [← hfb] at hlk HU
    have HB := hid hfb
    have H0 := hid h
    clear h h1 h2 hset hgm hfi hbl hbl' hfb hi hfk hfl
    go_enter Try.func20, Try.ntmps20
    go_wp2_with fail
    refine HU.out.mono ?_
    rintro e w1 ⟨rfl, hc1, hs1⟩
    have hlk1 := hc1.look k hk
    have hla := hc1.lookAt HF.out.2.2.1
    rw [show (usedPR f (c.uses + 1)).en.k = k from HF.out.2.2.2.2] at hla
    rw [hla] at hlk1
    replace hlk1 : (Instr.lookup 56 (.map (some m)) (.int .i64 k) false).run Try.prog w1 = .ok (.pointer (some ⟨fb, 0, none⟩)) w1 := by rw [hlk1, HB.out]; rfl
    have c11 := hc1.cells.2.1
    have d0 := (hc1.pcells HF.out.2.2.1).1
    replace d0 : w1.cell? ⟨fb, 0, none⟩ = some f.bv := by rw [HB.out]; exact d0
    have hob : OwnB w1 base 5 f.bv f.en.pg.b := hc1.ob i (usedPR f (c.uses + 1)) HF.out.2.2.1
    have HCL := hid (clone_b f.bv f.en.pg.b w1.heap.size w1 hob.slB (Nat.le_refl _) HF.out.2.2.2.1)
    obtain ⟨bv, hbv⟩ : ∃ x, x = f.bv := ⟨_, rfl⟩
    rw [← hbv] at d0 HCL
    obtain ⟨oa, on, oc, rfl⟩ : ∃ oa n c, bv = .slice oa n c := by
      have := hc1.sb i (usedPR f (c.uses + 1)) HF.out.2.2.1
      rw [hbv]; exact this
    rw [HF.out.2.1] at hc1
    have H1 := hid (And.intro hc1 hs1)
    clear hc1 hs1 hla hob hbv HU
    go_wp2_with fail
    refine HCL.out.mono ?_
    rintro e w2 ⟨v2, rfl, ho2, hb2⟩
    have H2 := hid (And.intro ho2 hb2)
    clear ho2 hb2
    go_wp2_with fail
    go_ret2
    exact .inr ⟨f.en.pg, v2, _, w1, HF.out.1, rfl, H1.out.1, H1.out.2, H2.out.2, H2.out.1⟩
set_option maxRecDepth 100000 in
theorem drop_any (h : CK w base p m c fs All) (k : Int) (hk : isI k) (hs : Sm c.all) : Calls Try.prog 26 #[cp p, .int .i64 k] w fun e w' => e = .returned (.tuple #[]) ∧ ∃ fs', CK w' base p m (dropM c k) fs' All ∧ Stp base p m w fs w' fs' := by
  have HLO := hid (loose_any h k hs)
  go_enter Try.func26, Try.ntmps26
  go_wp2_with fail
  refine HLO.out.mono ?_
  rintro e w5 ⟨rfl, fs5, hc5, hp5, hs5⟩
  have c1 := hc5.cells.2.1
  obtain ⟨w6, hrun, hpm6, hg6, hz6, hfz6⟩ := hc5.mp.del (t := 56) Try.underlying3 Try.underlying56 k hk.wf 0
  obtain ⟨hc6, hs6⟩ := hc5.delPage k hpm6 hg6
  have H6 := hid (And.intro hc6 (hs5.trans hs6))
  clear hc5 hp5 hs5 hpm6 hg6 hz6 hfz6 hc6 hs6 HLO
  go_wp2_with fail
  go_end0
  exact ⟨rfl, _, H6.out.1, H6.out.2⟩
/-- 'in': is a number in a list? -/
theorem in_any (l : List Int) (lv : Value) (k : Int) (B : Nat) (w : World) (hs : SlI w B lv l) (hB : B ≤ w.heap.size) (hn : l.length ≤ 1000000) : Calls Try.prog 21 #[lv, .int .i64 k] w fun e w' => e = .returned (.bool (decide (k ∈ l))) ∧ Below w.heap.size w w' := by
  have hlen := fun w' => hs.len (P := Try.prog) Try.underlying29 (ty := 3) w'
  have HS := hid hs
  obtain ⟨oa, nn, c, rfl⟩ : ∃ oa n c, lv = .slice oa n c := by obtain ⟨oa, c, rfl, _⟩ := hs; exact ⟨_, _, _, rfl⟩
  clear hs
  go_enter Try.func21, Try.ntmps21
  go_wp2_with fail
  go_loopw [5] (fun t wr => ∃ j : Nat, j ≤ l.length ∧ t = .int .i64 j ∧ Below w.heap.size w wr ∧ k ∉ l.take j) (fun t _ => l.length - (intOf t).toNat)
  case atStart => exact ⟨0, by omega, rfl, Below.refl _ _, by simp⟩
  case round =>
    obtain ⟨j, hj, rfl, hbl, hT⟩ := hrel
    by_cases hlt : j < l.length
    · obtain ⟨bb, bo, hbb, hia, hrow⟩ := (HS.out.below hbl hB).addr (P := Try.prog) Try.underlying29 size3 j hlt
      have hmem : l.getD j 0 ∈ l := by rw [List.getD_eq_getElem?_getD, List.getElem?_eq_getElem hlt]; exact List.getElem_mem _
      have HN := hid (show l.take (j + 1) = l.take j ++ [l.getD j 0] by rw [List.take_add_one, List.getElem?_eq_getElem hlt, List.getD_eq_getElem?_getD, List.getElem?_eq_getElem hlt]; rfl)
      obtain ⟨x, hx⟩ : ∃ x, x = l.getD j 0 := ⟨_, rfl⟩
      rw [← hx] at hrow hmem HN
      have HB := hid (And.intro hbl (And.intro hT hmem))
      clear hbl hT hx hmem
      by_cases hxk : x = k
      · subst hxk
        have hbe : (x == x) = true := by simp
        go_wp2_with fail
        go_ret
        exact ⟨by rw [decide_eq_true HB.out.2.2]; rfl, HB.out.1⟩
      · have hbe : (x == k) = false := by simpa using hxk
        have HXK := hid hxk
        clear hxk
        go_wp2_with fail
        exact ⟨⟨j + 1, by omega, by go_num, HB.out.1, by rw [HN.out, List.mem_append]; rintro (h | h); · exact HB.out.2.1 h
                                                         · simp at h; exact HXK.out h.symm⟩, by simp [intOf]; omega⟩
    · obtain rfl : j = l.length := by omega
      rw [List.take_length] at hT
      have HT := hid hT
      clear hT
      go_wp2
      go_ret
      exact ⟨by rw [decide_eq_false HT.out]; rfl, hbl⟩
end
end Go.Proofs.Ytbklhhmcigangaa

namespace Go.Lr
/-- keys by use, with one that was used last, so many at most -/
def lastM (l : List Int) (k : Int) (n : Nat) : List Int :=
  let o := (l.filter fun y => !(y == k)) ++ [k]
  if o.length > n then o.drop (o.length - n) else o
end Go.Lr
namespace Go.Proofs.Ytbklhhmcigangaa
open Go.RowKit Go.Mx Go.Lr Go.Maps
set_option linter.unusedVariables false
set_option linter.unusedSimpArgs false
set_option maxRecDepth 100000 in
set_option maxHeartbeats 1000000 in
theorem last_any (l : List Int) (lv : Value) (k : Int) (n B : Nat) (w : World) (hs : SlI w B lv l) (hB : B ≤ w.heap.size) (hn : l.length ≤ 1000) (hn2 : 1 ≤ n ∧ n ≤ 1000) : Calls Try.prog 22 #[lv, .int .i64 k, .int .i64 n] w fun e w' => ∃ v, e = .returned v ∧ SlI w' w'.heap.size v (lastM l k n) ∧ (∀ q, v.ownBlock = some q → w.heap.size ≤ q) ∧ Below w.heap.size w w' := by
  have hlen := fun w' => hs.len (P := Try.prog) Try.underlying29 (ty := 3) w'
  have HS := hid hs
  obtain ⟨oa, nn, c, rfl⟩ : ∃ oa n c, lv = .slice oa n c := by obtain ⟨oa, c, rfl, _⟩ := hs; exact ⟨_, _, _, rfl⟩
  clear hs
  go_enter Try.func22, Try.ntmps22
  go_wp2_with fail
  go_loopw [7, 8] (fun s t wr => ∃ j : Nat, j ≤ l.length ∧ t = .int .i64 j ∧ OwnI wr w.heap.size s ((l.take j).filter fun y => !(y == k)) ∧ Below w.heap.size w wr) (fun _ t _ => l.length - (intOf t).toNat)
  case atStart => exact ⟨0, by omega, rfl, OwnV.nil _ _ _, Below.refl _ _⟩
  case round =>
    obtain ⟨j, hj, rfl, ho, hbl⟩ := hrel
    obtain ⟨xa, xn, xc, rfl⟩ := ownG_shape (ownI_G ho)
    by_cases hlt : j < l.length
    · obtain ⟨bb, bo, hbb, hia, hrow⟩ := (HS.out.below hbl hB).addr (P := Try.prog) Try.underlying29 size3 j hlt
      have HN := hid (show l.take (j + 1) = l.take j ++ [l.getD j 0] by rw [List.take_add_one, List.getElem?_eq_getElem hlt, List.getD_eq_getElem?_getD, List.getElem?_eq_getElem hlt]; rfl)
      obtain ⟨x, hx⟩ : ∃ x, x = l.getD j 0 := ⟨_, rfl⟩
      rw [← hx] at hrow HN
      by_cases hxk : x = k
      · subst hxk
        have hbe : (x != x) = false := by simp
        have HB := hid (And.intro ho hbl)
        clear hbl ho hx
        go_wp2_with fail
        exact ⟨⟨j + 1, by omega, by go_num, by rw [HN.out, List.filter_append]; simpa using HB.out.1, HB.out.2⟩, by simp [intOf]; omega⟩
      · have hbe : (x != k) = true := by simpa using hxk
        have hfl : ((l.take j).filter fun y => !(y == k)).length ≤ 1000000000 := by have := List.length_filter_le (fun y => !(y == k)) (l.take j); simp at this; omega
        have hbA : Below wr.heap.size wr (wr.alloc (.cells #[.int .i64 x] 3)) := (Below.refl _ _).alloc (Nat.le_refl _) _
        have hoA : OwnI (wr.alloc (.cells #[.int .i64 x] 3)) w.heap.size (.slice xa xn xc) ((l.take j).filter fun y => !(y == k)) := OwnV.below ho hbA (Nat.le_refl _)
        have HB := hid (And.intro hbl (And.intro hbA hxk))
        have hz1 : w.heap.size ≤ (wr.alloc (.cells #[.int .i64 x] 3)).heap.size := by have := hbl.size; have := hbA.size; omega
        clear hbl hbA ho hx hxk
        go_wp2_with (at_builtin; refine append_i1 _ rfl _ _ 29 rfl Try.underlying29 info3 w.heap.size _ _ x rfl hoA _ _ rfl (cell_alloc1 _ _ _) hfl hz1 ?_)
        intro v' w1 ho1 hk1 hb1 hq1
        have H1 := hid (And.intro ho1 ((HB.out.1.trans (HB.out.2.1.mono HB.out.1.size)).trans hb1))
        clear ho1 hk1 hb1 hq1
        go_wp2_with fail
        refine ⟨⟨j + 1, by omega, by go_num, ?_, H1.out.2⟩, by simp [intOf]; omega⟩
        rw [HN.out, List.filter_append]
        have : [x].filter (fun y => !(y == k)) = [x] := by simp [HB.out.2.2]
        rw [this]; exact H1.out.1
    · obtain rfl : j = l.length := by omega
      rw [List.take_length] at ho
      obtain ⟨F, hF⟩ : ∃ F, F = l.filter fun y => !(y == k) := ⟨_, rfl⟩
      have hfl : F.length ≤ 1000 := by have := List.length_filter_le (fun y => !(y == k)) l; rw [hF]; omega
      rw [← hF] at ho
      have hfl2 : F.length ≤ 1000000000 := by omega
      have hbA : Below wr.heap.size wr (wr.alloc (.cells #[.int .i64 k] 3)) := (Below.refl _ _).alloc (Nat.le_refl _) _
      have hoA : OwnI (wr.alloc (.cells #[.int .i64 k] 3)) w.heap.size (.slice xa xn xc) F := OwnV.below ho hbA (Nat.le_refl _)
      have HB := hid (And.intro hbl (And.intro hbA hF))
      have hz1 : w.heap.size ≤ (wr.alloc (.cells #[.int .i64 k] 3)).heap.size := by have := hbl.size; have := hbA.size; omega
      clear hbl hbA ho hF
      go_wp2_with (at_builtin; refine append_i1 _ rfl _ _ 29 rfl Try.underlying29 info3 w.heap.size _ _ k rfl hoA _ _ rfl (cell_alloc1 _ _ _) hfl2 hz1 ?_)
      intro v' w1 ho1 hk1 hb1 hq1
      obtain ⟨L, hL⟩ : ∃ L, L = F ++ [k] := ⟨_, rfl⟩
      have hlenL := fun w' => ho1.slI.len (P := Try.prog) Try.underlying29 (ty := 3) w'
      rw [← hL] at ho1 hlenL
      have hll : L.length ≤ 1001 := by rw [hL]; simp; omega
      have hge : ∀ q, v'.ownBlock = some q → w.heap.size ≤ q := fun q e => (World.ownsRow.lt ho1 q e).1
      have hlm : lastM l k n = if L.length > n then L.drop (L.length - n) else L := by unfold lastM; rw [hL, HB.out.2.2]
      have HL := hid (And.intro hlm (And.intro ((HB.out.1.trans (HB.out.2.1.mono HB.out.1.size)).trans hb1) hge))
      by_cases hc : L.length ≤ n
      · have t1 : ¬ (n : Int) < (L.length : Int) := by omega
        have t2 : ¬ n < L.length := by omega
        obtain ⟨ya, yn, yc, rfl⟩ := ownG_shape (ownI_G ho1)
        have HO := hid ho1.slI
        clear ho1 hk1 hb1 hq1 hL hlm hge
        go_wp2_with fail
        go_ret
        exact ⟨_, rfl, by rw [HL.out.1, if_neg (by omega)]; exact HO.out, HL.out.2.2, HL.out.2.1⟩
      · have t1 : (n : Int) < (L.length : Int) := by omega
        have t2 : n < L.length := by omega
        obtain ⟨D, hD⟩ : ∃ D, D = L.length - n := ⟨_, rfl⟩
        have hD1 : IntKind.i64.wrap ((L.length : Int) - (n : Int)) = (D : Int) := by rw [IntWalk.i64_in _ (by omega)]; omega
        have hsl : SlI w1 w1.heap.size v' L := ho1.slI
        have hrl : (L.map fun n => [Value.int .i64 n]).length = L.length := by simp
        obtain ⟨v2, hs2, hr2⟩ := SlG.from (P := Try.prog) hsl Try.underlying29 size3 D (by rw [hrl]; omega)
        have hsh : ∃ a n c, v2 = .slice a n c ∧ ∀ q, v2.ownBlock = some q → w.heap.size ≤ q := by
          rcases (ownI_G ho1).shape with ⟨_, he⟩ | ⟨g, cap, he, hg1, hg2⟩
          · exfalso
            have := congrArg List.length he
            rw [hrl, hL] at this; simp at this
          · have hr9 := hr2
            have ho9 := ownI_G ho1
            rw [he] at hr9 ho9
            have hr3 := ho9.from (P := Try.prog) Try.underlying29 size3 D (by rw [hrl]; omega)
            have h1 := hr9 w .i64
            rw [hr3 w .i64] at h1
            injection h1 with h1 _
            exact ⟨_, _, _, h1.symm, fun q e => by rw [← h1] at e; cases e; exact hg1⟩
        obtain ⟨za, zn, zc, e2, hge2⟩ := hsh
        subst e2
        have HO := hid (show SlI w1 w1.heap.size (.slice za zn zc) (L.drop D) by unfold SlI; rw [List.map_drop]; exact hs2)
        have HG := hid (And.intro hge2 hD)
        obtain ⟨ya, yn, yc, rfl⟩ := ownG_shape (ownI_G ho1)
        clear ho1 hk1 hb1 hq1 hL hlm hge hs2 hge2 hD hsl hrl
        go_wp2_with fail
        go_ret
        exact ⟨_, rfl, by rw [HL.out.1, if_pos t2, ← HG.out.2]; exact HO.out, HG.out.1, HL.out.2.1⟩
end Go.Proofs.Ytbklhhmcigangaa

namespace Go.Mx
theorem perm_lift {α β : Type} {f : α → β} {s t : List β} (h : s.Perm t) : ∀ l : List α, l.map f = s → ∃ l', l.Perm l' ∧ l'.map f = t := by
  induction h with
  | nil => intro l hl; exact ⟨l, List.Perm.refl _, hl⟩
  | cons x _ ih =>
    intro l hl
    cases l with
    | nil => simp at hl
    | cons a l1 =>
      rw [List.map_cons, List.cons.injEq] at hl
      obtain ⟨l1', h1, h2⟩ := ih l1 hl.2
      exact ⟨a :: l1', h1.cons a, by rw [List.map_cons, h2, hl.1]⟩
  | swap x y r =>
    intro l hl
    match l, hl with
    | [], hl => simp at hl
    | [a], hl => simp at hl
    | a :: b :: l1, hl =>
      simp only [List.map_cons, List.cons.injEq] at hl
      exact ⟨b :: a :: l1, List.Perm.swap b a l1, by simp only [List.map_cons]; rw [hl.1, hl.2.1, hl.2.2]⟩
  | trans _ _ ih1 ih2 =>
    intro l hl
    obtain ⟨l1, h1, h2⟩ := ih1 l hl
    obtain ⟨l2, h3, h4⟩ := ih2 l1 h2
    exact ⟨l2, h1.trans h3, h4⟩
theorem look_perm {l l' : PL} (hp : l.Perm l') (hn : (l.map (·.1)).Nodup) (s : Int) : look l s = look l' s := by
  have hn' : (l'.map (·.1)).Nodup := (hp.map (·.1)).nodup_iff.1 hn
  have key : ∀ {l : PL}, (l.map (·.1)).Nodup → ∀ b, look l s = some b ↔ (s, b) ∈ l := by
    intro l
    induction l with
    | nil => intro _ b; simp [look]
    | cons p l ih =>
      intro hn b
      rw [List.map_cons, List.nodup_cons] at hn
      rw [look_cons]
      by_cases e : p.1 = s
      · rw [if_pos e]
        constructor
        · intro h; injection h with h; rw [← h, ← e]; exact List.mem_cons_self ..
        · intro h
          rcases List.mem_cons.1 h with h | h
          · rw [← h]
          · exact absurd (List.mem_map.2 ⟨(s, b), h, rfl⟩) (by rw [← e]; exact hn.1)
      · rw [if_neg e, ih hn.2]
        constructor
        · exact List.mem_cons_of_mem _
        · intro h
          rcases List.mem_cons.1 h with h | h
          · rw [← h] at e; exact absurd rfl e
          · exact h
  cases h1 : look l s with
  | some b => exact (((key hn' b).2 (hp.mem_iff.1 ((key hn b).1 h1)))).symm
  | none =>
    cases h2 : look l' s with
    | none => rfl
    | some b => rw [(key hn b).2 (hp.mem_iff.2 ((key hn' b).1 h2))] at h1; cases h1
theorem PM.perm {P : Program} {k : TypeId} {w : World} {m : Nat} {l l' : PL} (h : PM P k w m l) (hp : l.Perm l') : PM P k w m l' := by
  obtain ⟨D, h1, h2, h3, h4, h5, h6⟩ := h
  refine ⟨D, by rw [← hp.length_eq]; exact h1, by rw [← hp.length_eq]; exact h2, (hp.map (·.1)).nodup_iff.1 h3, fun p hp' => h4 p (hp.mem_iff.2 hp'), fun s => ?_, fun s => ?_⟩
  · rw [← look_perm hp h3]; exact h5 s
  · rw [← look_perm hp h3]; exact h6 s
end Go.Mx
namespace Go.Proofs.Ytbklhhmcigangaa
open Go.RowKit Go.Mx Go.Lr Go.Maps
set_option linter.unusedVariables false
set_option linter.unusedSimpArgs false
section
variable {w w' : World} {base p m : Nat} {c : CM} {fs : List PR}
theorem CK.perm (h : CK w base p m c fs All) {fs' : List PR} (hp : fs.Perm fs') : CK w base p m { c with all := fs'.map (·.en) } fs' All := by
  have back : ∀ {i : Nat} {f : PR}, fs'[i]? = some f → ∃ j, fs[j]? = some f := fun {i f} hi => List.getElem?_of_mem (hp.mem_iff.2 (List.mem_of_getElem? hi))
  have hnd : (fs'.map (·.en.k)).Nodup := (hp.map (·.en.k)).nodup_iff.1 h.nodup
  have apart : ∀ {i j : Nat} {f g : PR}, fs'[i]? = some f → fs'[j]? = some g → i ≠ j → f.en.k ≠ g.en.k := fun {i j f g} hi hj hij e => by
    have h1 : (fs'.map (·.en.k))[i]? = some f.en.k := by rw [List.getElem?_map, hi]; rfl
    have h2 : (fs'.map (·.en.k))[j]? = some f.en.k := by rw [List.getElem?_map, hj, e]; rfl
    obtain ⟨l1, e1⟩ := List.getElem?_eq_some_iff.1 h1
    obtain ⟨l2, e2⟩ := List.getElem?_eq_some_iff.1 h2
    have key := List.pairwise_iff_getElem.1 hnd
    rcases Nat.lt_trichotomy i j with h3 | h3 | h3
    · exact key i j l1 l2 h3 (e1.trans e2.symm)
    · exact hij h3
    · exact key j i l2 l1 h3 (e2.trans e1.symm)
  refine { all := rfl, ck := h.ck, hp := h.hp, hm := h.hm, mp := h.mp.perm (hp.map _), fc := fun i f hi => ?_, ob := fun i f hi => ?_, oa := fun i f hi _ => ?_, af := fun i j f g hi hj hij => ?_, aa := fun i j f g hi hj _ _ hij => ?_, sb := fun i f hi => ?_, sa := fun i f hi => ?_ }
  · obtain ⟨j, hj⟩ := back hi; exact h.fc j f hj
  · obtain ⟨j, hj⟩ := back hi; exact h.ob j f hj
  · obtain ⟨j, hj⟩ := back hi; exact h.oa j f hj trivial
  · obtain ⟨i', hi'⟩ := back hi
    obtain ⟨j', hj'⟩ := back hj
    refine h.af i' j' f g hi' hj' fun e => ?_
    subst e; rw [hi'] at hj'; cases hj'
    exact apart hi hj hij rfl
  · obtain ⟨i', hi'⟩ := back hi
    obtain ⟨j', hj'⟩ := back hj
    refine h.aa i' j' f g hi' hj' trivial trivial fun e => ?_
    subst e; rw [hi'] at hj'; cases hj'
    exact apart hi hj hij rfl
  · obtain ⟨j, hj⟩ := back hi; exact h.sb j f hj
  · obtain ⟨j, hj⟩ := back hi; exact h.sa j f hj
/-- a page more, whole -/
theorem CK.addFull (h : CK w base p m c fs All) (f : PR) (hb : w.heap.size ≤ f.fb) (hkp : Kept w w' (fun q => q ≠ m)) (hnb : w'.heap[f.fb]? = some (.cells (Go.Proofs.Ytbklhhmcigangaa.pcells f) 66 (0, 0)))
    (hob : OwnB w' w.heap.size 5 f.bv f.en.pg.b) (hoa : OwnI w' w.heap.size f.av f.en.pg.after) (hsb : ∃ oa n c, f.bv = .slice oa n c) (hsa : ∃ oa n c, f.av = .slice oa n c) (hm : PM Try.prog 3 w' m (plOf (fs ++ [f]))) :
    CK w' base p m { c with all := c.all ++ [f.en] } (fs ++ [f]) All := by
  obtain ⟨o, hmo, ho⟩ := h.mapObj
  have hold := fun {q : Nat} {c : Array Value} {t : TypeId} {fr : Nat × Nat} (hq : w.heap[q]? = some (.cells c t fr)) => (hkp.block q (blk_lt hq) (not_cells hmo ho hq)).trans hq
  have hbl := h.base_le
  refine { all := by show c.all ++ _ = _; rw [h.all]; simp, ck := hold h.ck, hp := h.hp, hm := h.hm, mp := hm, fc := ?_, ob := ?_, oa := ?_, af := ?_, aa := ?_, sb := ?_, sa := ?_ }
  · intro i g hi
    rcases newPR_at hi with hi | ⟨_, rfl⟩
    · exact ⟨hold (h.fc i g hi).1, (h.fc i g hi).2⟩
    · exact ⟨hnb, by omega⟩
  · intro i g hi
    rcases newPR_at hi with hi | ⟨_, rfl⟩
    · refine (h.ob i g hi).kept hkp fun q e => ?_
      obtain ⟨c9, f9, hc9⟩ := ownB_type (h.ob i g hi) q e
      exact not_cells hmo ho hc9
    · exact hob.any_base hbl
  · intro i g hi hv
    rcases newPR_at hi with hi | ⟨_, rfl⟩
    · refine ownI_kept (h.oa i g hi trivial) hkp fun q e => ?_
      obtain ⟨c9, f9, hc9⟩ := ownI_type (h.oa i g hi trivial) q e
      exact not_cells hmo ho hc9
    · exact OwnV.any_base hoa hbl
  · intro i j g1 g2 hi hj hij
    rcases newPR_at hi with xi | ⟨e1, e2⟩ <;> rcases newPR_at hj with xj | ⟨e3, e4⟩
    · exact h.af i j g1 g2 xi xj hij
    · have := blk_lt (h.fc i g1 xi).1; rw [e4]; omega
    · have := blk_lt (h.fc j g2 xj).1; rw [e2]; omega
    · omega
  · intro i j g1 g2 hi hj hv hv2 hij q h1 h2
    rcases newPR_at hi with xi | ⟨e1, e2⟩ <;> rcases newPR_at hj with xj | ⟨e3, e4⟩
    · exact h.aa i j g1 g2 xi xj trivial trivial hij q h1 h2
    · have := OwnV.lt (h.oa i g1 xi trivial) q h1
      rw [e4] at h2
      have := (World.ownsRow.lt hoa q h2).1
      omega
    · have := OwnV.lt (h.oa j g2 xj trivial) q h2
      rw [e2] at h1
      have := (World.ownsRow.lt hoa q h1).1
      omega
    · omega
  · intro i g hi
    rcases newPR_at hi with hi | ⟨_, rfl⟩
    · exact h.sb i g hi
    · exact hsb
  · intro i g hi
    rcases newPR_at hi with hi | ⟨_, rfl⟩
    · exact h.sa i g hi
    · exact hsa
end
set_option maxRecDepth 100000 in
theorem clone_i (v : Value) (l : List Int) (base : Nat) (w : World) (h : OwnI w base v l) (hl : l.length ≤ 1000000) : Calls Try.prog 47 #[v] w fun e w' => ∃ v', e = .returned v' ∧ OwnI w' w.heap.size v' l ∧ Below w.heap.size w w' := by
  have hone : ∀ r ∈ l.map fun n => [Value.int .i64 n], ∀ u ∈ r, u.oneCell' = true := by
    intro r hr u hu; simp at hr; obtain ⟨s, _, rfl⟩ := hr; simp at hu; subst hu; rfl
  rcases (ownI_G h).shape with ⟨rfl, hn⟩ | ⟨g, c, rfl, hg1, hg2⟩
  · have hl0 : l = [] := by cases l with
      | nil => rfl
      | cons a r => simp at hn
    subst hl0
    clear h hone
    have hq : ∀ w', (binOp .eql 29 (.slice none 0 0) (.slice none 0 0)).run Try.prog w' = .ok (.bool true) w' := fun w' => run_eql_nil_slice w' 29 3 none 0 0 0 0 Try.underlying29
    go_enter Try.func47, Try.ntmps47
    go_wp2
    go_ret
    exact ⟨_, rfl, OwnV.nil _ _ _, Below.refl _ _⟩
  · have hlm : (l.map fun n => [Value.int .i64 n]).length = l.length := by simp
    have hG := ownI_G h
    rw [hlm] at hG ⊢
    have hq : ∀ w', (binOp .eql 29 (.slice (some ⟨g, 0, none⟩) l.length c) (.slice none 0 0)).run Try.prog w' = .ok (.bool false) w' := fun w' => Lib.run_eql_slice_nil w' 29 3 _ _ _ _ _ Try.underlying29
    have hbA : Below w.heap.size w (w.alloc (.cells #[] 3)) := (Below.refl _ _).alloc (Nat.le_refl _) _
    have hG2 := hG.below hbA (Nat.le_refl _)
    have HB := hid hbA
    have hx1 : ((([] : List (List Value)).length + (l.map fun n => [Value.int .i64 n]).length) * 8) ≤ 140737488355328 := by simp; omega
    have hx2 : (([] : List (List Value)).length + (l.map fun n => [Value.int .i64 n]).length) ≤ 140737488355328 := by simp; omega
    have hx3 : w.heap.size ≤ (w.alloc (.cells #[] 3)).heap.size := hbA.size
    clear h hG hbA hlm
    go_enter Try.func47, Try.ntmps47
    go_wp2_with (at_builtin; refine append_gs _ rfl _ _ 29 3 (.int .i64 0) 1 8 rfl Try.underlying29 info3 rfl (by decide) w.heap.size _ [] rfl (OwnG.empty w 3 1) base 3 _ (l.map fun n => [Value.int .i64 n]) rfl hG2 hone hx1 hx2 hx3 ?_)
    intro v' w' ho' hg' hb'
    have hb := HB.out.trans hb'
    have ho' : OwnI w' w.heap.size v' l := ownG_I (by simpa using ho')
    have HO := hid (And.intro ho' hb)
    clear hg' hb' ho' hb
    go_wp2
    go_ret
    exact ⟨_, rfl, HO.out.1, HO.out.2⟩
theorem load_any (b : Nat) (x : Int) (w : World) (hc : w.cell? ⟨b, 2, none⟩ = some (.int .i64 x)) : Calls Try.prog 46 #[.pointer (some ⟨b, 2, none⟩)] w fun e w' => e = .returned (.int .i64 x) ∧ w' = w := by
  have hadd := run_call_load (P := Try.prog) Try.func65 (by kernel_rfl) (by kernel_rfl) (by kernel_rfl) .i64 (by kernel_rfl) hc
  go_enter Try.func46, Try.ntmps46
  go_wp2
  go_ret
  exact ⟨rfl, rfl⟩
theorem store_any (b : Nat) (x y : Int) (w : World) (hc : w.cell? ⟨b, 2, none⟩ = some (.int .i64 x)) (hz : w.frozen? ⟨b, 2, none⟩ = false) : Calls Try.prog 45 #[.pointer (some ⟨b, 2, none⟩), .int .i64 y] w fun e w' => e = .returned (.tuple #[]) ∧ w' = w.setCell ⟨b, 2, none⟩ (.int .i64 y) := by
  have hadd := run_call_store (P := Try.prog) Try.func64 (by kernel_rfl) (by kernel_rfl) (by kernel_rfl) (by kernel_rfl) (k := .i64) (y := y) hc hz
  go_enter Try.func45, Try.ntmps45
  go_wp2
  go_end0
  exact ⟨rfl, rfl⟩
end Go.Proofs.Ytbklhhmcigangaa

namespace Go.Proofs.Ytbklhhmcigangaa
open Go.RowKit Go.Mx Go.Lr Go.Maps
set_option linter.unusedVariables false
set_option linter.unusedSimpArgs false
section
variable {w w' : World} {base p m : Nat} {c : CM} {fs : List PR}
theorem copy_perm (l : List En) (hn : (l.map (·.k)).Nodup) (left : Int → Bool) (e : En) (he : e ∈ l) (hl : left e.k = true) (ky : Int) (hk : ky = e.k) : ((l.filter fun e => !left e.k) ++ [e]).Perm (l.filter fun e => !(left e.k && !(e.k == ky))) := by
  subst hk
  have hnl : l.Nodup := List.Pairwise.of_map (·.k) (fun a b hab e => hab (by rw [e])) hn
  have huniq : ∀ g ∈ l, g.k = e.k → g = e := fun g hg hk => by
    obtain ⟨i, hi⟩ := List.getElem?_of_mem hg
    obtain ⟨j, hj⟩ := List.getElem?_of_mem he
    have h1 : (l.map (·.k))[i]? = some e.k := by rw [List.getElem?_map, hi]; simp [hk]
    have h2 : (l.map (·.k))[j]? = some e.k := by rw [List.getElem?_map, hj]; rfl
    obtain ⟨l1, e1⟩ := List.getElem?_eq_some_iff.1 h1
    obtain ⟨l2, e2⟩ := List.getElem?_eq_some_iff.1 h2
    have key := List.pairwise_iff_getElem.1 hn
    have hij : i = j := by
      rcases Nat.lt_trichotomy i j with h3 | h3 | h3
      · exact absurd (e1.trans e2.symm) (key i j l1 l2 h3)
      · exact h3
      · exact absurd (e2.trans e1.symm) (key j i l2 l1 h3)
    subst hij; rw [hi] at hj; exact Option.some.inj hj
  refine (List.perm_ext_iff_of_nodup ?_ (hnl.filter _)).2 fun g => ?_
  · rw [List.nodup_append]
    refine ⟨hnl.filter _, by simp, fun a ha b hb => ?_⟩
    simp at hb; subst hb
    rintro rfl
    have := (List.mem_filter.1 ha).2
    rw [hl] at this; cases this
  · rw [List.mem_append, List.mem_filter, List.mem_filter]
    constructor
    · rintro (⟨h1, h2⟩ | h1)
      · refine ⟨h1, ?_⟩
        simp only [Bool.not_eq_true'] at h2
        rw [h2]; rfl
      · simp at h1; subst h1; exact ⟨he, by simp⟩
    · rintro ⟨h1, h2⟩
      by_cases hg : g.k = e.k
      · right; simp [huniq g h1 hg]
      · left
        refine ⟨h1, ?_⟩
        have : (g.k == e.k) = false := by simpa using hg
        rw [this] at h2
        simpa using h2
set_option maxRecDepth 100000 in
set_option maxHeartbeats 1000000 in
theorem copy_any (h : CK w base p m c fs All) (hu : c.uses ≤ 1000000000) (hbl : ∀ e ∈ c.all, e.pg.b.length ≤ 1000000) (hs : Sm c.all) (hl : c.all.length ≤ 1000000) :
    Calls Try.prog 23 #[cp p] w fun e w' => e = .returned (cp (w.heap.size + 1)) ∧ Below w.heap.size w w' ∧ ∃ fs', CK w' w.heap.size (w.heap.size + 1) w.heap.size c fs' All := by
  obtain ⟨c0, c1, c2, cz⟩ := h.cells
  have h0 := new_ck w c.room
  have hb0 : Below w.heap.size w ((w.alloc (.map #[] 0)).alloc (.cells #[.int .i64 c.room, .map (some w.heap.size), .int .i64 0] 63)) := ((Below.refl _ _).alloc (Nat.le_refl _) _).alloc (by simp) _
  have hmm := @run_makeMap Try.prog
  obtain ⟨w1, hw1⟩ : ∃ x, x = (w.alloc (.map #[] 0)).alloc (.cells #[.int .i64 c.room, .map (some w.heap.size), .int .i64 0] 63) := ⟨_, rfl⟩
  have hz1 : w1.heap.size = w.heap.size + 2 := by rw [hw1]; simp
  have HW := hid hw1
  rw [← hw1] at h0 hb0
  have hld := load_any p (c.uses : Int) w1.drew ((hb0.drew.cell (p := ⟨p, 2, none⟩) h.plt).trans c2)
  have hst := store_any (w.heap.size + 1) 0 (c.uses : Int) w1.drew ((h0.below (Below.refl _ _).drew).cells.2.2.1) ((h0.below (Below.refl _ _).drew).cells.2.2.2 2)
  have h2 := ((h0.setUses c.uses).1).below (Below.refl _ _).drew
  have hb2 : Below w.heap.size w (w1.setCell ⟨w.heap.size + 1, 2, none⟩ (.int .i64 c.uses)).drew := (hb0.setCell (p := ⟨w.heap.size + 1, 2, none⟩) (Nat.le_succ _) _).drew
  have hz2 : (w1.setCell ⟨w.heap.size + 1, 2, none⟩ (.int .i64 c.uses)).drew.heap.size = w.heap.size + 2 := by
    have := hb0.size
    show (w1.setCell ⟨w.heap.size + 1, 2, none⟩ (.int .i64 c.uses)).heap.size = _
    simp [hz1]
  have HL := hid hld
  have HT := hid hst
  have H := hid (And.intro h (And.intro hu (And.intro hbl (And.intro hs hl))))
  clear h hu hbl hs hl hld hst hw1
  go_enter Try.func23, Try.ntmps23
  go_wp2_with fail
  rw [← HW.out]
  go_region_with (first
    | (go_at_call 46; refine HL.out.mono ?_; rintro e w' ⟨rfl, rfl⟩)
    | (go_at_call 45; refine HT.out.mono ?_; rintro e w' ⟨rfl, rfl⟩))
  obtain ⟨w2, hw2⟩ : ∃ x, x = (w1.setCell ⟨w.heap.size + 1, 2, none⟩ (.int .i64 c.uses)).drew := ⟨_, rfl⟩
  rw [← hw2] at h2 hb2 hz2 ⊢
  have hmp := (H.out.1.below hb2).mp
  have c12 : w2.cell? ⟨p, 1, none⟩ = some (.map (some m)) := (hb2.cell (p := ⟨p, 1, none⟩) H.out.1.plt).trans c1
  have H2 := hid (And.intro h2 hb2)
  clear h2 hb2 h0 hb0 c0 c1 c2 cz hmm hw2 HL HT HW hz1
  go_wp2_with (first
    | (at_range; refine range_pm _ rfl _ rfl Try.underlying3 Try.underlying56 rfl hmp ?_; intro w0 hrg0 hg0 hs0)
    | go_in)
  rw [hz2] at hrg0 ⊢
  go_frame
  go_loopw [4] (fun _ wr => ∃ (left : Int → Bool) (cnt : Nat) (fs2 : List PR), RG Try.prog 3 wr m (w.heap.size + 2) (plOf fs) left cnt ∧ Below w.heap.size w wr ∧ CK wr w.heap.size (w.heap.size + 1) w.heap.size { c with all := c.all.filter fun e => !left e.k } fs2 All ∧ Free (w.heap.size + 1) w.heap.size fs2 (w.heap.size + 2)) (fun _ wr => wr.rangeLeft m (w.heap.size + 2))
  case atStart =>
    have hb0 : Below (w.heap.size + 2) w2 w0 := (Below.refl _ _).grown hg0 (by omega) (by simp)
    refine ⟨_, _, [], hrg0, H2.out.2.trans (hb0.mono (by omega)), ?_, ⟨by omega, by omega, by simp⟩⟩
    have e : c.all.filter (fun e => !(Mx.look (plOf fs) e.k).isSome) = [] := by
      rw [List.filter_eq_nil_iff]
      intro g hg
      rw [H.out.1.all] at hg
      obtain ⟨f, hf, rfl⟩ := List.mem_map.1 hg
      simp [look_memI hf]
    rw [e]
    exact H2.out.1.below (by rw [hz2]; exact hb0)
  case round =>
    obtain ⟨left, cnt, fs2, hrg, hb, hD, hfr⟩ := hrel
    clear hrg0 hg0 hs0 c12 hmp
    obtain ⟨wO, hwO⟩ : ∃ x, x = wr := ⟨_, rfl⟩
    subst hwO
    go_wp2_with (first
      | (at_next; refine next_pm _ rfl _ rfl Try.underlying3 (w.heap.size + 2) _ _ rfl hrg ?_ ?_)
      | go_in)
    · intro hl0
      have e : c.all.filter (fun e => !left e.k) = c.all := List.filter_eq_self.2 fun e _ => by rw [hl0]; rfl
      rw [e] at hD
      have HD := hid (And.intro hD hb)
      clear hD hb hrg hfr hl0 e
      go_wp2_with fail
      go_ret
      exact ⟨rfl, HD.out.2, fs2, HD.out.1⟩
    · intro s b w3 cnt1 hlk hls hrg1 hlt hg1 hs1 hen
      obtain ⟨i, f, hi, rfl, rfl⟩ := look_atI hlk
      obtain ⟨ia, ib, ic, hit⟩ := hrg.iter
      have hkr : Kept wO w3 (fun q => q ≠ w.heap.size + 2) := Kept.grown hg1 fun k hk hN => by cases hk; exact hN rfl
      have hD1 := hD.other hfr hkr (fun c f e => by rw [hit] at e; cases e)
      have hbr : Below w.heap.size w w3 := hb.trans ((Below.refl w.heap.size wO).grown hg1 (by have := hb.size; omega) (fun k hk => by cases hk; omega))
      have hS := H.out.1.below hbr
      obtain ⟨d0, d1, d2, d3, dz⟩ := hS.pcells hi
      obtain ⟨ba, bn, bc, hbv⟩ := hS.sb i f hi
      obtain ⟨va, vn, vc, hav⟩ := hS.sa i f hi
      have hob := hS.ob i f hi
      have hoa := hS.oa i f hi trivial
      have hbl9 : f.en.pg.b.length ≤ 1000000 := H.out.2.2.1 f.en (by rw [H.out.1.all]; exact List.mem_map_of_mem (List.mem_of_getElem? hi))
      have hal9 : f.en.pg.after.length ≤ 1000000 := H.out.2.2.2.1 f.en (by rw [H.out.1.all]; exact List.mem_map_of_mem (List.mem_of_getElem? hi))
      have hflt := blk_lt (H.out.1.fc i f hi).1
      have hfne : f.fb ≠ w.heap.size := by omega
      -- what a clone answers
      have HCB : Hid (∀ w', Kept w3 w' (fun q => q ≠ w.heap.size) → Calls Try.prog 27 #[f.bv] w' fun e w'' => ∃ v', e = .returned v' ∧ OwnB w'' w3.heap.size 5 v' f.en.pg.b ∧ Kept w3 w'' (fun q => q ≠ w.heap.size) ∧ Below w'.heap.size w' w'' ∧ ∃ oa n c, v' = .slice oa n c) := hid fun w' hk => by
        have h1 : OwnB w' base 5 f.bv f.en.pg.b := hob.kept hk fun q e => by
          have := (H.out.1.ob i f hi).lt q e
          omega
        refine (clone_b f.bv f.en.pg.b w'.heap.size w' h1.slB (Nat.le_refl _) hbl9).mono fun e w'' ⟨v', he, ho, hb9⟩ => ⟨v', he, ho.any_base hk.size, hk.trans (Kept.of_below hb9 fun _ h _ => h), hb9, slB_shape ho.slB⟩
      have HCI : Hid (∀ w', Kept w3 w' (fun q => q ≠ w.heap.size) → Calls Try.prog 47 #[f.av] w' fun e w'' => ∃ v', e = .returned v' ∧ OwnI w'' w3.heap.size v' f.en.pg.after ∧ Kept w3 w'' (fun q => q ≠ w.heap.size) ∧ Below w'.heap.size w' w'' ∧ ∃ oa n c, v' = .slice oa n c) := hid fun w' hk => by
        have h1 : OwnI w' base f.av f.en.pg.after := ownI_kept hoa hk fun q e => by
          have := OwnV.lt (H.out.1.oa i f hi trivial) q e
          omega
        refine (clone_i f.av f.en.pg.after base w' h1 hal9).mono fun e w'' ⟨v', he, ho, hb9⟩ => ⟨v', he, OwnV.any_base ho hk.size, hk.trans (Kept.of_below hb9 fun _ h _ => h), hb9, ownG_shape (ownI_G ho)⟩
      rw [hbv] at HCB d0
      rw [hav] at HCI d3
      have hcl : ∀ (j : Nat) (u : Value), w3.cell? ⟨f.fb, j, none⟩ = some u → ∀ w', Kept w3 w' (fun q => q ≠ w.heap.size) → w'.cell? ⟨f.fb, j, none⟩ = some u := fun j u hu w' hk => (hk.cell (by have := hbr.size; omega) hfne).trans hu
      have e0 := hcl 0 _ d0
      have e1 := hcl 1 _ d1
      have e2 := hcl 2 _ d2
      have e3 := hcl 3 _ d3
      have em : ∀ w', Kept w3 w' (fun q => q ≠ w.heap.size) → w'.cell? ⟨w.heap.size + 1, 1, none⟩ = some (.map (some w.heap.size)) := fun w' hk => (hk.cell (by have := hD1.plt; exact this) (by omega)).trans hD1.cells.2.1
      obtain ⟨fb, hfb⟩ : ∃ y, y = f.fb := ⟨_, rfl⟩
      obtain ⟨ky, hK⟩ : ∃ y, y = f.en.k := ⟨_, rfl⟩
      obtain ⟨dd, hdd⟩ : ∃ y, y = f.en.pg.dirty := ⟨_, rfl⟩
      obtain ⟨us, hus⟩ : ∃ y, y = f.en.pg.used := ⟨_, rfl⟩
      obtain ⟨B, hB⟩ : ∃ y, y = f.en.pg.b := ⟨_, rfl⟩
      obtain ⟨A, hA⟩ : ∃ y, y = f.en.pg.after := ⟨_, rfl⟩
      rw [← hfb] at e0 e1 e2 e3 hen
      rw [← hK] at hen hls
      rw [← hdd] at e1
      rw [← hus] at e2
      rw [← hB] at HCB
      rw [← hA] at HCI
      have hKI : isI ky := by rw [hK]; exact hS.ksI f.en (by rw [H.out.1.all]; exact List.mem_map_of_mem (List.mem_of_getElem? hi))
      have HQ := hid (And.intro hfb (And.intro hK (And.intro hdd (And.intro hus (And.intro hB hA)))))
      have HN := hid (And.intro hD1 (And.intro hbr (And.intro hrg1 (And.intro hi (And.intro hls (And.intro hfr (And.intro hkr hs1)))))))
      have HM := hid (And.intro hrg.left_eq hlt)
      have hr0 : (0:Nat) = 0 := rfl
      clear hrg hrg1 hb hD hD1 hfr hkr hbr hS hob hoa hcl d0 d1 d2 d3 dz hlk hit hlt hg1 hi hbv hav hfb hK hdd hus hB hA hfne hflt hbl9 hal9 hr0
      go_wp2_with fail
      refine wp_region_held_drew (S := fun w' => Kept w3 w' (fun q => q ≠ w.heap.size)) (by kernel_rfl) (by exact Kept.drew _ _) (fun hHeld => ?_)
      refine wpAnyH_take (i := 0) (v := ?_) rfl (by kernel_rfl) (by kernel_rfl) (by kernel_rfl) (fun _ _ _ h => h) (Or.inl ⟨by rfl, ?_⟩) (by assumption) ?_
      rotate_left
      · (intro w hSw; (try dsimp only at hSw); go_simp; try (with_reducible rfl))
      try simp only [Act.put, List.getElem_toArray, List.getElem_cons_succ, List.getElem_cons_zero, List.setIfInBounds_toArray, List.set_cons_zero, List.set_cons_succ]
      refine wpAnyH_take (i := 1) (v := ?_) rfl (by kernel_rfl) (by kernel_rfl) (by kernel_rfl) (fun _ _ _ h => h) (Or.inl ⟨by rfl, ?_⟩) (by assumption) ?_
      rotate_left
      · (intro w hSw; (try dsimp only at hSw); go_simp; try (with_reducible rfl))
      try simp only [Act.put, List.getElem_toArray, List.getElem_cons_succ, List.getElem_cons_zero, List.setIfInBounds_toArray, List.set_cons_zero, List.set_cons_succ]
      refine wpAnyH_take (i := 2) (v := ?_) rfl (by kernel_rfl) (by kernel_rfl) (by kernel_rfl) (fun _ _ _ h => h) (Or.inl ⟨by rfl, ?_⟩) (by assumption) ?_
      rotate_left
      · (intro w hSw; (try dsimp only at hSw); go_simp; try (with_reducible rfl))
      try simp only [Act.put, List.getElem_toArray, List.getElem_cons_succ, List.getElem_cons_zero, List.setIfInBounds_toArray, List.set_cons_zero, List.set_cons_succ]
      refine wpAnyH_take (i := 3) (v := ?_) rfl (by kernel_rfl) (by kernel_rfl) (by kernel_rfl) (fun _ _ _ h => h) (Or.inl ⟨by rfl, ?_⟩) (by assumption) ?_
      rotate_left
      · (intro w hSw; (try dsimp only at hSw); go_simp; try (with_reducible rfl))
      try simp only [Act.put, List.getElem_toArray, List.getElem_cons_succ, List.getElem_cons_zero, List.setIfInBounds_toArray, List.set_cons_zero, List.set_cons_succ]
      refine wpAnyH_take (i := 4) (v := ?_) rfl (by kernel_rfl) (by kernel_rfl) (by kernel_rfl) (fun _ _ _ h => h) (Or.inl ⟨by rfl, ?_⟩) (by assumption) ?_
      rotate_left
      · (intro w hSw; (try dsimp only at hSw); go_simp; try (with_reducible rfl))
      try simp only [Act.put, List.getElem_toArray, List.getElem_cons_succ, List.getElem_cons_zero, List.setIfInBounds_toArray, List.set_cons_zero, List.set_cons_succ]
      refine wpAnyH_take (i := 5) (v := ?_) rfl (by kernel_rfl) (by kernel_rfl) (by kernel_rfl) (fun _ _ _ h => h) (Or.inl ⟨by rfl, ?_⟩) (by assumption) ?_
      rotate_left
      · (intro w hSw; (try dsimp only at hSw); go_simp; try (with_reducible rfl))
      try simp only [Act.put, List.getElem_toArray, List.getElem_cons_succ, List.getElem_cons_zero, List.setIfInBounds_toArray, List.set_cons_zero, List.set_cons_succ]
      refine wpAnyH_take (i := 6) (v := ?_) rfl (by kernel_rfl) (by kernel_rfl) (by kernel_rfl) (fun _ _ _ h => h) (Or.inl ⟨by rfl, ?_⟩) (by assumption) ?_
      rotate_left
      · (intro w hSw; (try dsimp only at hSw); go_simp; try (with_reducible rfl))
      try simp only [Act.put, List.getElem_toArray, List.getElem_cons_succ, List.getElem_cons_zero, List.setIfInBounds_toArray, List.set_cons_zero, List.set_cons_succ]
      refine wpAnyH_take (i := 7) (v := ?_) rfl (by kernel_rfl) (by kernel_rfl) (by kernel_rfl) (fun _ _ _ h => h) (Or.inl ⟨by rfl, ?_⟩) (by assumption) ?_
      rotate_left
      · (intro w hSw; (try dsimp only at hSw); go_simp; try (with_reducible rfl))
      try simp only [Act.put, List.getElem_toArray, List.getElem_cons_succ, List.getElem_cons_zero, List.setIfInBounds_toArray, List.set_cons_zero, List.set_cons_succ]
      refine wpAnyH_take (i := 8) (v := ?_) rfl (by kernel_rfl) (by kernel_rfl) (by kernel_rfl) (fun _ _ _ h => h) (Or.inl ⟨by rfl, ?_⟩) (by assumption) ?_
      rotate_left
      · (intro w hSw; (try dsimp only at hSw); go_simp; try (with_reducible rfl))
      try simp only [Act.put, List.getElem_toArray, List.getElem_cons_succ, List.getElem_cons_zero, List.setIfInBounds_toArray, List.set_cons_zero, List.set_cons_succ]
      refine wpAnyH_take (i := 10) (v := ?_) rfl (by kernel_rfl) (by kernel_rfl) (by kernel_rfl) (fun _ _ _ h => h) (Or.inl ⟨by rfl, ?_⟩) (by assumption) ?_
      rotate_left
      · (intro w hSw; (try dsimp only at hSw); go_simp; try (with_reducible rfl))
      try simp only [Act.put, List.getElem_toArray, List.getElem_cons_succ, List.getElem_cons_zero, List.setIfInBounds_toArray, List.set_cons_zero, List.set_cons_succ]
      refine wpAnyH_take (i := 11) (v := ?_) rfl (by kernel_rfl) (by kernel_rfl) (by kernel_rfl) (fun _ _ _ h => h) (Or.inl ⟨by rfl, ?_⟩) (by assumption) ?_
      rotate_left
      · (intro w hSw; (try dsimp only at hSw); go_simp; try (with_reducible rfl))
      try simp only [Act.put, List.getElem_toArray, List.getElem_cons_succ, List.getElem_cons_zero, List.setIfInBounds_toArray, List.set_cons_zero, List.set_cons_succ]
      refine wpAnyH_take (i := 12) (v := ?_) rfl (by kernel_rfl) (by kernel_rfl) (by kernel_rfl) (fun _ _ _ h => h) (Or.inl ⟨by rfl, ?_⟩) (by assumption) ?_
      rotate_left
      · (intro w hSw; (try dsimp only at hSw); go_simp; try (with_reducible rfl))
      try simp only [Act.put, List.getElem_toArray, List.getElem_cons_succ, List.getElem_cons_zero, List.setIfInBounds_toArray, List.set_cons_zero, List.set_cons_succ]
      refine wpAnyH_take (i := 13) (v := ?_) rfl (by kernel_rfl) (by kernel_rfl) (by kernel_rfl) (fun _ _ _ h => h) (Or.inl ⟨by rfl, ?_⟩) (by assumption) ?_
      rotate_left
      · (intro w hSw; (try dsimp only at hSw); go_simp; try (with_reducible rfl))
      try simp only [Act.put, List.getElem_toArray, List.getElem_cons_succ, List.getElem_cons_zero, List.setIfInBounds_toArray, List.set_cons_zero, List.set_cons_succ]
      refine wpAnyH_take (i := 14) (v := ?_) rfl (by kernel_rfl) (by kernel_rfl) (by kernel_rfl) (fun _ _ _ h => h) (Or.inl ⟨by rfl, ?_⟩) (by assumption) ?_
      rotate_left
      · (intro w hSw; (try dsimp only at hSw); go_simp; try (with_reducible rfl))
      try simp only [Act.put, List.getElem_toArray, List.getElem_cons_succ, List.getElem_cons_zero, List.setIfInBounds_toArray, List.set_cons_zero, List.set_cons_succ]
      refine wpAnyH_take (i := 15) (v := ?_) rfl (by kernel_rfl) (by kernel_rfl) (by kernel_rfl) (fun _ _ _ h => h) (Or.inl ⟨by rfl, ?_⟩) (by assumption) ?_
      rotate_left
      · (intro w hSw; (try dsimp only at hSw); go_simp; try (with_reducible rfl))
      try simp only [Act.put, List.getElem_toArray, List.getElem_cons_succ, List.getElem_cons_zero, List.setIfInBounds_toArray, List.set_cons_zero, List.set_cons_succ]
      refine wpAnyH_take (i := 16) (v := ?_) rfl (by kernel_rfl) (by kernel_rfl) (by kernel_rfl) (fun _ _ _ h => h) (Or.inl ⟨by rfl, ?_⟩) (by assumption) ?_
      rotate_left
      · (intro w hSw; (try dsimp only at hSw); go_simp; try (with_reducible rfl))
      try simp only [Act.put, List.getElem_toArray, List.getElem_cons_succ, List.getElem_cons_zero, List.setIfInBounds_toArray, List.set_cons_zero, List.set_cons_succ]
      refine wpAnyH_take (i := 17) (v := ?_) rfl (by kernel_rfl) (by kernel_rfl) (by kernel_rfl) (fun _ _ _ h => h) (Or.inl ⟨by rfl, ?_⟩) (by assumption) ?_
      rotate_left
      · (intro w hSw; (try dsimp only at hSw); go_simp; try (with_reducible rfl))
      try simp only [Act.put, List.getElem_toArray, List.getElem_cons_succ, List.getElem_cons_zero, List.setIfInBounds_toArray, List.set_cons_zero, List.set_cons_succ]
      refine wpAnyH_take (i := 18) (v := ?_) rfl (by kernel_rfl) (by kernel_rfl) (by kernel_rfl) (fun _ _ _ h => h) (Or.inl ⟨by rfl, ?_⟩) (by assumption) ?_
      rotate_left
      · (intro w hSw; (try dsimp only at hSw); go_simp; try (with_reducible rfl))
      try simp only [Act.put, List.getElem_toArray, List.getElem_cons_succ, List.getElem_cons_zero, List.setIfInBounds_toArray, List.set_cons_zero, List.set_cons_succ]
      refine wpAnyH_take (i := 19) (v := ?_) rfl (by kernel_rfl) (by kernel_rfl) (by kernel_rfl) (fun _ _ _ h => h) (Or.inl ⟨by rfl, ?_⟩) (by assumption) ?_
      rotate_left
      · (intro w hSw; (try dsimp only at hSw); go_simp; try (with_reducible rfl))
      try simp only [Act.put, List.getElem_toArray, List.getElem_cons_succ, List.getElem_cons_zero, List.setIfInBounds_toArray, List.set_cons_zero, List.set_cons_succ]
      refine wpAnyH_take (i := 20) (v := ?_) rfl (by kernel_rfl) (by kernel_rfl) (by kernel_rfl) (fun _ _ _ h => h) (Or.inl ⟨by rfl, ?_⟩) (by assumption) ?_
      rotate_left
      · (intro w hSw; (try dsimp only at hSw); go_simp; try (with_reducible rfl))
      try simp only [Act.put, List.getElem_toArray, List.getElem_cons_succ, List.getElem_cons_zero, List.setIfInBounds_toArray, List.set_cons_zero, List.set_cons_succ]
      refine wpAnyH_take (i := 21) (v := ?_) rfl (by kernel_rfl) (by kernel_rfl) (by kernel_rfl) (fun _ _ _ h => h) (Or.inl ⟨by rfl, ?_⟩) (by assumption) ?_
      rotate_left
      · (intro w hSw; (try dsimp only at hSw); go_simp; try (with_reducible rfl))
      try simp only [Act.put, List.getElem_toArray, List.getElem_cons_succ, List.getElem_cons_zero, List.setIfInBounds_toArray, List.set_cons_zero, List.set_cons_succ]
      refine wpAnyH_ready (rs := [9]) (by kernel_rfl) (by simp) (AllReadyH.cons rfl (fun K hK => ?_) AllReadyH.nil)
      go_simp
      go_wp2_with ((go_at_call 27; refine (HCB.out _ hHeld).mono ?_; rintro e w5 ⟨v5, rfl, ho5, hk5, hb5, ⟨xa, xn, xc, rfl⟩⟩))
      refine hK.out _ _ (by assumption) (fun hHeld5 => ?_)
      clear hK K hHeld
      have hHeld := hHeld5
      clear hHeld5
      try simp only [Act.put, List.getElem_toArray, List.getElem_cons_succ, List.getElem_cons_zero, List.setIfInBounds_toArray, List.set_cons_zero, List.set_cons_succ]
      refine wpAnyH_ready (rs := [22]) (by kernel_rfl) (by simp) (AllReadyH.cons rfl (fun K hK => ?_) AllReadyH.nil)
      go_simp
      go_wp2_with ((go_at_call 47; refine (HCI.out _ hHeld).mono ?_; rintro e w6 ⟨v6, rfl, ho6, hk6, hb6, ⟨ya, yn, yc, rfl⟩⟩))
      refine hK.out _ _ (by assumption) (fun hHeld5 => ?_)
      clear hK K hHeld
      have hHeld := hHeld5
      clear hHeld5
      try simp only [Act.put, List.getElem_toArray, List.getElem_cons_succ, List.getElem_cons_zero, List.setIfInBounds_toArray, List.set_cons_zero, List.set_cons_succ]
      have hb35 : Below w3.heap.size w3 w5 := (Below.refl w3.heap.size w3).drew.trans hb5
      have hb36 : Below w3.heap.size w3 w6 := hb35.trans (hb6.mono hb35.size)
      have hb37 : Below w3.heap.size w3 (w6.alloc (.cells #[.slice xa xn xc, .bool dd, .int .i64 us, .slice ya yn yc] 66)) := hb36.alloc hb36.size _
      have hbA : Below w6.heap.size w6 (w6.alloc (.cells #[.slice xa xn xc, .bool dd, .int .i64 us, .slice ya yn yc] 66)) := (Below.refl _ _).alloc (Nat.le_refl _) _
      have hpg := alloc_new w6 (.cells #[.slice xa xn xc, .bool dd, .int .i64 us, .slice ya yn yc] 66)
      have hm2 := HN.out.1.mp.lt
      have hkys : fs2.map (·.en.k) = (c.all.filter fun e => !left e.k).map (·.k) := by
        have h1 : (c.all.filter fun e => !left e.k) = fs2.map (·.en) := HN.out.1.all
        rw [h1, List.map_map]; rfl
      have hlkn : Mx.look (plOf fs2) ky = none := by
        rw [look_none, plOf_names, hkys]
        intro hm9
        obtain ⟨e9, he9, hk9⟩ := List.mem_map.1 hm9
        have := (List.mem_filter.1 he9).2
        rw [hk9, hls] at this; cases this
      have hfl2 : (plOf fs2).length < maxLen := by
        have h1 := congrArg List.length hkys
        have h2 := List.length_filter_le (fun e : En => !left e.k) c.all
        have h3 := H.out.2.2.2.2
        simp only [List.length_map] at h1
        unfold plOf maxLen; rw [List.length_map]; omega
      obtain ⟨w8, hrun, hpm8, hg8, hz8, hf8⟩ := (HN.out.1.mp.block (hb37.block _ hm2)).upd (t := 56) Try.underlying3 Try.underlying56 ky hKI.wf w6.heap.size hfl2
      have hk78 : Kept (w6.alloc (.cells #[.slice xa xn xc, .bool dd, .int .i64 us, .slice ya yn yc] 66)) w8 (fun q => q ≠ w.heap.size) := Kept.grown hg8 fun k hk hN => by cases hk; exact hN rfl
      have hk38 : Kept w3 w8 (fun q => q ≠ w.heap.size) := (Kept.of_below hb37 fun _ h _ => h).trans hk78
      obtain ⟨f2, hf2⟩ : ∃ f2 : PR, f2 = ⟨f.en, w6.heap.size, .slice xa xn xc, .slice ya yn yc⟩ := ⟨_, rfl⟩
      have hpl : Mx.upd (plOf fs2) ky w6.heap.size = plOf (fs2 ++ [f2]) := by
        unfold Mx.upd; rw [hlkn, hf2, HQ.out.2.1]; simp [plOf]
      rw [hpl] at hpm8
      have hsz6 : w3.heap.size ≤ w6.heap.size := hb36.size
      have hm3 : w.heap.size < w3.heap.size := hm2
      have ho5' : OwnB w8 w3.heap.size 5 (.slice xa xn xc) f.en.pg.b := by
        rw [← HQ.out.2.2.2.2.1]
        have h1 := (ho5.below hb6 ho5.lt).below hbA fun q e => by have := ho5.lt q e; have := hb6.size; omega
        exact h1.kept hk78 fun q e => by have := (World.ownsRow.lt ho5 q e).1; omega
      have ho6' : OwnI w8 w3.heap.size (.slice ya yn yc) f.en.pg.after := by
        rw [← HQ.out.2.2.2.2.2]
        exact ownI_kept (OwnV.below ho6 hbA (Nat.le_refl _)) hk78 fun q e => by have := (World.ownsRow.lt ho6 q e).1; omega
      have hadd := HN.out.1.addFull f2 (w' := w8) (by rw [hf2]; exact hsz6) hk38 (by
        rw [hf2]
        have h1 := (hk78.block w6.heap.size (by simp) (by omega)).trans hpg
        show w8.heap[w6.heap.size]? = some (.cells #[.slice xa xn xc, .bool f.en.pg.dirty, .int .i64 f.en.pg.used, .slice ya yn yc] 66 (0, 0))
        rw [← HQ.out.2.2.1, ← HQ.out.2.2.2.1]; exact h1) (by rw [hf2]; exact ho5') (by rw [hf2]; exact ho6') (by rw [hf2]; exact ⟨_, _, _, rfl⟩) (by rw [hf2]; exact ⟨_, _, _, rfl⟩) hpm8
      have hknd : (c.all.map (·.k)).Nodup := by
        have := H.out.1.nodup
        rwa [H.out.1.all, List.map_map]
      have hfm : f.en ∈ c.all := by rw [H.out.1.all]; exact List.mem_map_of_mem (List.mem_of_getElem? HN.out.2.2.2.1)
      have hper : ((fs2 ++ [f2]).map (·.en)).Perm (c.all.filter fun e => !(left e.k && !(e.k == ky))) := by
        have h1 : (c.all.filter fun e => !left e.k) = fs2.map (·.en) := HN.out.1.all
        rw [List.map_append, ← h1]
        have e9 : [f2].map (·.en) = [f.en] := by rw [hf2]; rfl
        rw [e9]
        exact copy_perm c.all hknd left f.en hfm (by rw [← HQ.out.2.1]; exact hls) ky HQ.out.2.1
      obtain ⟨fs3, hp3, hm3'⟩ := perm_lift hper _ rfl
      have hck3 := hadd.perm hp3
      rw [hm3'] at hck3
      have hfr3 : Free (w.heap.size + 1) w.heap.size fs3 (w.heap.size + 2) := by
        have h1 := HN.out.2.2.2.2.2.1
        have hit9 := HN.out.2.2.1.lt
        refine ⟨h1.1, h1.2.1, fun j g hj => ?_⟩
        have hg9 := hp3.mem_iff.2 (List.mem_of_getElem? hj)
        rcases List.mem_append.1 hg9 with hg9 | hg9
        · obtain ⟨j', hj'⟩ := List.getElem?_of_mem hg9
          exact h1.2.2 j' g hj'
        · simp at hg9; rw [hg9, hf2]
          refine ⟨by show w.heap.size + 2 ≠ w6.heap.size; omega, fun e => ?_⟩
          have := (World.ownsRow.lt ho6 _ e).1
          omega
      have hrg3 : RG Try.prog 3 w8 m (w.heap.size + 2) (plOf fs) (fun t => left t && !(t == ky)) cnt1 := by
        have h1 := HN.out.2.2.1
        rw [← HQ.out.2.1] at h1
        have hmo := H.out.1.mp.lt
        exact h1.blocks (hk38.block m (by have := HN.out.2.1.size; omega) (by omega)) (hk38.block _ h1.lt (by omega))
      have hb8 : Below w.heap.size w w8 := HN.out.2.1.trans ((hb37.mono (by omega)).trans ((Below.refl w.heap.size _).grown hg8 (by simp; omega) (fun k hk => by cases hk; omega)))
      have HE := hid (And.intro hrg3 (And.intro hb8 (And.intro hck3 hfr3)))
      clear hb35 hb36 hb37 hbA hpg hm2 hkys hlkn hfl2 hpm8 hg8 hz8 hf8 hk78 hpl hsz6 hm3 ho5' ho6' hadd hknd hfm hper hp3 hm3' hck3 hfr3 hrg3 hb8 hf2 ho5 ho6 hb5 hb6
      have hk67 : Kept w3 (w6.alloc (.cells #[.slice xa xn xc, .bool dd, .int .i64 us, .slice ya yn yc] 66)) (fun q => q ≠ w.heap.size) := hk6.trans (Kept.alloc _ _ _)
      refine wpAnyH_take (i := 23) (v := ?_) rfl (by kernel_rfl) (by kernel_rfl) (by kernel_rfl) (fun _ _ _ h => h) (Or.inl ⟨by rfl, ?_⟩) (by assumption) ?_
      rotate_left
      · (intro w hSw; (try dsimp only at hSw); go_simp; try (with_reducible rfl))
      try simp only [Act.put, List.getElem_toArray, List.getElem_cons_succ, List.getElem_cons_zero, List.setIfInBounds_toArray, List.set_cons_zero, List.set_cons_succ]
      refine wpAnyH_ready (rs := [24]) (by kernel_rfl) (by simp) (AllReadyH.cons rfl (fun K hK => ?_) AllReadyH.nil)
      go_simp
      go_wp2_with (fail)
      refine hK.out _ _ (hk67) (fun hHeld5 => ?_)
      clear hK K hHeld
      have hHeld := hHeld5
      clear hHeld5
      try simp only [Act.put, List.getElem_toArray, List.getElem_cons_succ, List.getElem_cons_zero, List.setIfInBounds_toArray, List.set_cons_zero, List.set_cons_succ]
      refine wpAnyH_ready (rs := [25]) (by kernel_rfl) (by simp) (AllReadyH.cons rfl (fun K hK => ?_) AllReadyH.nil)
      go_simp
      go_wp2_with (fail)
      refine hK.out _ _ (hk38) (fun hHeld5 => ?_)
      clear hK K hHeld
      have hHeld := hHeld5
      clear hHeld5
      try simp only [Act.put, List.getElem_toArray, List.getElem_cons_succ, List.getElem_cons_zero, List.setIfInBounds_toArray, List.set_cons_zero, List.set_cons_succ]
      refine wpAnyH_done (by kernel_rfl) ?_ _
      clear hk67 hk38 hHeld hk5 hk6 e0 e1 e2 e3 em hen hrun
      go_wp2_with fail
      go_roundw
      case rel => exact ⟨_, _, fs3, HE.out⟩
      case measure =>
        rw [HE.out.1.left_eq, HM.out.1]; exact HM.out.2
end
end Go.Proofs.Ytbklhhmcigangaa

