import Derived.Test.YtbklhhmcigangaaRR
import Derived.Deep.RegionLaw
import Derived.BigQuiet
import Derived.StillTailTactics
import Derived.Deep.Cut
namespace Go.Mx
theorem ownB_G {w : World} {base : Nat} {e : TypeId} {v : Value} {l : List UInt8} (h : OwnB w base e v l) : OwnG w base e 1 v (l.map fun x => [u8 x]) := by
  have e1 : (l.map fun x => [u8 x]).flatten = l.map u8 := by
    clear h
    induction l with
    | nil => rfl
    | cons a l ih => simp [ih]
  refine ⟨by rw [e1, List.length_map]; exact h, fun r hr => ?_⟩
  obtain ⟨x, _, rfl⟩ := List.mem_map.1 hr; rfl
theorem ownG_B {w : World} {base : Nat} {e : TypeId} {v : Value} {l : List UInt8} (h : OwnG w base e 1 v (l.map fun x => [u8 x])) : OwnB w base e v l := by
  have e1 : (l.map fun x => [u8 x]).flatten = l.map u8 := by
    clear h
    induction l with
    | nil => rfl
    | cons a l ih => simp [ih]
  have := h.1
  rw [e1, List.length_map] at this; exact this
theorem slB_G {w : World} {B : Nat} {v : Value} {l : List UInt8} (h : SlB w B v l) : SlG w B 1 v (l.map fun x => [u8 x]) := by
  obtain ⟨oa, cap, rfl, h1, h2, h3⟩ := h
  refine ⟨oa, cap, by simp, by simpa using h1, by simpa using h2, fun hn => ?_⟩
  obtain ⟨bb, bo, rfl, hl, hr⟩ := h3 (by rintro rfl; simp at hn)
  refine ⟨bb, bo, rfl, hl, fun i hi j u hj => ?_⟩
  rw [List.length_map] at hi
  have hg : (l.map fun x => [u8 x]).getD i [] = [u8 (l.getD i 0)] := by
    rw [List.getD_eq_getElem?_getD, List.getElem?_map, List.getElem?_eq_getElem hi, List.getD_eq_getElem?_getD, List.getElem?_eq_getElem hi]; rfl
  rw [hg] at hj
  match j, hj with
  | 0, hj => simp at hj; subst hj; have := hr i hi; rw [show bo + i * 1 + 0 = bo + i by omega]; exact this
  | j + 1, hj => simp at hj
end Go.Mx
namespace Go.Lr
/-- bytes laid at a key, room not asked -/
def layR (r : RC) (k : Int) (b : List UInt8) (d : Bool) : RC := match atR r.l k with
  | none => { r with l := r.l ++ [⟨k, b, d⟩] }
  | some i => { r with l := cutR r.l i ++ [⟨k, b, (((r.l[i]?).map (·.d)).getD false) || d⟩] }
end Go.Lr
namespace Go.Proofs.Ytbklhhmcigangaa
open Go.RowKit Go.Mx Go.Lr Go.Maps
set_option linter.unusedVariables false
set_option linter.unusedSimpArgs false
section
variable {w w' : World} {base q : Nat} {r : RC} {ls : List PI} {lv rv : Value}
theorem rnew_any (n : Nat) (w : World) (h1 : 1 ≤ n) (h2 : n ≤ 1024) : Calls Try.prog 18 #[.int .i64 n] w fun e w' => e = .returned (.tuple #[cp w.heap.size, .int .i64 0]) ∧ RX w' w.heap.size w.heap.size ⟨n, [], []⟩ ∧ Below w.heap.size w w' := by
  have t1 : ¬ ((n : Int) < 1) := by omega
  have t2 : ¬ ((1024 : Int) < (n : Int)) := by omega
  have t3 : ¬ n < 1 := by omega
  have t4 : ¬ 1024 < n := by omega
  have t5 : ¬ n = 0 := by omega
  have hq := alloc_new w (.cells #[.int .i64 n, .slice none 0 0, .slice none 0 0] 81)
  have hb : Below w.heap.size w (w.alloc (.cells #[.int .i64 n, .slice none 0 0, .slice none 0 0] 81)) := (Below.refl _ _).alloc (Nat.le_refl _) _
  have hR : RX (w.alloc (.cells #[.int .i64 n, .slice none 0 0, .slice none 0 0] 81)) w.heap.size w.heap.size ⟨n, [], []⟩ :=
    ⟨[], _, _, { l := rfl, ck := hq, hq := Nat.le_refl _, ol := OwnG.nil _ _ _ _, orr := OwnG.nil _ _ _ _, ob := by simp, nd := by simp, ll := by simp, lr := by simp }⟩
  have H := hid (And.intro hR hb)
  clear hR hb hq
  go_enter Try.func18, Try.ntmps18
  go_wp2_with fail
  go_ret2
  exact ⟨rfl, H.out.1, H.out.2⟩
theorem rnew_bad (n : Int) (w : World) (h1 : n < 1 ∨ 1024 < n) : Calls Try.prog 18 #[.int .i64 n] w fun e w' => e = .returned (.tuple #[.pointer none, .int .i64 1]) ∧ Below w.heap.size w w' := by
  by_cases t1 : n < 1
  · go_enter Try.func18, Try.ntmps18
    go_wp2_with fail
    go_ret2
    exact ⟨rfl, Below.refl _ _⟩
  · have t2 : 1024 < n := by omega
    go_enter Try.func18, Try.ntmps18
    go_wp2_with fail
    go_ret2
    exact ⟨rfl, Below.refl _ _⟩
/-- the items grow -/
theorem RK.appL (h : RK w base q r ls lv rv) {ls' : List PI} {lv' : Value} (ho : OwnG w' base 88 3 lv' (ls'.map itrow)) (hg : w.grownBy w' lv.ownBlock) (hb : Below base w w') (hob' : ∀ f ∈ ls', f ∈ ls ∨ OwnB w' base 5 f.bv f.it.b) (hn : ((ls'.map (·.it)).map (·.k)).Nodup) (hl : ls'.length ≤ 2000) :
    RK (w'.setCell ⟨q, 1, none⟩ lv') base q { r with l := ls'.map (·.it) } ls' lv' rv ∧ RStp base w (w'.setCell ⟨q, 1, none⟩ lv') ∧ w'.cell? ⟨q, 1, none⟩ = some lv ∧ w'.frozen? ⟨q, 1, none⟩ = false := by
  have hk1 : Kept w w' (fun k => lv.ownBlock ≠ some k) := Kept.grown hg fun k e => by simp [e]
  have ne : ∀ {k : Nat} {c : Array Value} {t : TypeId} {f : Nat × Nat}, w.heap[k]? = some (.cells c t f) → t ≠ 88 → lv.ownBlock ≠ some k := fun {k c t f} hc ht e => by
    obtain ⟨c9, f9, hc9⟩ := ownG_type h.ol k e
    rw [hc9] at hc; simp only [Option.some.injEq, Obj.cells.injEq] at hc; exact ht hc.2.1.symm
  have hck : w'.heap[q]? = some (.cells #[.int .i64 r.room, lv, rv] 81 (0, 0)) := (hk1.block q h.qlt (ne h.ck (by decide))).trans h.ck
  have hk : Kept w' (w'.setCell ⟨q, 1, none⟩ lv') (fun k => k ≠ q) := Kept.set w' q 1 _ (by simp)
  have hor : OwnG w' base 98 2 rv (r.r.map relrow) := h.orr.kept hk1 fun k e => by
    obtain ⟨c9, f9, hc9⟩ := ownG_type h.orr k e; exact ne hc9 (by decide)
  have hob : ∀ f ∈ ls', OwnB w' base 5 f.bv f.it.b := fun f hf => by
    rcases hob' f hf with h1 | h1
    · exact (h.ob f h1).kept hk1 fun k e => by
        obtain ⟨c9, f9, hc9⟩ := ownB_type (h.ob f h1) k e; exact ne hc9 (by decide)
    · exact h1
  refine ⟨{ l := rfl, ck := heap_setCell_at' w' q 1 _ _ 81 (0, 0) hck, hq := h.hq, ol := ho.kept hk fun k e => ?_, orr := hor.kept hk fun k e => ?_, ob := fun f hf => (hob f hf).kept hk fun k e => ?_, nd := hn, ll := by show (ls'.map _).length ≤ _; rw [List.length_map]; exact hl, lr := h.lr }, ⟨hb.setCell (p := ⟨q, 1, none⟩) h.hq _, ⟨by have := hk.size; have := hk1.size; omega, fun k hkl hn => ?_⟩⟩, by simp [World.cell?, hck], by simp [World.frozen?, hck]⟩
  · obtain ⟨c, f, hc⟩ := ownG_type ho k e; exact blk_ne hc hck (by decide)
  · obtain ⟨c, f, hc⟩ := ownG_type hor k e; exact blk_ne hc hck (by decide)
  · obtain ⟨c, f9, hc⟩ := ownB_type (hob f hf) k e; exact blk_ne hc hck (by decide)
  · have h1 : lv.ownBlock ≠ some k := fun e => by
      obtain ⟨c9, f9, hc9⟩ := ownG_type h.ol k e
      exact (hn _ _ _ hc9).2.1 rfl
    have h2 : k ≠ q := by rintro rfl; exact (hn _ _ _ h.ck).1 rfl
    exact (hk.block k (by have := hk1.size; omega) h2).trans (hk1.block k hkl h1)
end
end Go.Proofs.Ytbklhhmcigangaa

namespace Go.Lr
/-- what a Put leaves and tells -/
def PutRR (r : RC) (ρ : Int → Nat) (k : Int) (b : List UInt8) (d : Bool) (r' : RC) (out : List Int) : Prop :=
  ((layR r k b d).l.length ≤ r.room ∧ r' = layR r k b d ∧ out = []) ∨
  ∃ x t, r.room < (layR r k b d).l.length ∧ (layR r k b d).l = x :: t ∧ out = writeL (layR r k b d) ρ x.k ∧ r' = { cleanR (writeR (layR r k b d) ρ x.k) x.k with l := (cleanR (writeR (layR r k b d) ρ x.k) x.k).l.drop 1 }
theorem atR_keys {l l' : List It} (h : l.map (·.k) = l'.map (·.k)) (k : Int) : atR l k = atR l' k := by
  induction l generalizing l' with
  | nil => cases l' with
    | nil => rfl
    | cons y l' => simp at h
  | cons x l ih => cases l' with
    | nil => simp at h
    | cons y l' =>
      simp only [List.map_cons, List.cons.injEq] at h
      unfold atR
      rw [h.1, ih h.2]
theorem set_keys {l : List It} {i : Nat} {x y : It} (hi : l[i]? = some x) (hk : y.k = x.k) : (l.set i y).map (·.k) = l.map (·.k) := by
  rw [List.map_set]
  apply List.ext_getElem?
  intro j
  rw [List.getElem?_set]
  split
  · rename_i e; subst e
    rw [List.getElem?_map, hi]
    have := (List.getElem?_eq_some_iff.1 hi).1
    rw [if_pos (by simpa using this), hk]; rfl
  · rfl
theorem cutR_set (l : List It) (i : Nat) (x : It) : cutR (l.set i x) i = cutR l i := by
  unfold cutR
  rw [List.take_set_of_le (Nat.le_refl _), List.drop_set_of_lt (Nat.lt_succ_self _)]
theorem atR_end {l : List It} {k : Int} (h : atR l k = none) (x : It) (hx : x.k = k) : atR (l ++ [x]) k = some l.length := by
  refine atR_of (it := x) (by simp) hx fun y hy => ?_
  simp at hy
  exact fun e => (atR_none.1 h) (List.mem_map.2 ⟨y, hy, e⟩)
/-- behind the place was found or made -/
def Lay0 (r : RC) (k : Int) (r1 : RC) (i : Nat) : Prop := (atR r.l k = some i ∧ r1 = r) ∨ (atR r.l k = none ∧ i = r.l.length ∧ r1 = { r with l := r.l ++ [⟨k, [], false⟩] })
theorem Lay0.at {r r1 : RC} {k : Int} {i : Nat} (h : Lay0 r k r1 i) : atR r1.l k = some i := by
  rcases h with ⟨h1, rfl⟩ | ⟨h1, rfl, rfl⟩
  · exact h1
  · exact atR_end h1 _ rfl
theorem Lay0.lay {r r1 : RC} {k : Int} {i : Nat} (h : Lay0 r k r1 i) {it : It} (hi : r1.l[i]? = some it) (hk : it.k = k) (b : List UInt8) (d : Bool) : useR { r1 with l := r1.l.set i ⟨k, b, it.d || d⟩ } k = layR r k b d := by
  have hat : atR (r1.l.set i ⟨k, b, it.d || d⟩) k = some i := by rw [atR_keys (set_keys hi hk.symm)]; exact h.at
  have hl := (List.getElem?_eq_some_iff.1 hi).1
  unfold useR
  simp only
  rw [hat]
  simp only
  rw [cutR_set, List.getElem?_set_self hl]
  rcases h with ⟨h1, rfl⟩ | ⟨h1, rfl, rfl⟩
  · unfold layR; rw [h1]; simp only; rw [hi]; rfl
  · unfold layR; rw [h1]; simp only
    have e : it.d = false := by
      rw [List.getElem?_append_right (Nat.le_refl _)] at hi
      simp at hi; rw [← hi]
    rw [e]
    simp [cutR]
theorem clean_len (r : RC) (k : Int) : (cleanR r k).l.length = r.l.length := by unfold cleanR offR; simp
theorem cleans_len (l : List Int) : ∀ r : RC, (l.foldl cleanR r).l.length = r.l.length ∧ (l.foldl cleanR r).room = r.room := by
  induction l with
  | nil => exact fun r => ⟨rfl, rfl⟩
  | cons x l ih => exact fun r => ⟨(ih (cleanR r x)).1.trans (clean_len r x), (ih (cleanR r x)).2⟩
end Go.Lr
namespace Go.Proofs.Ytbklhhmcigangaa
open Go.RowKit Go.Mx Go.Lr Go.Maps
set_option linter.unusedVariables false
set_option linter.unusedSimpArgs false
section
variable {w w' : World} {base q : Nat} {r : RC} {ls : List PI} {lv rv : Value}
/-- bytes go to an item: what the store needs -/
theorem RK.setB {g n c : Nat} (h : RK w base q r ls (.slice (some ⟨g, 0, none⟩) n c) rv) {i : Nat} {f : PI} (hi : ls[i]? = some f) {w2 : World} {b : List UInt8} {bv : Value} (hb : Below w.heap.size w w2) (ho : OwnB w2 w.heap.size 5 bv b) :
    RK (w2.setCell ⟨g, i * 3 + 1, none⟩ bv) base q { r with l := r.l.set i ⟨f.it.k, b, f.it.d⟩ } (ls.set i ⟨⟨f.it.k, b, f.it.d⟩, bv⟩) (.slice (some ⟨g, 0, none⟩) n c) rv ∧ RStp base w (w2.setCell ⟨g, i * 3 + 1, none⟩ bv) ∧ w2.frozen? ⟨g, i * 3 + 1, none⟩ = false := by
  have h2 := h.below hb
  obtain ⟨h3, h4, h5⟩ := h2.setItem (f' := ⟨⟨f.it.k, b, f.it.d⟩, bv⟩) hi 1 bv (by decide) rfl rfl rfl (ho.any_base h.base_le)
  exact ⟨h3, (RStp.below hb h.base_le).trans h4, h5⟩
def PutRP (base q : Nat) (r : RC) (ρ : Int → Nat) (k : Int) (b : List UInt8) (d : Bool) (w : World) (v : Value) (w' : World) : Prop :=
  ∃ out r', PutRR r ρ k b d r' out ∧ OwnI w' w.heap.size v out ∧ RX w' base q r' ∧ RStp base w w'
theorem PutRP.below {ρ : Int → Nat} {k : Int} {b : List UInt8} {d : Bool} {v : Value} {w2 : World} (h : PutRP base q r ρ k b d w v w') (hb : Below w'.heap.size w' w2) (hbs : base ≤ w'.heap.size) : PutRP base q r ρ k b d w v w2 := by
  obtain ⟨out, r', h1, h2, h3, h4⟩ := h
  exact ⟨out, r', h1, OwnV.below h2 hb (Nat.le_refl _), h3.below hb, h4.trans (RStp.below hb hbs)⟩
set_option maxRecDepth 100000 in
set_option maxHeartbeats 2000000 in
theorem rput_any (h : RK w base q r ls lv rv) (k : Int) (v : Value) (b : List UInt8) (B : Nat) (hb : SlB w B v b) (hB : B ≤ base) (hl : b.length ≤ 1000000) (d : Bool) (hroom : r.l.length ≤ r.room) (hr2 : r.l.length + 1 ≤ 2000) (ρ : Int → Nat) (hρ : ∀ q ∈ r.r, ρ q.2 < ρ q.1) :
    Calls Try.prog 40 #[cp q, .int .i64 k, v, .bool d] w fun e w' => ∃ v, e = .returned v ∧ PutRP base q r ρ k b d w v w' := by
  have HA := hid (rat_any h k)
  obtain ⟨va, vn, vc, rfl⟩ := slB_shape hb
  obtain ⟨⟨la, ln, lc, rfl⟩, ra, rn, rc, rfl⟩ := h.shapes
  have H := hid (And.intro h (And.intro hb (And.intro hB (And.intro hroom hρ))))
  clear h hb hB hroom hρ
  go_enter Try.func40, Try.ntmps40
  go_wp2_with fail
  refine HA.out.mono ?_
  rintro e w1 ⟨rfl, hb1⟩
  have hR1 := H.out.1.below hb1
  have H1 := hid (And.intro hR1 hb1)
  clear hR1 hb1 HA
  go_upto_if 16 with (fail)
  go_cut [9] from 12 (fun s9 wx => ∃ (i : Nat) (r1 : RC) (ls1 : List PI) (lv1 : Value) (f : PI), s9 = .int .i64 i ∧ i ≤ 2000 ∧ RK wx base q r1 ls1 lv1 (.slice ra rn rc) ∧ ls1[i]? = some f ∧ f.it.k = k ∧ RStp base w wx ∧ SlB wx B (.slice va vn vc) b ∧ Lay0 r k r1 i)
  case first =>
    cases ha : atR r.l k with
    | some i =>
      have e1 := atI_some ha
      obtain ⟨it, hit, hik⟩ := atR_some ha
      obtain ⟨f, hf, hfi⟩ : ∃ f, ls[i]? = some f ∧ f.it = it := by
        rw [H.out.1.l, List.getElem?_map] at hit
        cases hq : ls[i]? with
        | none => rw [hq] at hit; cases hit
        | some f => rw [hq] at hit; exact ⟨f, rfl, Option.some.inj hit⟩
      have hil2 : i ≤ 2000 := by have := (List.getElem?_eq_some_iff.1 hit).1; omega
      have hi0 : ¬ ((i : Int) < 0) := by omega
      have HF := hid (And.intro hf (And.intro (by rw [hfi]; exact hik : f.it.k = k) ha))
      clear hit hik hf hfi ha
      rw [e1]
      clear e1
      go_wp2_with fail
      go_meet
      case rel =>
        exact ⟨i, r, ls, _, f, rfl, hil2, H1.out.1, HF.out.1, HF.out.2.1, RStp.below H1.out.2 H.out.1.base_le, H.out.2.1.below (H1.out.2.mono H.out.1.base_le) H.out.2.2.1, .inl ⟨HF.out.2.2, rfl⟩⟩
    | none =>
      have e1 := atI_none ha
      have HN := hid ha
      rw [e1]
      clear ha e1
      obtain ⟨f, hf⟩ : ∃ f : PI, f = ⟨⟨k, [], false⟩, .slice none 0 0⟩ := ⟨_, rfl⟩
      have hbA : Below w1.heap.size w1 (w1.alloc (.cells #[.int .i64 k, .slice none 0 0, .bool false] 88)) := (Below.refl _ _).alloc (Nat.le_refl _) _
      have hRA := H1.out.1.below hbA
      have c1 := H1.out.1.cells.2.1
      have hoA := hRA.ol
      have hrow := row_cells w1 [.int .i64 k, .slice none 0 0, .bool false] 88
      have hone : ∀ u ∈ [Value.int .i64 k, .slice none 0 0, .bool false], u.oneCell' = true := by intro u hu; simp at hu; rcases hu with rfl | rfl | rfl <;> rfl
      have hlsl := H.out.1.lsl
      have hl1 : ((ls.map itrow).length + 1) * 40 ≤ 140737488355328 := by rw [List.length_map]; omega
      have hl2 : (ls.map itrow).length + 1 ≤ 140737488355328 := by rw [List.length_map]; omega
      have hz1 : base ≤ (w1.alloc (.cells #[.int .i64 k, .slice none 0 0, .bool false] 88)).heap.size := hRA.base_le
      have HB := hid (And.intro hbA (And.intro hRA (And.intro hlsl hf)))
      clear hbA hRA hlsl hf
      go_wp2_with (at_builtin; refine append_g _ rfl _ _ 78 88 (.agg #[.int .i64 0, .slice none 0 0, .bool false]) 3 40 rfl Try.underlying78 info88 rfl (by decide) base _ (ls.map itrow) rfl hoA w1.heap.size 1 [.int .i64 k, .slice none 0 0, .bool false] rfl rfl hrow hone hl1 hl2 hz1 ?_)
      intro v' w5 ho5 hg5 hb5
      replace ho5 : OwnG w5 base 88 3 v' ((ls ++ [f]).map itrow) := by rw [List.map_append, HB.out.2.2.2]; exact ho5
      obtain ⟨ya, yn, yc, rfl⟩ := ownG_sh ho5
      have hnd : (((ls ++ [f]).map (·.it)).map (·.k)).Nodup := by
        have h1 := H.out.1.nd
        have h2 := atR_none.1 HN.out
        rw [H.out.1.l] at h1 h2
        rw [List.map_append, List.map_append, List.nodup_append]
        refine ⟨h1, by simp, fun a ha b hb => ?_⟩
        rw [HB.out.2.2.2] at hb; simp at hb; subst hb
        rintro rfl; exact h2 ha
      obtain ⟨hR6, hS6, hc6, hf6⟩ := HB.out.2.1.appL ho5 hg5 hb5 (fun g hg => by
        rcases List.mem_append.1 hg with h9 | h9
        · exact .inl h9
        · simp at h9; rw [h9, HB.out.2.2.2]; exact .inr (OwnB.nil _ _ _)) hnd (by have := HB.out.2.2.1; simp; omega)
      obtain ⟨w6, hw6⟩ : ∃ x, x = w5.setCell ⟨q, 1, none⟩ (.slice ya yn yc) := ⟨_, rfl⟩
      rw [← hw6] at hR6 hS6
      have c16 := hR6.cells.2.1
      have hlen6 := hR6.lenL
      have e6 : ((ls ++ [f]).map (·.it)) = r.l ++ [⟨k, [], false⟩] := by rw [List.map_append, ← H.out.1.l, HB.out.2.2.2]; rfl
      have hlen6' : ∀ w', (Builtin.len_ #[78] 3 #[.slice ya yn yc]).run Try.prog w' = .ok (.int .i64 ((r.l.length : Int) + 1)) w' := fun w' => by
        have h9 := hlen6 w'
        simp only at h9
        rw [e6] at h9; simpa using h9
      have hsub : IntKind.i64.wrap ((r.l.length : Int) + 1 - 1) = (r.l.length : Int) := by rw [IntWalk.i64_in _ (by omega)]; omega
      have hsub2 : IntKind.i64.wrap (r.l.length : Int) = (r.l.length : Int) := IntWalk.i64_in _ (by omega)
      have hbt : Below w.heap.size w (w1.alloc (.cells #[.int .i64 k, .slice none 0 0, .bool false] 88)) := H1.out.2.trans (HB.out.1.mono H1.out.2.size)
      have HE := hid (And.intro hR6 (And.intro ((RStp.below hbt H.out.1.base_le).trans hS6) e6))
      clear ho5 hg5 hb5 hR6 hS6 hnd hlen6 e6 hbt hoA hrow hone hl1 hl2 hz1
      go_wp2_with fail
      rw [← hw6]
      go_wp2_with fail
      go_meet
      case rel =>
        have hR7 := HE.out.1
        rw [HE.out.2.2] at hR7
        refine ⟨r.l.length, _, _, _, f, rfl, by omega, hR7, ?_, by rw [HB.out.2.2.2], HE.out.2.1, H.out.2.1.below HE.out.2.1.bel H.out.2.2.1, .inr ⟨HN.out, rfl, rfl⟩⟩
        rw [← HB.out.2.2.1, List.getElem?_append_right (Nat.le_refl _)]; simp
  case rest =>
    obtain ⟨i, r1, ls1, lv1, f, rfl, hi2, hR, hf, hfk, hS, hsl, hL0⟩ := hcut
    obtain ⟨g, n, c, rfl, hg, ⟨cc, hgc⟩, hia⟩ := hR.place hf
    have hcell := hR.cellAt hf 1 _ rfl
    obtain ⟨o, ho⟩ : ∃ o, o = i * 3 := ⟨_, rfl⟩
    rw [← ho] at hia hcell
    have hE1 : ∀ W : World, W.heap = (wc.alloc (.cells #[] 5)).heap → OwnG W wc.heap.size 5 1 (.slice (some ⟨wc.heap.size, 0, none⟩) 0 0) [] := fun W hW => by
      have h1 := OwnG.empty wc 5 1
      exact h1.kept (⟨by rw [hW]; exact Nat.le_refl _, fun k _ _ => by rw [hW]⟩ : Kept (wc.alloc (.cells #[] 5)) W fun _ => True) fun _ _ => trivial
    have hA : Below wc.heap.size wc (wc.alloc (.cells #[] 5)) := (Below.refl _ _).alloc (Nat.le_refl _) _
    have hBb : B ≤ wc.heap.size := Nat.le_trans H.out.2.2.1 hR.base_le
    have hE2 : ∀ W : World, W.heap = (wc.alloc (.cells #[] 5)).heap → SlG W B 1 (.slice va vn vc) (b.map fun x => [u8 x]) := fun W hW => by
      have h1 := hsl.below hA hBb
      obtain ⟨oa, cap, e, h2, h3, h4⟩ := slB_G h1
      refine ⟨oa, cap, e, h2, h3, fun hn => ?_⟩
      obtain ⟨bb, bo, e2, hl9, hr⟩ := h4 hn
      refine ⟨bb, bo, e2, hl9, fun i hi j u hj => ?_⟩
      have := hr i hi j u hj
      unfold World.cell? at this ⊢
      rw [hW]; exact this
    have hE3 : ∀ W : World, W.heap = (wc.alloc (.cells #[] 5)).heap → wc.heap.size ≤ W.heap.size := fun W hW => by rw [hW]; simp
    have hrl : ∀ r ∈ (b.map fun x => [u8 x]), r.length = 1 := by intro r hr; obtain ⟨x, _, rfl⟩ := List.mem_map.1 hr; rfl
    have hone : ∀ r ∈ (b.map fun x => [u8 x]), ∀ u ∈ r, u.oneCell' = true := by intro r hr u hu; obtain ⟨x, _, rfl⟩ := List.mem_map.1 hr; simp at hu; subst hu; rfl
    have hl1 : (([] : List (List Value)).length + (b.map fun x => [u8 x]).length) * 1 ≤ 140737488355328 := by simp; omega
    have hl2 : ([] : List (List Value)).length + (b.map fun x => [u8 x]).length ≤ 140737488355328 := by simp; omega
    have HE := hid (And.intro hE1 (And.intro hE2 (And.intro hE3 (And.intro hrl hone))))
    have c1 := hR.cells.2.1
    have c1A := (hR.below hA).cells.2.1
    have hcA := (hR.below hA).cellAt hf 1 _ rfl
    rw [← ho] at hcA
    have HR := hid (And.intro hR (And.intro hS (And.intro hA (And.intro ho (And.intro hf (And.intro hfk hL0))))))
    clear hE1 hE2 hE3 hrl hone hR hS hA ho hg hgc hf hfk hL0 hsl hBb
    have hi0 : (0 : Int) ≤ (i : Int) := by omega
    go_upto_region 5 with (fail)
    go_cut [] from 12 (fun wx => ∃ bv, RK wx base q { r1 with l := r1.l.set i ⟨f.it.k, b, f.it.d⟩ } (ls1.set i ⟨⟨f.it.k, b, f.it.d⟩, bv⟩) (.slice (some ⟨g, 0, none⟩) n c) (.slice ra rn rc) ∧ RStp base wc wx)
    case first =>
      go_region_law (first
        | (refine step_append_sg _ (by rfl) (.tmp 39) (.tmp 40) 22 5 _ 1 1 rfl Try.underlying22 Try.info5 rfl (by decide) wc.heap.size _ [] (by rfl) (HE.out.1 _ rfl) B (.slice va vn vc) _ (by rfl) (HE.out.2.1 _ rfl) HE.out.2.2.2.1 HE.out.2.2.2.2 hl1 hl2 (HE.out.2.2.1 _ rfl) ?_; intro v1 w5 ho5 hg5 hb5; obtain ⟨x1, y1, z1, rfl⟩ := ownG_sh ho5; have hb15 : Below wc.heap.size wc w5 := (by first | exact HR.out.2.2.1.drew.trans hb5 | exact HR.out.2.2.1.trans hb5); have hR5 := HR.out.1.below hb15; have c15 := hR5.cells.2.1; have hc5 := hR5.cellAt HR.out.2.2.2.2.1 1 _ rfl; rw [← HR.out.2.2.2.1] at hc5; obtain ⟨hR6, hS6, hf6⟩ := HR.out.1.setB HR.out.2.2.2.2.1 hb15 (ownG_B (by simpa using ho5)); rw [← HR.out.2.2.2.1] at hR6 hS6 hf6))
      all_goals
        have HQ := hid (And.intro hR6 hS6)
        clear hR6 hS6 hR5 hc5 c15 ho5 hg5 hb5 hb15
        go_wp2_with fail
        go_meet
        case rel => exact ⟨_, HQ.out.1, HQ.out.2⟩
    case rest =>
      obtain ⟨bv, hR2, hS2⟩ := hcut
      obtain ⟨wB, hwB⟩ : ∃ x, x = wc := ⟨_, rfl⟩
      subst hwB
      have hil := (List.getElem?_eq_some_iff.1 HR.out.2.2.2.2.1).1
      have hf2 : (ls1.set i ⟨⟨f.it.k, b, f.it.d⟩, bv⟩)[i]? = some ⟨⟨f.it.k, b, f.it.d⟩, bv⟩ := by rw [List.getElem?_set_self hil]
      obtain ⟨dd, hdd⟩ : ∃ x, x = f.it.d := ⟨_, rfl⟩
      have hR2' := hR2
      rw [← hdd] at hR2 hf2
      have c21 := hR2.cells.2.1
      have hc2 := hR2.cellAt hf2 2 (.bool dd) rfl
      obtain ⟨hR3, hS3, hz3⟩ := hR2.setItem (f' := ⟨⟨f.it.k, b, dd || d⟩, bv⟩) hf2 2 (.bool (dd || d)) (by decide) rfl rfl rfl (hR2.ob (⟨⟨f.it.k, b, dd⟩, bv⟩ : PI) (List.mem_of_getElem? hf2))
      rw [← HR.out.2.2.2.1] at hc2 hR3 hS3 hz3
      have HQ := hid (And.intro hR3 (And.intro (hS2.trans hS3) hdd))
      clear hR2 hR2' hR3 hS3 hS2 hf2 hil hdd hl1 hl2 c1 c1A hcA hcell HE
      go_upto_region 6 with (fail)
      go_cut [] from 12 (fun wx => ∃ ls3, RK wx base q { r1 with l := r1.l.set i ⟨k, b, f.it.d || d⟩ } ls3 (.slice (some ⟨g, 0, none⟩) n c) (.slice ra rn rc) ∧ RStp base wc wx)
      case first =>
        have hkk := HR.out.2.2.2.2.2.1
        have HW : Hid (∀ wx, Below (wB.setCell ⟨g, o + 2, none⟩ (.bool (dd || d))).heap.size (wB.setCell ⟨g, o + 2, none⟩ (.bool (dd || d))) wx → ∃ ls3, RK wx base q { r1 with l := r1.l.set i ⟨k, b, f.it.d || d⟩ } ls3 (.slice (some ⟨g, 0, none⟩) n c) (.slice ra rn rc) ∧ RStp base wc wx) := hid fun wx hbx => by
          have h1 := HQ.out.1
          simp only [List.set_set] at h1
          rw [← HR.out.2.2.2.2.2.1, ← HQ.out.2.2]
          exact ⟨_, h1.below hbx, HQ.out.2.1.trans (RStp.below hbx h1.base_le)⟩
        clear hkk
        cases dd
        · rw [Bool.false_or] at HW
          go_region
          all_goals (go_wp2_with fail)
          all_goals go_meet
          all_goals exact HW.out _ (Below.refl _ _).drew
        · rw [Bool.true_or] at HW
          go_region
          all_goals (go_wp2_with fail)
          all_goals go_meet
          all_goals exact HW.out _ (Below.refl _ _).drew
      case rest =>
        obtain ⟨ls3, hR3, hS3⟩ := hcut
        have hil := (List.getElem?_eq_some_iff.1 HR.out.2.2.2.2.1).1
        have hri : r1.l[i]? = some f.it := by rw [HR.out.1.l, List.getElem?_map, HR.out.2.2.2.2.1]; rfl
        have hat : atR (r1.l.set i ⟨k, b, f.it.d || d⟩) k = some i := by rw [atR_keys (set_keys hri HR.out.2.2.2.2.2.1.symm)]; exact HR.out.2.2.2.2.2.2.at
        have HU := ruse_any hR3 k hat
        rw [HR.out.2.2.2.2.2.2.lay hri HR.out.2.2.2.2.2.1 b d] at HU
        have HU := hid HU
        have HS := hid (HR.out.2.1.trans hS3)
        obtain ⟨C1, hC1⟩ : ∃ C1, C1 = layR r k b d := ⟨_, rfl⟩
        rw [← hC1] at HU
        have hCr : C1.room = r.room := by rw [hC1]; unfold layR; split <;> rfl
        have hCrel : C1.r = r.r := by rw [hC1]; unfold layR; split <;> rfl
        have hCl : C1.l.length ≤ r.l.length + 1 := by
          rw [hC1]; unfold layR
          split
          · simp
          · rename_i i9 h9
            obtain ⟨it9, h8, _⟩ := atR_some h9
            have h7 := (List.getElem?_eq_some_iff.1 h8).1
            simp [cutR]; omega
        have HC1 := hid (And.intro hC1 (And.intro hCr (And.intro hCrel hCl)))
        clear hR3 hS3 hil hri hat hC1 hCr hCrel hCl hia hi0
        go_wp2_with fail
        refine HU.out.mono ?_
        rintro e w4 ⟨rfl, hX4, hS4⟩
        have H4 := hid (And.intro hX4 (HS.out.trans hS4))
        clear hX4 hS4 HU
        go_wp2_with fail
        go_loopw [10, 11] (fun s10 s11 wr => (mz s11 = 1 ∧ s10 = .slice none 0 0 ∧ RX wr base q C1 ∧ RStp base w wr) ∨ (mz s11 = 0 ∧ C1.room < C1.l.length ∧ PutRP base q r ρ k b d w s10 wr)) (fun _ s11 _ => mz s11)
        case atStart => exact .inl ⟨rfl, rfl, H4.out.1, H4.out.2⟩
        case round =>
          rcases hrel with ⟨hz, rfl, hX, hS⟩ | ⟨hz, hgt, hP⟩
          · obtain ⟨ls5, lv5, rv5, hR⟩ := hX
            have hlen := hR.lenL
            obtain ⟨c0, c1, _, _⟩ := hR.cells
            by_cases hle : C1.l.length ≤ C1.room
            · have t1 : ¬ ((C1.room : Int) < (C1.l.length : Int)) := by omega
              have t2 : ¬ (C1.room < C1.l.length) := by omega
              obtain ⟨⟨xa, xn, xc, rfl⟩, _⟩ := hR.shapes
              have HE := hid (And.intro hR (And.intro hS hle))
              clear hR hS hle
              go_wp2_with fail
              go_quiet (fail)
              rename_i nq
              generalize hwq : wr.drewN nq = wq
              have hbq : Below wr.heap.size wr wq := hwq ▸ below_drewN (Below.refl _ _) nq
              clear hwq
              go_wp2_with fail
              go_ret
              refine ⟨_, rfl, [], C1, .inl ⟨?_, HC1.out.1, rfl⟩, OwnV.nil _ _ _, ⟨_, _, _, HE.out.1.below hbq⟩, HE.out.2.1.trans (RStp.below hbq HE.out.1.base_le)⟩
              rw [← HC1.out.1, ← HC1.out.2.1]; exact HE.out.2.2
            · have t1 : (C1.room : Int) < (C1.l.length : Int) := by omega
              have t2 : C1.room < C1.l.length := by omega
              have hl0 : 0 < C1.l.length := by omega
              obtain ⟨x, hx⟩ : ∃ x, C1.l[0]? = some x := ⟨_, List.getElem?_eq_getElem hl0⟩
              obtain ⟨f0, hf0, hfx⟩ : ∃ f, ls5[0]? = some f ∧ f.it = x := by
                rw [hR.l, List.getElem?_map] at hx
                cases hq : ls5[0]? with
                | none => rw [hq] at hx; cases hx
                | some f => rw [hq] at hx; exact ⟨f, rfl, Option.some.inj hx⟩
              obtain ⟨⟨xa, xn, xc, rfl⟩, _⟩ := hR.shapes
              have HE := hid (And.intro hR (And.intro hS (And.intro hx (And.intro hf0 hfx))))
              clear hR hS hle hx hf0 hfx
              go_wp2_with fail
              go_quiet (fail)
              rename_i nq
              generalize hwq : wr.drewN nq = wq
              have hbq : Below wr.heap.size wr wq := hwq ▸ below_drewN (Below.refl _ _) nq
              have hRq := HE.out.1.below hbq
              have c1q := hRq.cells.2.1
              obtain ⟨b0, o0, hb0, hia0, g0, _⟩ := hRq.item HE.out.2.2.2.1
              rw [HE.out.2.2.2.2] at g0
              replace hia0 : ∀ (w' : World) (k : IntKind), (Instr.indexAt 78 (.slice xa xn xc) (.int k 0)).run Try.prog w' = .ok (.pointer (some ⟨b0, o0, none⟩)) w' := hia0
              have HWR := hid (rwrite_any hRq x.k ρ (by rw [HC1.out.2.2.1]; exact H.out.2.2.2.2))
              have HF := hid (And.intro hRq (HE.out.2.1.trans (RStp.below hbq HE.out.1.base_le)))
              clear hwq hbq hRq hb0 c0 c1
              go_wp2_with fail
              refine HWR.out.mono ?_
              rintro e w6 ⟨v6, rfl, ho6, hX6, hS6⟩
              obtain ⟨WL, hWL⟩ : ∃ WL, WL = writeL C1 ρ x.k := ⟨_, rfl⟩
              rw [← hWL] at ho6
              obtain ⟨ya, yn, yc, rfl⟩ := ownG_shape (ownI_G ho6)
              have hsl6 := ho6.slI
              have hWl : WL.length ≤ 2001 := by
                rw [hWL]; unfold writeL
                split
                · obtain ⟨t, h1, _, h3⟩ := line_ext (R := C1.r) (by rw [HC1.out.2.2.1]; exact H.out.2.2.2.2) x.k (ρ x.k + 1) [] x.k (Nat.lt_succ_self _) ⟨by simp, by simp⟩ (List.mem_cons_self ..)
                  have h4 := h3.len
                  have h5 := HF.out.1.lr
                  rw [h1]; omega
                · simp
              have hrl1 : ∀ r ∈ (WL.map fun n => [Value.int .i64 n]), r.length = 1 := by intro r hr; obtain ⟨x, _, rfl⟩ := List.mem_map.1 hr; rfl
              have hone1 : ∀ r ∈ (WL.map fun n => [Value.int .i64 n]), ∀ u ∈ r, u.oneCell' = true := by intro r hr u hu; obtain ⟨x, _, rfl⟩ := List.mem_map.1 hr; simp at hu; subst hu; rfl
              have hl8 : (([] : List (List Value)).length + (WL.map fun n => [Value.int .i64 n]).length) * 8 ≤ 140737488355328 := by simp; omega
              have hl9 : ([] : List (List Value)).length + (WL.map fun n => [Value.int .i64 n]).length ≤ 140737488355328 := by simp; omega
              have HG := hid (And.intro hX6 (And.intro hS6 hWL))
              clear ho6 hX6 hS6 HWR hWl hWL
              go_wp2_with (at_builtin; refine append_sg _ rfl _ _ 29 3 (.int .i64 0) 1 8 rfl Try.underlying29 info3 rfl (by decide) w6.heap.size _ [] rfl (OwnG.nil _ _ _ _) w6.heap.size _ (WL.map fun n => [Value.int .i64 n]) rfl hsl6 hrl1 hone1 hl8 hl9 (Nat.le_refl _) ?_)
              intro v7 w7 ho7 hg7 hb7
              replace ho7 : OwnI w7 w6.heap.size v7 WL := ownG_I (by simpa using ho7)
              obtain ⟨za, zn, zc, rfl⟩ := ownG_shape (ownI_G ho7)
              have hX7 := HG.out.1.below hb7
              obtain ⟨ls7, lv7, rv7, hR7⟩ := hX7
              have HCL := hid (rclean_any hR7 x.k)
              have HI := hid (And.intro ho7 (HG.out.2.1.trans (RStp.below hb7 (Nat.le_trans HF.out.1.base_le HG.out.2.1.bel.size))))
              clear ho7 hg7 hb7 hR7 hsl6 hrl1 hone1 hl8 hl9
              go_wp2_with fail
              refine HCL.out.mono ?_
              rintro e w8 ⟨rfl, ⟨ls8, lv8, rv8, hR8⟩, hS8⟩
              have hll8 : ls8.length = C1.l.length := by rw [hR8.lsl, clean_len]; exact (cleans_len _ _).1
              obtain ⟨vf, fa, fn, fc, hvf, hsf, hrf⟩ := hR8.from 1 (by omega)
              subst hvf
              replace hrf : ∀ (w' : World) (k : IntKind), (Instr.slice 78 lv8 (some (.int k 1)) none none).run Try.prog w' = .ok (.slice fa fn fc) w' := hrf
              obtain ⟨⟨pa, pn, pc, rfl⟩, _⟩ := hR8.shapes
              have hbA : Below w8.heap.size w8 (w8.alloc (.cells #[] 88)) := (Below.refl _ _).alloc (Nat.le_refl _) _
              have hRA := hR8.below hbA
              have c1A := hRA.cells.2.1
              have hsfA := hsf.below hbA (Nat.le_refl _)
              have hoE := OwnG.empty w8 88 3
              have hone := hR8.ones (l := ls8.drop 1) (fun g hg => List.mem_of_mem_drop hg)
              have hll9 := hR8.ll
              have hlsl9 := hR8.lsl
              have hl3 : (([] : List (List Value)).length + ((ls8.drop 1).map itrow).length) * 40 ≤ 140737488355328 := by simp; omega
              have hl4 : ([] : List (List Value)).length + ((ls8.drop 1).map itrow).length ≤ 140737488355328 := by simp; omega
              have hzA : w8.heap.size ≤ (w8.alloc (.cells #[] 88)).heap.size := hbA.size
              have HJ := hid (And.intro hR8 (And.intro hS8 (And.intro hbA (And.intro (ownI_kr HI.out.1 hS8.kr) hll8))))
              clear hR8 hS8 hbA hRA hsf hll8 hll9 hlsl9 HCL
              go_wp2_with (at_builtin; refine append_sg _ rfl _ _ 78 88 (.agg #[.int .i64 0, .slice none 0 0, .bool false]) 3 40 rfl Try.underlying78 info88 rfl (by decide) w8.heap.size _ [] rfl hoE w8.heap.size _ ((ls8.drop 1).map itrow) rfl hsfA (itrow_len _) hone hl3 hl4 hzA ?_)
              intro v9 w9 ho9 hg9 hb9
              replace ho9 : OwnG w9 w8.heap.size 88 3 v9 ((ls8.drop 1).map itrow) := by rw [List.map_drop]; simpa using ho9
              obtain ⟨ua, un, uc, rfl⟩ := ownG_sh ho9
              have hb89 : Below w8.heap.size w8 w9 := HJ.out.2.2.1.trans hb9
              have hR9 := HJ.out.1.below hb89
              have c19 := hR9.cells.2.1
              have f19 := hR9.cells.2.2.2 1
              have hsub : (ls8.drop 1).Sublist ls8 := List.drop_sublist _ _
              obtain ⟨hR10, hS10⟩ := hR9.setL (l' := (ls8.drop 1).map (·.it)) rfl (ho9.any_base HJ.out.1.base_le) (fun g hg => hR9.ob g (hsub.subset hg)) (by
                have h1 := HJ.out.1.nd
                rw [HJ.out.1.l] at h1
                exact ((hsub.map (·.it)).map (·.k)).nodup h1) (by
                rw [List.length_map]
                have h1 := hsub.length_le
                have h2 := HJ.out.1.ll
                have h3 := HJ.out.1.lsl
                omega)
              have hfin := ((HF.out.2.trans HI.out.2).trans HJ.out.2.1).trans ((RStp.below hb89 HJ.out.1.base_le).trans hS10)
              have ho10 : OwnI (w9.setCell ⟨q, 1, none⟩ (.slice ua un uc)) w6.heap.size (.slice za zn zc) WL := ownI_kr (OwnV.below HJ.out.2.2.2.1 hb89 (Nat.le_refl _)) hS10.kr
              have hdr : (ls8.drop 1).map (·.it) = (cleanR (writeR C1 ρ x.k) x.k).l.drop 1 := by rw [HJ.out.1.l, List.map_drop]
              rw [hdr] at hR10
              have hsz6 : w.heap.size ≤ w6.heap.size := by
                have h1 := HF.out.2.bel.size
                have h2 := HG.out.2.1.bel.size
                omega
              obtain ⟨x', t', hxt⟩ := List.exists_cons_of_ne_nil (l := C1.l) (fun e => by rw [e] at hl0; simp at hl0)
              have hxx : x' = x := by
                have := HE.out.2.2.1
                rw [hxt] at this; simpa using this
              subst hxx
              have HEND := hid (show PutRP base q r ρ k b d w (.slice za zn zc) (w9.setCell ⟨q, 1, none⟩ (.slice ua un uc)) from ⟨WL, _, .inr ⟨x', t', by rw [← HC1.out.1, ← HC1.out.2.1]; exact t2, by rw [← HC1.out.1]; exact hxt, by rw [← HC1.out.1]; exact HG.out.2.2, by rw [← HC1.out.1]⟩, OwnV.any_base ho10 hsz6, ⟨_, _, _, hR10⟩, hfin⟩)
              clear ho9 hg9 hb9 hb89 hR9 hsub hR10 hS10 hfin ho10 hdr hsz6 hxt hoE hone hl3 hl4 hzA hsfA
              go_wp2_with fail
              exact ⟨.inr ⟨rfl, t2, HEND.out⟩, by rw [hz]; simp [mz]⟩
          · have HP := hid hP
            obtain ⟨out, r', hPR, ho, ⟨ls5, lv5, rv5, hR⟩, hS⟩ := hP
            have hle : r'.l.length ≤ r'.room := by
              have h1 := HC1.out.2.2.2
              have h2 := H.out.2.2.2.1
              have h3 := HC1.out.2.1
              rcases hPR with ⟨h4, _, _⟩ | ⟨x, t, _, _, _, h5⟩
              · rw [← HC1.out.1] at h4; omega
              · rw [h5]
                rw [← HC1.out.1]
                show ((cleanR (writeR C1 ρ x.k) x.k).l.drop 1).length ≤ (writeR C1 ρ x.k).room
                rw [List.length_drop, clean_len]
                have h6 := cleans_len (writeL C1 ρ x.k) C1
                unfold writeR
                rw [h6.1, h6.2]; omega
            have t1 : ¬ ((r'.room : Int) < (r'.l.length : Int)) := by omega
            have t2 : ¬ (r'.room < r'.l.length) := by omega
            have hlen := hR.lenL
            obtain ⟨c0, c1, _, _⟩ := hR.cells
            obtain ⟨⟨xa, xn, xc, rfl⟩, _⟩ := hR.shapes
            obtain ⟨oa, on, oc, rfl⟩ := ownG_shape (ownI_G ho)
            have HBS := hid hR.base_le
            clear hR hS ho hPR hle
            go_wp2_with fail
            go_quiet (fail)
            rename_i nq
            generalize hwq : wr.drewN nq = wq
            have hbq : Below wr.heap.size wr wq := hwq ▸ below_drewN (Below.refl _ _) nq
            clear hwq
            go_wp2_with fail
            go_ret
            exact ⟨_, rfl, HP.out.below hbq HBS.out⟩
end
end Go.Proofs.Ytbklhhmcigangaa

namespace Go.Lr
/-- a key goes to its place -/
def insR (l : List Int) (k : Int) : List Int := l.takeWhile (fun y => decide (y < k)) ++ k :: l.dropWhile (fun y => decide (y < k))
def dirtyRL (l : List It) : List Int := (l.filter (·.d)).foldl (fun acc it => insR acc it.k) []
/-- while a row is moved up by one -/
def shifted (l : List Int) (j : Nat) : List Int := (l ++ [0]).take (j + 1) ++ l.drop j
theorem shifted_len (l : List Int) {j : Nat} (h : j ≤ l.length) : (shifted l j).length = l.length + 1 := by unfold shifted; simp; omega
theorem shifted_end (l : List Int) : shifted l l.length = l ++ [0] := by unfold shifted; rw [List.take_of_length_le (by simp), List.drop_length, List.append_nil]
theorem take_set_last {l : List Int} {j : Nat} (hj : j < l.length) (x : Int) : (l.take (j + 1)).set j x = l.take j ++ [x] := by
  rw [List.take_add_one, List.getElem?_eq_getElem hj]
  rw [List.set_append, if_neg (by simp; omega)]
  simp [Nat.min_eq_left (Nat.le_of_lt hj)]
theorem shifted_get {l : List Int} {j : Nat} (h : j + 1 ≤ l.length) : (shifted l (j + 1)).getD j 0 = l.getD j 0 := by
  unfold shifted
  rw [List.getD_eq_getElem?_getD, List.getD_eq_getElem?_getD, List.getElem?_append_left (by simp; omega), List.getElem?_take_of_lt (by omega), List.getElem?_append_left (by omega)]
theorem shifted_step {l : List Int} {j : Nat} (h : j + 1 ≤ l.length) : (shifted l (j + 1)).set (j + 1) (l.getD j 0) = shifted l j := by
  unfold shifted
  rw [List.set_append, if_pos (by simp; omega), take_set_last (by simp; omega), List.append_assoc]
  congr 1
  rw [List.drop_eq_getElem_cons (show j < l.length by omega), List.getD_eq_getElem?_getD, List.getElem?_eq_getElem (show j < l.length by omega)]
  rfl
theorem shifted_put {l : List Int} {j : Nat} (h : j ≤ l.length) (k : Int) : (shifted l j).set j k = l.take j ++ k :: l.drop j := by
  unfold shifted
  rw [List.set_append, if_pos (by simp; omega), take_set_last (by simp; omega), List.append_assoc, List.take_append_of_le_length h]
  rfl
theorem ins_at {l : List Int} {k : Int} {j : Nat} (h : j ≤ l.length) (h1 : ∀ x ∈ l.take j, x < k) (h2 : ∀ x, l[j]? = some x → ¬ x < k) : insR l k = l.take j ++ k :: l.drop j := by
  unfold insR
  induction l generalizing j with
  | nil => simp
  | cons y l ih =>
    cases j with
    | zero =>
      have := h2 y rfl
      simp [this]
    | succ j =>
      have hy := h1 y (by simp)
      have ih' := ih (j := j) (by simpa using h) (fun x hx => h1 x (by simp [hx])) (fun x hx => h2 x (by simpa using hx))
      rw [List.takeWhile_cons, List.dropWhile_cons, if_pos (by simpa using hy), if_pos (by simpa using hy)]
      simp only [List.take_succ_cons, List.drop_succ_cons, List.cons_append]
      rw [ih']
theorem insR_len (l : List Int) (k : Int) : (insR l k).length = l.length + 1 := by
  unfold insR
  have := congrArg List.length (List.takeWhile_append_dropWhile (p := fun y => decide (y < k)) (l := l))
  rw [List.length_append] at this
  rw [List.length_append, List.length_cons]; omega
theorem dirtyRL_snoc (l : List It) (it : It) : dirtyRL (l ++ [it]) = if it.d then insR (dirtyRL l) it.k else dirtyRL l := by
  unfold dirtyRL
  rw [List.filter_append]
  cases h : it.d <;> simp [h]
theorem dirtyRL_len (l : List It) : (dirtyRL l).length ≤ l.length := by
  have key : ∀ (m : List It) (acc : List Int), (m.foldl (fun acc it => insR acc it.k) acc).length = acc.length + m.length := by
    intro m
    induction m with
    | nil => intro acc; simp
    | cons x m ih => intro acc; rw [List.foldl_cons, ih, insR_len]; simp; omega
  unfold dirtyRL
  rw [key]
  have := List.length_filter_le (·.d) l
  simp; exact this
end Go.Lr
namespace Go.Proofs.Ytbklhhmcigangaa
open Go.RowKit Go.Mx Go.Lr Go.Maps
set_option linter.unusedVariables false
set_option linter.unusedSimpArgs false
section
variable {w w' : World} {base q : Nat} {r : RC} {ls : List PI} {lv rv : Value}
set_option maxRecDepth 100000 in
set_option maxHeartbeats 2000000 in
theorem rdirtyL_any (h : RK w base q r ls lv rv) : Calls Try.prog 44 #[cp q] w fun e w' => ∃ v, e = .returned v ∧ OwnI w' w.heap.size v (dirtyRL r.l) ∧ Below w.heap.size w w' := by
  have H := hid h
  have hlenL := h.lenL
  have hll := h.ll
  obtain ⟨⟨la, ln, lc, rfl⟩, _⟩ := h.shapes
  clear h
  go_enter Try.func44, Try.ntmps44
  go_wp2_with fail
  go_loopw [3, 4] (fun s3 s4 wr => ∃ j : Nat, s4 = .int .i64 j ∧ j ≤ r.l.length ∧ OwnI wr w.heap.size s3 (dirtyRL (r.l.take j)) ∧ Below w.heap.size w wr) (fun _ s4 _ => r.l.length - (intOf s4).toNat)
  case atStart => exact ⟨0, rfl, by omega, OwnV.nil _ _ _, Below.refl _ _⟩
  case round =>
    obtain ⟨j, rfl, hj, ho, hbl⟩ := hrel
    have hR := H.out.below hbl
    have c1 := hR.cells.2.1
    obtain ⟨xa, xn, xc, rfl⟩ := ownG_shape (ownI_G ho)
    by_cases hlt : j < r.l.length
    · have hjl : j < ls.length := by rw [H.out.lsl]; exact hlt
      obtain ⟨f, hf⟩ : ∃ f, ls[j]? = some f := ⟨_, List.getElem?_eq_getElem hjl⟩
      have hrf : r.l[j]? = some f.it := by rw [H.out.l, List.getElem?_map, hf]; rfl
      obtain ⟨b, o, hb, hia, g0, _, g2⟩ := hR.item hf
      have HN := hid (show dirtyRL (r.l.take (j + 1)) = if f.it.d then insR (dirtyRL (r.l.take j)) f.it.k else dirtyRL (r.l.take j) by rw [List.take_add_one, hrf]; exact dirtyRL_snoc _ _)
      obtain ⟨k, hk⟩ : ∃ k, k = f.it.k := ⟨_, rfl⟩
      obtain ⟨dd, hdd⟩ : ∃ d, d = f.it.d := ⟨_, rfl⟩
      rw [← hk] at g0 HN
      rw [← hdd] at g2 HN
      have hDl : (dirtyRL (r.l.take j)).length ≤ 2000 := by have := dirtyRL_len (r.l.take j); simp at this; omega
      obtain ⟨D, hD⟩ : ∃ D, D = dirtyRL (r.l.take j) := ⟨_, rfl⟩
      rw [← hD] at ho HN hDl
      have hlenD := fun w' => ho.slI.len (P := Try.prog) Try.underlying29 (ty := 3) w'
      obtain ⟨N, hN⟩ : ∃ N, N = D.length := ⟨_, rfl⟩
      rw [← hN] at hlenD hDl
      have HNN := hid hN
      have HB := hid (And.intro ho hbl)
      clear hR hbl hf hrf hb hk hdd hD ho hN
      cases dd
      · go_wp2_with fail
        exact ⟨⟨j + 1, by go_num, by omega, by rw [HN.out]; exact HB.out.1, HB.out.2⟩, by simp [intOf]; omega⟩
      · go_wp2_with fail
        obtain ⟨wO, hwO⟩ : ∃ x, x = wr := ⟨_, rfl⟩
        subst hwO
        go_loopw [6] (fun s6 wx => ∃ t : Nat, s6 = .int .i64 t ∧ t ≤ N ∧ Below wO.heap.size wO wx ∧ ∀ x ∈ D.take t, x < k) (fun s6 _ => N - (intOf s6).toNat)
        case atStart => exact ⟨0, rfl, by omega, Below.refl _ _, by simp⟩
        case round =>
          obtain ⟨t, rfl, ht, hbx, hT⟩ := hrel
          have join : ∀ wx, Below wO.heap.size wO wx → (∀ x, D[t]? = some x → ¬ x < k) → True := fun _ _ _ => trivial
          clear join
          by_cases hlt2 : t < N
          · have hlt3 : t < D.length := by have := HNN.out; omega
            obtain ⟨bb, bo, hbb, hia2, hrow⟩ := (HB.out.1.slI.below hbx (Nat.le_refl _)).addr (P := Try.prog) Try.underlying29 size3 t hlt3
            have HN2 := hid (show D.take (t + 1) = D.take t ++ [D.getD t 0] by rw [List.take_add_one, List.getElem?_eq_getElem hlt3, List.getD_eq_getElem?_getD, List.getElem?_eq_getElem hlt3]; rfl)
            have hgt : D[t]? = some (D.getD t 0) := by rw [List.getD_eq_getElem?_getD, List.getElem?_eq_getElem hlt3]; rfl
            obtain ⟨x, hx⟩ : ∃ x, x = D.getD t 0 := ⟨_, rfl⟩
            rw [← hx] at hrow HN2 hgt
            by_cases hxk : x < k
            · have HX := hid (And.intro hbx (And.intro hT hxk))
              clear hbx hT hx hbb hgt hlt3
              go_wp2_with fail
              refine ⟨⟨t + 1, by go_num, by omega, HX.out.1, fun y hy => ?_⟩, by simp [intOf]; omega⟩
              rw [HN2.out] at hy
              rcases List.mem_append.1 hy with hy | hy
              · exact HX.out.2.1 y hy
              · simp at hy; rw [hy]; exact HX.out.2.2
            · have HJ := hid (ins_at (k := k) (by have := HNN.out; omega) hT (fun y hy => by rw [hgt] at hy; cases hy; exact hxk))
              have HX := hid hbx
              clear hT hx hbb hgt hlt3
              have hbA : Below wr.heap.size wr (wr.alloc (.cells #[.int .i64 0] 3)) := (Below.refl _ _).alloc (Nat.le_refl _) _
              have hbO : Below wO.heap.size wO (wr.alloc (.cells #[.int .i64 0] 3)) := hbx.trans (hbA.mono hbx.size)
              have hoA : OwnI (wr.alloc (.cells #[.int .i64 0] 3)) w.heap.size (.slice xa xn xc) D := OwnV.below HB.out.1 hbO (Nat.le_refl _)
              have hDl9 : D.length ≤ 1000000000 := by have := HNN.out; omega
              have hz9 : w.heap.size ≤ (wr.alloc (.cells #[.int .i64 0] 3)).heap.size := by have := hbO.size; have := HB.out.2.size; omega
              have HC := hid (And.intro hbA hbO)
              clear hbA hbO hbx
              go_wp2_with (at_builtin; refine append_i1 _ rfl _ _ 29 rfl Try.underlying29 info3 w.heap.size _ _ 0 rfl hoA _ _ rfl (cell_alloc1 _ _ _) hDl9 hz9 ?_)
              intro v5 w5 ho5 hk5 hb5 hq5
              have hlen5 : ∀ w', (Builtin.len_ #[29] 3 #[v5]).run Try.prog w' = .ok (.int .i64 ((N : Int) + 1)) w' := fun w' => by
                have h9 := ho5.slI.len (P := Try.prog) Try.underlying29 (ty := 3) w'
                rw [List.length_append, ← HNN.out] at h9
                exact h9
              have hsub : IntKind.i64.wrap ((N : Int) + 1 - 1) = (N : Int) := by rw [IntWalk.i64_in _ (by omega)]; omega
              have hsub2 : IntKind.i64.wrap (N : Int) = (N : Int) := IntWalk.i64_in _ (by omega)
              obtain ⟨ga, gn, gc, rfl⟩ : ∃ g n c, v5 = .slice (some ⟨g, 0, none⟩) n c := by
                rcases (ownI_G ho5).shape with ⟨_, he⟩ | ⟨g, c, rfl, _⟩
                · have := congrArg List.length he; simp at this
                · exact ⟨_, _, _, rfl⟩
              have H5 := hid (And.intro ho5 ((HB.out.2.trans (HC.out.2.mono HB.out.2.size)).trans hb5))
              clear ho5 hk5 hb5 hq5 hoA hDl9 hz9
              go_wp2_with fail
              go_loopw [7] (fun s7 wy => ∃ u : Nat, s7 = .int .i64 u ∧ t ≤ u ∧ u ≤ N ∧ OwnI wy w.heap.size (.slice (some ⟨ga, 0, none⟩) gn gc) (shifted D u) ∧ Below w.heap.size w wy) (fun s7 _ => (intOf s7).toNat)
              case atStart => exact ⟨N, rfl, by omega, Nat.le_refl _, by rw [HNN.out, shifted_end]; exact H5.out.1, H5.out.2⟩
              case round =>
                obtain ⟨u, rfl, hu1, hu2, ho, hby⟩ := hrel
                have hu3 : u ≤ D.length := by have := HNN.out; omega
                by_cases hut : t < u
                · obtain ⟨p, rfl⟩ : ∃ p, u = p + 1 := ⟨u - 1, by omega⟩
                  have hsh := shifted_len D hu3
                  have hc := ho.at p (by omega)
                  rw [shifted_get hu3] at hc
                  have hcu : wr.cell? ⟨ga, p + 1, none⟩ = some (.int .i64 ((shifted D (p + 1)).getD (p + 1) 0)) := ho.at (p + 1) (by omega)
                  have hfz := OwnV.fz ho (p + 1)
                  have hset := ho.set (p + 1) (D.getD p 0) (by omega)
                  rw [shifted_step hu3] at hset
                  have hia7 : ∀ (w' : World) (k : IntKind), (Instr.indexAt 29 (.slice (some ⟨ga, 0, none⟩) gn gc) (.int k (p : Int))).run Try.prog w' = .ok (.pointer (some ⟨ga, p, none⟩)) w' := by
                    have h9 := (ownI_G ho).addr (P := Try.prog) Try.underlying29 size3 p (by rw [List.length_map]; omega)
                    simpa using h9
                  have hia8 : ∀ (w' : World) (k : IntKind), (Instr.indexAt 29 (.slice (some ⟨ga, 0, none⟩) gn gc) (.int k ((p : Int) + 1))).run Try.prog w' = .ok (.pointer (some ⟨ga, p + 1, none⟩)) w' := by
                    have h9 := (ownI_G ho).addr (P := Try.prog) Try.underlying29 size3 (p + 1) (by rw [List.length_map]; omega)
                    simpa using h9
                  have hs1 : IntKind.i64.wrap ((p : Int) + 1 - 1) = (p : Int) := by rw [IntWalk.i64_in _ (by omega)]; omega
                  have hs2 : IntKind.i64.wrap (p : Int) = (p : Int) := IntWalk.i64_in _ (by omega)
                  have hbs := hby.setCell (p := ⟨ga, p + 1, none⟩) (World.ownsRow.lt ho _ rfl).1 (.int .i64 (D.getD p 0))
                  obtain ⟨X, hX⟩ : ∃ X, X = D.getD p 0 := ⟨_, rfl⟩
                  rw [← hX] at hc hset hbs
                  have HY := hid (And.intro hset hbs)
                  have hutI : (t : Int) < (p : Int) + 1 := by omega
                  clear hset hbs ho hby hX hsh hu3
                  go_wp2_with fail
                  exact ⟨⟨p, rfl, by omega, by omega, HY.out.1, HY.out.2⟩, by simp [intOf]⟩
                · obtain rfl : u = t := by omega
                  have hsh := shifted_len D hu3
                  have hcu : wr.cell? ⟨ga, u, none⟩ = some (.int .i64 ((shifted D u).getD u 0)) := ho.at u (by omega)
                  have hfz := OwnV.fz ho u
                  have hset := ho.set u k (by omega)
                  rw [shifted_put hu3] at hset
                  have hia7 : ∀ (w' : World) (k : IntKind), (Instr.indexAt 29 (.slice (some ⟨ga, 0, none⟩) gn gc) (.int k (u : Int))).run Try.prog w' = .ok (.pointer (some ⟨ga, u, none⟩)) w' := by
                    have h9 := (ownI_G ho).addr (P := Try.prog) Try.underlying29 size3 u (by rw [List.length_map]; omega)
                    simpa using h9
                  have hbs := hby.setCell (p := ⟨ga, u, none⟩) (World.ownsRow.lt ho _ rfl).1 (.int .i64 k)
                  have HY := hid (And.intro hset hbs)
                  clear hset hbs ho hby hsh hu3
                  go_wp2_with fail
                  exact ⟨⟨j + 1, by go_num, by omega, by rw [HN.out]; simp only [if_true]; rw [HJ.out]; exact HY.out.1, HY.out.2⟩, by simp [intOf]; omega⟩
          · obtain rfl : t = N := by omega
            have HJ := hid (ins_at (k := k) (by have := HNN.out; omega) hT (fun y hy => by rw [List.getElem?_eq_none (by have := HNN.out; omega)] at hy; cases hy))
            have HX := hid hbx
            clear hT
            have hbA : Below wr.heap.size wr (wr.alloc (.cells #[.int .i64 0] 3)) := (Below.refl _ _).alloc (Nat.le_refl _) _
            have hbO : Below wO.heap.size wO (wr.alloc (.cells #[.int .i64 0] 3)) := hbx.trans (hbA.mono hbx.size)
            have hoA : OwnI (wr.alloc (.cells #[.int .i64 0] 3)) w.heap.size (.slice xa xn xc) D := OwnV.below HB.out.1 hbO (Nat.le_refl _)
            have hDl9 : D.length ≤ 1000000000 := by have := HNN.out; omega
            have hz9 : w.heap.size ≤ (wr.alloc (.cells #[.int .i64 0] 3)).heap.size := by have := hbO.size; have := HB.out.2.size; omega
            have HC := hid (And.intro hbA hbO)
            clear hbA hbO hbx
            go_wp2_with (at_builtin; refine append_i1 _ rfl _ _ 29 rfl Try.underlying29 info3 w.heap.size _ _ 0 rfl hoA _ _ rfl (cell_alloc1 _ _ _) hDl9 hz9 ?_)
            intro v5 w5 ho5 hk5 hb5 hq5
            have hlen5 : ∀ w', (Builtin.len_ #[29] 3 #[v5]).run Try.prog w' = .ok (.int .i64 ((t : Int) + 1)) w' := fun w' => by
              have h9 := ho5.slI.len (P := Try.prog) Try.underlying29 (ty := 3) w'
              rw [List.length_append, ← HNN.out] at h9
              exact h9
            have hsub : IntKind.i64.wrap ((t : Int) + 1 - 1) = (t : Int) := by rw [IntWalk.i64_in _ (by omega)]; omega
            have hsub2 : IntKind.i64.wrap (t : Int) = (t : Int) := IntWalk.i64_in _ (by omega)
            obtain ⟨ga, gn, gc, rfl⟩ : ∃ g n c, v5 = .slice (some ⟨g, 0, none⟩) n c := by
              rcases (ownI_G ho5).shape with ⟨_, he⟩ | ⟨g, c, rfl, _⟩
              · have := congrArg List.length he; simp at this
              · exact ⟨_, _, _, rfl⟩
            have H5 := hid (And.intro ho5 ((HB.out.2.trans (HC.out.2.mono HB.out.2.size)).trans hb5))
            clear ho5 hk5 hb5 hq5 hoA hDl9 hz9
            go_wp2_with fail
            go_loopw [7] (fun s7 wy => ∃ u : Nat, s7 = .int .i64 u ∧ t ≤ u ∧ u ≤ t ∧ OwnI wy w.heap.size (.slice (some ⟨ga, 0, none⟩) gn gc) (shifted D u) ∧ Below w.heap.size w wy) (fun s7 _ => (intOf s7).toNat)
            case atStart => exact ⟨t, rfl, by omega, Nat.le_refl _, by rw [HNN.out, shifted_end]; exact H5.out.1, H5.out.2⟩
            case round =>
              obtain ⟨u, rfl, hu1, hu2, ho, hby⟩ := hrel
              have hu3 : u ≤ D.length := by have := HNN.out; omega
              by_cases hut : t < u
              · exfalso; omega
              · obtain rfl : u = t := by omega
                have hsh := shifted_len D hu3
                have hcu : wr.cell? ⟨ga, u, none⟩ = some (.int .i64 ((shifted D u).getD u 0)) := ho.at u (by omega)
                have hfz := OwnV.fz ho u
                have hset := ho.set u k (by omega)
                rw [shifted_put hu3] at hset
                have hia7 : ∀ (w' : World) (k : IntKind), (Instr.indexAt 29 (.slice (some ⟨ga, 0, none⟩) gn gc) (.int k (u : Int))).run Try.prog w' = .ok (.pointer (some ⟨ga, u, none⟩)) w' := by
                  have h9 := (ownI_G ho).addr (P := Try.prog) Try.underlying29 size3 u (by rw [List.length_map]; omega)
                  simpa using h9
                have hbs := hby.setCell (p := ⟨ga, u, none⟩) (World.ownsRow.lt ho _ rfl).1 (.int .i64 k)
                have HY := hid (And.intro hset hbs)
                clear hset hbs ho hby hsh hu3
                go_wp2_with fail
                exact ⟨⟨j + 1, by go_num, by omega, by rw [HN.out]; simp only [if_true]; rw [HJ.out]; exact HY.out.1, HY.out.2⟩, by simp [intOf]; omega⟩
    · obtain rfl : j = r.l.length := by omega
      rw [List.take_length] at ho
      have HO := hid (And.intro ho hbl)
      clear ho hbl hR
      go_wp2_with fail
      go_ret
      exact ⟨_, rfl, HO.out.1, HO.out.2⟩
end
end Go.Proofs.Ytbklhhmcigangaa

namespace Go.Lr
/-- all that is dirty, written -/
def flushR (r : RC) (ρ : Int → Nat) : RC × List Int := (dirtyRL r.l).foldl (fun s k => (writeR s.1 ρ k, s.2 ++ writeL s.1 ρ k)) (r, [])
theorem clean_sub (r : RC) (k : Int) : ∀ q ∈ (cleanR r k).r, q ∈ r.r := fun q hq => (List.mem_filter.1 hq).1
theorem cleans_sub (l : List Int) : ∀ (r : RC), ∀ q ∈ (l.foldl cleanR r).r, q ∈ r.r := by
  induction l with
  | nil => exact fun r q hq => hq
  | cons x l ih => exact fun r q hq => clean_sub r x q (ih (cleanR r x) q hq)
theorem write_sub (r : RC) (ρ : Int → Nat) (k : Int) : ∀ q ∈ (writeR r ρ k).r, q ∈ r.r := cleans_sub _ r
/-- an act of the law -/
structure ActM where
  what : Int
  k : Int
  first : Int
  b : List UInt8
  d : Bool
end Go.Lr
namespace Go.Proofs.Ytbklhhmcigangaa
open Go.RowKit Go.Mx Go.Lr Go.Maps
set_option linter.unusedVariables false
set_option linter.unusedSimpArgs false
section
variable {w w' : World} {base q : Nat} {r : RC} {ls : List PI} {lv rv : Value}
theorem writeL_len {r : RC} {ρ : Int → Nat} (hρ : ∀ q ∈ r.r, ρ q.2 < ρ q.1) (hl : r.r.length ≤ 2000) (k : Int) : (writeL r ρ k).length ≤ 2001 := by
  unfold writeL
  split
  · obtain ⟨t, h1, _, h3⟩ := line_ext (R := r.r) hρ k (ρ k + 1) [] k (Nat.lt_succ_self _) ⟨by simp, by simp⟩ (List.mem_cons_self ..)
    have h4 := h3.len
    rw [h1]; omega
  · simp
set_option maxRecDepth 100000 in
set_option maxHeartbeats 2000000 in
theorem rflush_any (h : RK w base q r ls lv rv) (ρ : Int → Nat) (hρ : ∀ q ∈ r.r, ρ q.2 < ρ q.1) : Calls Try.prog 42 #[cp q] w fun e w' => ∃ v, e = .returned v ∧ OwnI w' w.heap.size v (flushR r ρ).2 ∧ RX w' base q (flushR r ρ).1 ∧ RStp base w w' := by
  have HD := hid (rdirtyL_any h)
  obtain ⟨st, hst⟩ : ∃ st : Nat → RC × List Int, st = fun j => ((dirtyRL r.l).take j).foldl (fun s k => (writeR s.1 ρ k, s.2 ++ writeL s.1 ρ k)) (r, []) := ⟨_, rfl⟩
  have hst0 : st 0 = (r, []) := by rw [hst]; rfl
  have hsts : ∀ j x, (dirtyRL r.l)[j]? = some x → st (j + 1) = (writeR (st j).1 ρ x, (st j).2 ++ writeL (st j).1 ρ x) := fun j x hx => by
    rw [hst]; simp only; rw [List.take_add_one, hx, List.foldl_append]; rfl
  have hste : flushR r ρ = st (dirtyRL r.l).length := by rw [hst]; simp only; rw [List.take_length]; rfl
  have hinv : ∀ j, j ≤ (dirtyRL r.l).length → (∀ q ∈ (st j).1.r, q ∈ r.r) := by
    intro j
    induction j with
    | zero => intro _; rw [hst0]; exact fun q hq => hq
    | succ j ih =>
      intro hj
      rw [hsts j _ (List.getElem?_eq_getElem (by omega))]
      exact fun q hq => ih (by omega) q (write_sub _ _ _ q hq)
  obtain ⟨L, hL⟩ : ∃ L, L = dirtyRL r.l := ⟨_, rfl⟩
  have hLl : L.length ≤ 2000 := by rw [hL]; exact Nat.le_trans (dirtyRL_len _) h.ll
  rw [← hL] at hsts hste hinv HD
  rw [hste]
  have HST := hid (And.intro hst0 (And.intro hsts (And.intro hinv hρ)))
  have H := hid h
  clear h hst hst0 hsts hste hinv hρ hL
  go_enter Try.func42, Try.ntmps42
  go_wp2_with fail
  refine HD.out.mono ?_
  rintro e w1 ⟨dv, rfl, hod, hb1⟩
  have hlen := fun w' => hod.slI.len (P := Try.prog) Try.underlying29 (ty := 3) w'
  obtain ⟨da, dn, dc, rfl⟩ := ownG_shape (ownI_G hod)
  have H1 := hid (And.intro hod hb1)
  clear hod hb1 HD
  go_wp2_with fail
  go_loopw [4, 5] (fun s4 s5 wr => ∃ j : Nat, s5 = .int .i64 j ∧ j ≤ L.length ∧ RX wr base q (st j).1 ∧ RStp base w wr ∧ OwnI wr w1.heap.size s4 (st j).2 ∧ OwnI wr w.heap.size (.slice da dn dc) L ∧ (st j).2.length ≤ 2001 * j ∧ w1.heap.size ≤ wr.heap.size) (fun _ s5 _ => L.length - (intOf s5).toNat)
  case atStart =>
    refine ⟨0, rfl, by omega, ?_, RStp.below H1.out.2 H.out.base_le, ?_, H1.out.1, ?_, Nat.le_refl _⟩
    · rw [HST.out.1]; exact ⟨_, _, _, H.out.below H1.out.2⟩
    · rw [HST.out.1]; exact OwnV.nil _ _ _
    · rw [HST.out.1]; simp
  case round =>
    obtain ⟨j, rfl, hj, ⟨ls5, lv5, rv5, hR⟩, hS, ho, hod, hlj, hz1⟩ := hrel
    obtain ⟨oa, on, oc, rfl⟩ := ownG_shape (ownI_G ho)
    obtain ⟨wO, hwO⟩ : ∃ x, x = wr := ⟨_, rfl⟩
    subst hwO
    by_cases hlt : j < L.length
    · obtain ⟨bb, bo, hbb, hia, hcell⟩ := hod.slI.addr (P := Try.prog) Try.underlying29 size3 j hlt
      have hgx : L[j]? = some (L.getD j 0) := by rw [List.getD_eq_getElem?_getD, List.getElem?_eq_getElem hlt]; rfl
      obtain ⟨x, hx⟩ : ∃ x, x = L.getD j 0 := ⟨_, rfl⟩
      rw [← hx] at hcell hgx
      have hρj : ∀ q ∈ (st j).1.r, ρ q.2 < ρ q.1 := fun q hq => HST.out.2.2.2 q (HST.out.2.2.1 j hj q hq)
      have HW := hid (rwrite_any hR x ρ hρj)
      have hwl := writeL_len hρj hR.lr x
      have hs1 := HST.out.2.1 j x hgx
      obtain ⟨WL, hWL⟩ : ∃ WL, WL = writeL (st j).1 ρ x := ⟨_, rfl⟩
      obtain ⟨SL, hSL⟩ : ∃ SL, SL = (st j).2 := ⟨_, rfl⟩
      rw [← hWL] at HW hwl hs1
      rw [← hSL] at hs1 ho hlj
      have HQ := hid (And.intro hS (And.intro ho (And.intro hod (And.intro hs1 hz1))))
      clear hR hS ho hod hs1 hgx hx hbb hρj hWL hSL
      go_wp2_with fail
      refine HW.out.mono ?_
      rintro e w6 ⟨v6, rfl, ho6, hX6, hS6⟩
      obtain ⟨ya, yn, yc, rfl⟩ := ownG_shape (ownI_G ho6)
      have hsl6 := ho6.slI
      have hown := ownI_G (ownI_kr HQ.out.2.1 hS6.kr)
      have hrl1 : ∀ r ∈ (WL.map fun n => [Value.int .i64 n]), r.length = 1 := by intro r hr; obtain ⟨x, _, rfl⟩ := List.mem_map.1 hr; rfl
      have hone1 : ∀ r ∈ (WL.map fun n => [Value.int .i64 n]), ∀ u ∈ r, u.oneCell' = true := by intro r hr u hu; obtain ⟨x, _, rfl⟩ := List.mem_map.1 hr; simp at hu; subst hu; rfl
      have hl8 : ((SL.map fun n => [Value.int .i64 n]).length + (WL.map fun n => [Value.int .i64 n]).length) * 8 ≤ 140737488355328 := by simp only [List.length_map]; omega
      have hl9 : (SL.map fun n => [Value.int .i64 n]).length + (WL.map fun n => [Value.int .i64 n]).length ≤ 140737488355328 := by simp only [List.length_map]; omega
      have hz6 : w1.heap.size ≤ w6.heap.size := by
        have h1 := HQ.out.2.2.2.2
        have h2 := hS6.bel.size
        omega
      have HG := hid (And.intro hX6 hS6)
      clear ho6 hX6 hS6 HW
      go_wp2_with (at_builtin; refine append_sg _ rfl _ _ 29 3 (.int .i64 0) 1 8 rfl Try.underlying29 info3 rfl (by decide) w1.heap.size _ (SL.map fun n => [Value.int .i64 n]) rfl hown w6.heap.size _ (WL.map fun n => [Value.int .i64 n]) rfl hsl6 hrl1 hone1 hl8 hl9 hz6 ?_)
      intro v7 w7 ho7 hg7 hb7
      replace ho7 : OwnI w7 w1.heap.size v7 (SL ++ WL) := ownG_I (by rw [List.map_append]; exact ho7)
      obtain ⟨za, zn, zc, rfl⟩ := ownG_shape (ownI_G ho7)
      obtain ⟨ls6, lv6, rv6, hR6⟩ := HG.out.1
      have hk67 : Kept w6 w7 (fun q => (Value.slice oa on oc).ownBlock ≠ some q) := Kept.grown hg7 fun k e => by simp [e]
      have ho6 := ownI_kr HQ.out.2.1 HG.out.2.kr
      have hR7 := hR6.ints ho6 hk67
      have hod6 := ownI_kr HQ.out.2.2.1 HG.out.2.kr
      have hod7 : OwnI w7 w.heap.size (.slice da dn dc) L := ownI_kept hod6 (N := fun q => q < w1.heap.size) ⟨hb7.size, fun k _ hk => hb7.block k hk⟩ fun q e => OwnV.lt H1.out.1 q e
      have hS07 : RStp base w w7 := by
        have h6 := HQ.out.1.trans HG.out.2
        have hw1 := H1.out.2.size
        exact ⟨h6.bel.trans (hb7.mono (by have := H.out.base_le; omega)), ⟨Nat.le_trans h6.kr.size hb7.size, fun k hk hn => (hb7.block k (by omega)).trans (h6.kr.block k hk hn)⟩⟩
      have HE := hid (And.intro hR7 (And.intro hS07 (And.intro ho7 (And.intro hod7 hb7.size))))
      clear hR6 hk67 ho6 hR7 hod6 hod7 hS07 ho7 hg7 hb7 hown hsl6 hrl1 hone1 hl8 hl9
      go_wp2_with fail
      have e9 := HQ.out.2.2.2.1
      refine ⟨⟨j + 1, by go_num, by omega, by rw [e9]; exact ⟨_, _, _, HE.out.1⟩, HE.out.2.1, by rw [e9]; exact HE.out.2.2.1, HE.out.2.2.2.1, by rw [e9]; simp; omega, by have := HE.out.2.2.2.2; omega⟩, by simp [intOf]; omega⟩
    · obtain rfl : j = L.length := by omega
      have HO := hid (And.intro hR (And.intro hS ho))
      clear hR hS ho hod
      go_wp2_with fail
      go_ret
      exact ⟨_, rfl, OwnV.any_base HO.out.2.2 H1.out.2.size, ⟨_, _, _, HO.out.1⟩, HO.out.2.1⟩
set_option maxRecDepth 100000 in
theorem ints39 (l : List Int) (av bv : Value) (w : World) (ha : SlI w w.heap.size av l) (hb : SlI w w.heap.size bv l) (hl : l.length ≤ 1000000000) :
    Calls Try.prog 39 #[av, bv] w fun e w' => e = .returned (.bool true) ∧ Below w.heap.size w w' := by
  have hla := fun w' => ha.len (P := Try.prog) (ty := 3) Try.underlying29 w'
  have hlb := fun w' => hb.len (P := Try.prog) (ty := 3) Try.underlying29 w'
  have hbe : ((l.length : Int) != (l.length : Int)) = false := by simp
  go_enter Try.func39, Try.ntmps39
  go_wp2_with fail
  go_loopw [5] (fun i wr => ∃ k : Nat, k ≤ l.length ∧ i = .int .i64 k ∧ Below w.heap.size w wr)
    (fun i _ => l.length - (intOf i).toNat)
  case atStart => exact ⟨0, by omega, rfl, Below.refl _ _⟩
  case round =>
    obtain ⟨k, hk, rfl, hbel⟩ := hrel
    by_cases hlt : k < l.length
    · obtain ⟨b1, o1, h1, hi1, hc1⟩ := (ha.below hbel (Nat.le_refl _)).addr (P := Try.prog) Try.underlying29 size3 k hlt
      obtain ⟨b2, o2, h2, hi2, hc2⟩ := (hb.below hbel (Nat.le_refl _)).addr (P := Try.prog) Try.underlying29 size3 k hlt
      obtain ⟨x, hx⟩ : ∃ x, x = l.getD k 0 := ⟨_, rfl⟩
      rw [← hx] at hc1 hc2
      have hne : (x != x) = false := by simp
      clear hx
      go_wp2
      go_quiet (fail)
      have hb2' : Below w.heap.size w (wr.drewN nq) := below_drewN hbel nq
      clear hi1 hi2 hc1 hc2
      go_wp2
      go_roundw
      case rel => exact ⟨k + 1, by omega, by go_num, hb2'⟩
      case measure => simp [intOf]; omega
    · go_wp2
      go_ret
      exact ⟨rfl, hbel⟩
end
/-- how an act lies in memory -/
structure AI where
  a : ActM
  bv : Value
abbrev arow (f : AI) : List Value := [.int .i64 f.a.what, .int .i64 f.a.k, .int .i64 f.a.first, f.bv, .bool f.a.d]
def SlA (w : World) (B : Nat) (v : Value) (fs : List AI) : Prop := SlG w B 5 v (fs.map arow) ∧ ∀ f ∈ fs, SlB w B f.bv f.a.b ∧ isI f.a.what ∧ isI f.a.k ∧ isI f.a.first
theorem SlA.below {w w' : World} {B : Nat} {v : Value} {fs : List AI} (h : SlA w B v fs) (hb : Below B w w') : SlA w' B v fs := ⟨h.1.below hb (Nat.le_refl _), fun f hf => ⟨(h.2 f hf).1.below hb (Nat.le_refl _), (h.2 f hf).2⟩⟩
theorem size45 (w : World) : (sizeOf 45).run Try.prog w = .ok 5 w := by kernel_rfl
theorem SlA.len {w : World} {B : Nat} {v : Value} {fs : List AI} (h : SlA w B v fs) (w' : World) : (Builtin.len_ #[38] 3 #[v]).run Try.prog w' = .ok (.int .i64 fs.length) w' := by
  have := h.1.len (P := Try.prog) Try.underlying38 (ty := 3) w'
  rw [List.length_map] at this; exact this
theorem SlA.item {w : World} {B : Nat} {v : Value} {fs : List AI} (h : SlA w B v fs) {i : Nat} {f : AI} (hi : fs[i]? = some f) : ∃ b o, b < B ∧ (∀ w' (k : IntKind), (Instr.indexAt 38 v (.int k (i : Int))).run Try.prog w' = .ok (.pointer (some ⟨b, o, none⟩)) w') ∧
    w.cell? ⟨b, o, none⟩ = some (.int .i64 f.a.what) ∧ w.cell? ⟨b, o + 1, none⟩ = some (.int .i64 f.a.k) ∧ w.cell? ⟨b, o + 2, none⟩ = some (.int .i64 f.a.first) ∧ w.cell? ⟨b, o + 3, none⟩ = some f.bv ∧ w.cell? ⟨b, o + 4, none⟩ = some (.bool f.a.d) := by
  have hl : i < (fs.map arow).length := by rw [List.length_map]; exact (List.getElem?_eq_some_iff.1 hi).1
  obtain ⟨b, o, hb, h1, h2⟩ := h.1.addr (P := Try.prog) Try.underlying38 size45 i hl
  have hg : (fs.map arow).getD i [] = arow f := by rw [List.getD_eq_getElem?_getD, List.getElem?_map, hi]; rfl
  rw [hg] at h2
  exact ⟨b, o, hb, h1, h2 0 _ rfl, h2 1 _ rfl, h2 2 _ rfl, h2 3 _ rfl, h2 4 _ rfl⟩
def HvP (w : World) (fs : List AI) (e : Ending) (w' : World) : Prop := ∃ b : Bool, e = .returned (.bool b) ∧ (b = false → fs.length ≤ 80 ∧ ∀ f ∈ fs, f.a.b.length ≤ 200) ∧ Below w.heap.size w w'
set_option maxRecDepth 100000 in
theorem heavy_any (fs : List AI) (v : Value) (w : World) (h : SlA w w.heap.size v fs) : Calls Try.prog 17 #[v] w (HvP w fs) := by
  have hlen := h.len
  have H := hid h
  obtain ⟨oa, nn, cc, rfl⟩ : ∃ oa n c, v = .slice oa n c := by obtain ⟨oa, c, e, _⟩ := h.1; exact ⟨_, _, _, e⟩
  clear h
  go_enter Try.func17, Try.ntmps17
  go_wp2_with fail
  go_loopw [3] (fun s3 wr => ∃ j : Nat, s3 = .int .i64 j ∧ j ≤ fs.length ∧ j ≤ 80 ∧ Below w.heap.size w wr ∧ Hid (∀ f ∈ fs.take j, f.a.b.length ≤ 200)) (fun s3 _ => 80 - (intOf s3).toNat)
  case atStart => exact ⟨0, rfl, by omega, by omega, Below.refl _ _, hid (by simp)⟩
  case round =>
    obtain ⟨j, rfl, hj, hj8, hbl, HT⟩ := hrel
    by_cases hlt : j < fs.length
    · by_cases hl8 : j < 80
      · obtain ⟨f, hf⟩ : ∃ f, fs[j]? = some f := ⟨_, List.getElem?_eq_getElem hlt⟩
        obtain ⟨b, o, hb, hia, g0, g1, g2, g3, g4⟩ := (H.out.below hbl).item hf
        have hsb := ((H.out.below hbl).2 f (List.mem_of_getElem? hf)).1
        have hlb := fun w' => hsb.len (P := Try.prog) Try.underlying22 (ty := 3) w'
        have HN := hid (show fs.take (j + 1) = fs.take j ++ [f] by rw [List.take_add_one, hf]; rfl)
        obtain ⟨xa, xn, xc, hbv⟩ := slB_shape hsb
        rw [hbv] at g3 hlb
        obtain ⟨n, hn⟩ : ∃ n, n = f.a.b.length := ⟨_, rfl⟩
        rw [← hn] at hlb
        have HX := hid (And.intro hbl hn)
        clear hbl hf hb hsb hbv hn g0 g1 g2 g4
        by_cases hc : 200 < n
        · have hc2 : (200 : Int) < (n : Int) := by omega
          go_wp2_with fail
          go_ret
          exact ⟨true, rfl, by simp, HX.out.1⟩
        · have hc2 : ¬ (200 : Int) < (n : Int) := by omega
          go_wp2_with fail
          refine ⟨⟨j + 1, by go_num, by omega, by omega, HX.out.1, hid fun g hg => ?_⟩, by simp [intOf]; omega⟩
          rw [HN.out] at hg
          rcases List.mem_append.1 hg with hg | hg
          · exact HT.out g hg
          · simp at hg; rw [hg, ← HX.out.2]; omega
      · obtain rfl : j = 80 := by omega
        have hc : (80 : Int) < (fs.length : Int) := by omega
        have HX := hid hbl
        clear hbl
        go_wp2_with fail
        go_ret
        exact ⟨true, rfl, by simp, HX.out⟩
    · obtain rfl : j = fs.length := by omega
      have hc : ¬ (80 : Int) < (fs.length : Int) := by omega
      have hc2 : ¬ 80 < fs.length := by omega
      have HX := hid hbl
      clear hbl
      go_wp2_with fail
      go_ret
      refine ⟨false, rfl, fun _ => ⟨hj8, ?_⟩, HX.out⟩
      have := HT.out
      rwa [List.take_length] at this
end Go.Proofs.Ytbklhhmcigangaa

