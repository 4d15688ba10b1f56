import Derived.Test.YtmcllcepoiakeaaGreatTH
import Derived.Test.YtmcllcepoiakeaaGreatTC
import Derived.Test.YtmcllcepoiakeaaGreatCE
import Derived.Maps.OwnIn
set_option linter.unusedSimpArgs false
set_option linter.unusedVariables false
namespace Go.Proofs.YtmcllcepoiakeaaGreat
open Go.RowKit Go.Mx Go.Shelf Go.Proofs.YtmcllcepoiakeaaGreat.Cx Go.Proofs.YtmcllcepoiakeaaGreat.Dx
attribute [local go_sem] Oper.semAt_some
abbrev Lk := { x : List UInt8 × List UInt8 // x.1.length ≤ maxLen ∧ x.2.length ≤ maxLen }
def lkR (x : Lk) : List Value := [nmv x.1.1, nmv x.1.2]
theorem size74 : ∀ w, (sizeOf 74).run Tryz.prog w = .ok 2 w := fun w => by kernel_rfl
def bkAt (ls : List Lk) (d : Lk) (r : Nat) : Nat × Lk := (ls.length - 1 - r, ls.getD (ls.length - 1 - r) d)
def bkTo (ls : List Lk) (d : Lk) (k : Nat) : List (Nat × Lk) := (List.range k).map (bkAt ls d)
theorem bkTo_succ (ls : List Lk) (d : Lk) (k : Nat) : bkTo ls d (k + 1) = bkTo ls d k ++ [bkAt ls d k] := by unfold bkTo; rw [List.range_succ, List.map_append]; rfl
theorem bkTo_len (ls : List Lk) (d : Lk) (k : Nat) : (bkTo ls d k).length = k := by simp [bkTo]
theorem bkTo_prefix (ls : List Lk) (d : Lk) {k n : Nat} (h : k ≤ n) : bkTo ls d k <+: bkTo ls d n := by
  obtain ⟨r, rfl⟩ := Nat.exists_eq_add_of_le h
  exact ⟨(List.range' k r).map (bkAt ls d), by unfold bkTo; rw [← List.map_append]; congr 1; rw [List.range_eq_range', List.range_eq_range']; have := List.range'_append_1 (s := 0) (m := k) (n := r); simpa using this⟩
theorem rows_at (ls : List Lk) (d : Lk) {r : Nat} (h : r < ls.length) : (ls.map lkR).getD r [] = lkR (ls.getD r d) := by
  simp only [List.getD_eq_getElem?_getD, List.getElem?_map, List.getElem?_eq_getElem h, Option.map_some, Option.getD_some]
set_option maxRecDepth 100000 in
set_option maxHeartbeats 2000000 in
theorem back1_in (n : Nat) (hn : 1 ≤ n) (l Bx n₀ : Nat) (lv : Value) (ls : List Lk) (d : Lk) (J Jx : List (Nat × Lk) → World → Prop) (hls : ls.length ≤ 1000)
    (hY : ∀ pre x W, J pre W → pre.length < ls.length → YieldAt Fence.wide (n - 1) Tryz.prog l #[.int .i64 x.1, .agg #[nmv x.2.1.1, nmv x.2.1.2]] W fun e W' =>
      (e = .returned (.bool true) ∧ J (pre ++ [x]) W' ∧ KpA n₀ [Bx] W W') ∨ (e = .returned (.bool false) ∧ Jx (pre ++ [x]) W'))
    (W : World) (hBx : W.cell? ⟨Bx, 0, none⟩ = some lv) (hn₀ : n₀ ≤ W.heap.size) (hs : SlG W n₀ 2 lv (ls.map lkR)) (h0 : J [] W) :
    CallsIn Fence.wide n Tryz.prog 119 #[.func (.yield l) #[] #[], .pointer (some ⟨Bx, 0, none⟩)] W fun e W' => (∃ v, e = .returned v) ∧
      ((∃ ys, ys = bkTo ls d ls.length ∧ J ys W') ∨ (∃ pre, pre <+: bkTo ls d ls.length ∧ Jx pre W')) := by
  have hlen := fun w' => hs.len (P := Tryz.prog) (ty := 3) Tryz.underlying70 w'
  obtain ⟨va, vn, vc, rfl⟩ := slG_sh hs
  rw [List.length_map] at hlen
  refine callsIn_of_wp Tryz.func119 rfl trivial ?_ rfl
  simp only [Tryz.ntmps119, List.size_toArray, List.length_cons, List.length_nil, Nat.reduceAdd, Nat.reduceSub, Array.replicate_succ, Array.replicate_zero, List.push_toArray, List.append_toArray, List.nil_append, List.cons_append]
  gi_wp2
  gi_loopw [3] (fun i wr => ∃ k : Nat, k ≤ ls.length ∧ i = .int .i64 ((ls.length : Int) - 1 - k) ∧ J (bkTo ls d k) wr ∧ KpA n₀ [Bx] W wr) (fun i _ => (intOf i + 1).toNat)
  case atStart => exact ⟨0, Nat.zero_le _, by go_num, h0, KpA.refl _ _ _⟩
  case round =>
    obtain ⟨k, hk, rfl, hJs, hkp⟩ := hrel
    have hBx' : wr.cell? ⟨Bx, 0, none⟩ = some (.slice va vn vc) := (cell_heap (hkp.2 Bx (by simp))).trans hBx
    by_cases hlt : k < ls.length
    · obtain ⟨b, o, hb, hia, hrow⟩ := (hs.below hkp.1 (Nat.le_refl _)).addr (P := Tryz.prog) Tryz.underlying70 size74 (ls.length - 1 - k) (by simp; omega)
      have hia := hia wr .i64
      have hr0 := hrow 0 (nmv (bkAt ls d k).2.1.1) (by rw [rows_at ls d (by omega)]; rfl)
      have hr1 := hrow 1 (nmv (bkAt ls d k).2.1.2) (by rw [rows_at ls d (by omega)]; rfl)
      have hix : ((ls.length - 1 - k : Nat) : Int) = (ls.length : Int) - 1 - k := by omega
      obtain ⟨fn, tmps, assign, body, hy, hR⟩ := hY (bkTo ls d k) (bkAt ls d k) wr hJs (by rw [bkTo_len]; exact hlt)
      have hb1 : (bkAt ls d k).1 = ls.length - 1 - k := rfl
      rw [hb1, hix] at hy
      rw [hix] at hia
      have hp := hid (bkTo_prefix ls d (show k + 1 ≤ ls.length by omega))
      have hsu := hid (bkTo_succ ls d k)
      obtain ⟨s1, hs1⟩ : ∃ s, s = nmv (bkAt ls d k).2.1.1 := ⟨_, rfl⟩
      obtain ⟨s2, hs2⟩ : ∃ s, s = nmv (bkAt ls d k).2.1.2 := ⟨_, rfl⟩
      rw [← hs1] at hr0 hy
      rw [← hs2] at hr1 hy
      obtain ⟨x, hx⟩ : ∃ x, x = bkAt ls d k := ⟨_, rfl⟩
      rw [← hx] at hsu hR
      simp only [Nat.add_zero] at hr0
      obtain ⟨iv, hiv⟩ : ∃ iv : Int, iv = (ls.length : Int) - 1 - k := ⟨_, rfl⟩
      rw [← hiv] at hia hy ⊢
      have hge : (0 : Int) ≤ iv := by omega
      have hle : iv ≤ 1000 := by omega
      have tge : decide ((0 : Int) ≤ iv) = true := by simpa using hge
      have HIV := hid hiv
      clear hrow hs1 hs2 hx hb1 hix hs hlen hiv
      gi_wp2
      refine hR.mono ?_
      rintro e W3 (⟨rfl, hJ3, hk3⟩ | ⟨rfl, hJx3⟩)
      · gi_wp2
        go_roundw
        case rel => exact ⟨k + 1, by omega, by have := HIV.out; rw [show (ls.length : Int) - 1 - ((k + 1 : Nat) : Int) = iv - 1 by omega], by rw [hsu.out]; exact hJ3, hkp.trans hk3⟩
        case measure => simp [intOf]; omega
      · gi_wp2
        refine bodyPost_ret (results_none rfl _ _ _) rfl ?_
        exact ⟨⟨_, rfl⟩, .inr ⟨_, by rw [← hsu.out]; exact hp.out, hJx3⟩⟩
    · obtain rfl : k = ls.length := by omega
      gi_wp2
      go_end0
      exact ⟨⟨_, rfl⟩, .inl ⟨_, rfl, hJs⟩⟩
theorem back_stops (n : Nat) (hn : 1 ≤ n) (Bx n₀ : Nat) (lv : Value) (ls : List Lk) (d : Lk) (hls : ls.length ≤ 1000) (w : World) (hbx : Bx < w.heap.size) (hn₀ : n₀ ≤ w.heap.size) (hc : w.cell? ⟨Bx, 0, none⟩ = some lv) (hs : SlG w n₀ 2 lv (ls.map lkR)) :
    SeqStopsK Fence.wide n Tryz.prog 119 #[.pointer (some ⟨Bx, 0, none⟩)] (fun x : Nat × Lk => #[.int .i64 x.1, .agg #[nmv x.2.1.1, nmv x.2.1.2]]) (KpA n₀ [Bx]) (fun ys => ys = bkTo ls d ls.length) (fun pre => pre <+: bkTo ls d ls.length) ls.length w := fun l J Jx W hW _ _ hY h0 =>
  back1_in n hn l Bx n₀ lv ls d J Jx hls hY W ((hW.cell (p := ⟨Bx, 0, none⟩) hbx).trans hc) (Nat.le_trans hn₀ hW.size) (hs.below (hW.mono hn₀) (Nat.le_refl _)) h0
/-- the last name that is put wins: of the links from their last one on, the first one -/
def lk (ls : List Lk) (s : List UInt8) : Option (List UInt8) := (ls.find? fun x => decide (x.1.1 = s)).map (·.1.2)
def mapOf (pre : List (Nat × Lk)) : ML (List UInt8) := pre.foldl (fun l x => Mx.upd l x.2.1.1 (nmv x.2.1.2)) []
theorem mapOf_snoc (pre : List (Nat × Lk)) (x : Nat × Lk) : mapOf (pre ++ [x]) = Mx.upd (mapOf pre) x.2.1.1 (nmv x.2.1.2) := by simp [mapOf]
theorem mapOf_len (pre : List (Nat × Lk)) : (mapOf pre).length ≤ pre.length := by
  have h : ∀ (pre : List (Nat × Lk)) (l : ML (List UInt8)), (pre.foldl (fun l x => Mx.upd l x.2.1.1 (nmv x.2.1.2)) l).length ≤ l.length + pre.length := by
    intro pre
    induction pre with
    | nil => intro l; simp
    | cons x pre ih => intro l; rw [List.foldl_cons]; have := ih (Mx.upd l x.2.1.1 (nmv x.2.1.2)); rw [upd_len] at this; simp only [List.length_cons]; split at this <;> omega
  have := h pre []; simpa [mapOf] using this
theorem bkTo_snd (ls : List Lk) (d : Lk) : (bkTo ls d ls.length).map (·.2) = ls.reverse := by
  apply List.ext_getElem?
  intro i
  by_cases h : i < ls.length
  · rw [List.getElem?_map, List.getElem?_reverse h, bkTo, List.getElem?_map, List.getElem?_range h]
    simp only [Option.map_some, bkAt, List.getD_eq_getElem?_getD]
    rw [List.getElem?_eq_getElem (by omega)]; rfl
  · rw [List.getElem?_eq_none (by simp [bkTo]; omega), List.getElem?_eq_none (by simp; omega)]
theorem mapOf_look (ls : List Lk) (d : Lk) (s : List UInt8) : Mx.look (mapOf (bkTo ls d ls.length)) s = (lk ls s).map nmv := by
  have h1 : ∀ pre : List (Nat × Lk), mapOf pre = (pre.map (·.2)).foldl (fun l x => Mx.upd l x.1.1 (nmv x.1.2)) [] := fun pre => by unfold mapOf; rw [List.foldl_map]
  rw [h1, bkTo_snd, List.foldl_reverse]
  induction ls with
  | nil => rfl
  | cons x ls ih =>
    rw [List.foldr_cons, look_upd]
    unfold lk
    rw [List.find?_cons]
    by_cases e : x.1.1 = s
    · rw [if_pos e.symm]; simp [e]
    · rw [if_neg (fun h => e h.symm)]; simp only [e, decide_false]; exact ih
def ckTo (ls : List Lk) : Nat → List (List UInt8) → Nat → List UInt8 → Int
  | 0, _, _, _ => 0
  | f + 1, seen, n, bk => if bk = [] then 0 else match lk ls bk with
    | none => 4
    | some nx => if bk ∈ seen then 11 else if 8 ≤ n then 10 else ckTo ls f (seen ++ [bk]) (n + 1) nx
def checkM (ls : List Lk) (nm : List UInt8) : Int := match lk ls nm with
  | none => 15
  | some b => ckTo ls 9 [nm] 1 b
def seenL (seen : List (List UInt8)) : ML (List UInt8) := seen.map fun s => (s, .int .i64 1)
theorem seenL_look (seen : List (List UInt8)) (s : List UInt8) : Mx.look (seenL seen) s = if s ∈ seen then some (.int .i64 1) else none := by
  induction seen with
  | nil => rfl
  | cons a l ih =>
    unfold seenL at ih ⊢
    rw [List.map_cons, look_cons, ih]
    by_cases e : a = s
    · subst e; simp
    · rw [if_neg e]; simp [Ne.symm e]
theorem seenL_upd (seen : List (List UInt8)) (s : List UInt8) (h : s ∉ seen) : Mx.upd (seenL seen) s (.int .i64 1) = seenL (seen ++ [s]) := by
  unfold Mx.upd; rw [seenL_look, if_neg h]; simp [seenL]
theorem lk_len {ls : List Lk} {s b : List UInt8} (h : lk ls s = some b) : b.length ≤ maxLen := by
  unfold lk at h
  cases hf : ls.find? fun x => decide (x.1.1 = s) with
  | none => rw [hf] at h; cases h
  | some x => rw [hf] at h; cases h; exact x.2.2
attribute [local go_sem] Oper.semAt_some
theorem backward_call (va : Option Addr) (vn vc : Nat) (w : World) : Calls Tryz.prog 60 #[.slice va vn vc] w fun e w' => e = .returned (.func (.func 119) #[] #[.pointer (some ⟨w.heap.size, 0, none⟩)]) ∧ w' = w.alloc (.cells #[.slice va vn vc] 70) := by
  go_enter Tryz.func60, Tryz.ntmps60
  go_wp2
  go_ret
  exact ⟨rfl, rfl⟩
theorem zero9 : ∀ w, (zeroValue 9).run Tryz.prog w = .ok (.string ⟨#[]⟩) w := fun w => by kernel_rfl
theorem zero3 : ∀ w, (zeroValue 3).run Tryz.prog w = .ok (.int .i64 0) w := fun w => by kernel_rfl
theorem kstr : KOK Tryz.prog 9 ES := KOK.str Tryz.underlying9
set_option maxRecDepth 100000 in
set_option maxHeartbeats 4000000 in
theorem check_any (ls : List Lk) (hls : ls.length ≤ 1000) (lv : Value) (nm : List UInt8) (hnm : nm.length ≤ maxLen) (w : World) (hs : SlG w w.heap.size 2 lv (ls.map lkR)) (d : Lk) :
    Calls Tryz.prog 29 #[lv, nmv nm] w fun e w' => e = .returned (.int .i64 (checkM ls nm)) ∧ Below w.heap.size w w' := by
  obtain ⟨va, vn, vc, rfl⟩ := slG_sh hs
  have HS := hid hs
  clear hs
  have hmm := @run_makeMap Tryz.prog
  refine (callsIn_wide (n := 6)).1 ?_
  refine callsIn_of_wp_marks Tryz.func29 rfl trivial ?_ rfl
  simp only [Tryz.ntmps29, List.size_toArray, List.length_cons, List.length_nil, Nat.reduceAdd, Nat.reduceSub, Array.replicate_succ, Array.replicate_zero, List.push_toArray, List.append_toArray, List.nil_append, List.cons_append]
  gi_wp2
  refine ⟨trivial, ?_⟩
  gi_at_call 60
  refine (callsIn_wide.2 (backward_call _ _ _ _)).mono ?_
  rintro e w' ⟨rfl, rfl⟩
  gi_wp2
  have e0 : (((w.alloc (.map #[] 0)).alloc (.cells #[.map (some w.heap.size)] 132)).alloc (.cells #[.slice va vn vc] 70)).cell? ⟨w.heap.size + 1, 0, none⟩ = some (.map (some w.heap.size)) := (cell_of ((alloc_old (by simp)).trans (new2_1 w _ _)) 0).trans rfl
  have e2 : (((w.alloc (.map #[] 0)).alloc (.cells #[.map (some w.heap.size)] 132)).alloc (.cells #[.slice va vn vc] 70)).heap[w.heap.size + 1 + 1]? = some (.cells #[.slice va vn vc] 70 (0, 0)) := by have := alloc_new ((w.alloc (.map #[] 0)).alloc (.cells #[.map (some w.heap.size)] 132)) (.cells #[.slice va vn vc] 70); rwa [World.size_alloc, World.size_alloc] at this
  have eb := bel3 w (.map #[] 0) (.cells #[.map (some w.heap.size)] 132) (.cells #[.slice va vn vc] 70)
  have em : GM ES Tryz.prog 9 (((w.alloc (.map #[] 0)).alloc (.cells #[.map (some w.heap.size)] 132)).alloc (.cells #[.slice va vn vc] 70)) w.heap.size [] := (GM.made ES Tryz.prog 9 w).block ((alloc_old (by simp; omega)).trans (alloc_old (by simp)))
  have ez : (((w.alloc (.map #[] 0)).alloc (.cells #[.map (some w.heap.size)] 132)).alloc (.cells #[.slice va vn vc] 70)).heap.size = w.heap.size + 3 := by simp
  generalize ((w.alloc (.map #[] 0)).alloc (.cells #[.map (some w.heap.size)] 132)).alloc (.cells #[.slice va vn vc] 70) = w0 at *
  refine wpIn_rangeFunc_ownH rfl (show 1 ≤ 6 by omega) (gf := 119) (lb := #[.pointer (some ⟨w.heap.size + 1 + 1, 0, none⟩)]) rfl trivial (enters_of Tryz.func119 (by kernel_rfl) rfl)
    (back_stops 5 (by omega) (w.heap.size + 1 + 1) w.heap.size _ ls d hls w0 (by omega) (by omega) ((cell_of e2 0).trans rfl) (HS.out.below eb (Nat.le_refl _))) KpA.trans (KpA.putObj (by omega) (by intro b hb; simp at hb; omega)) (Below.refl _ _) (fun _ => rfl)
    (fun pre W => W.cell? ⟨w.heap.size + 1, 0, none⟩ = some (.map (some w.heap.size)) ∧ GM ES Tryz.prog 9 W w.heap.size (mapOf pre) ∧ Below w.heap.size w W ∧ w0.heap.size ≤ W.heap.size)
    (fun _ _ _ => False)
    (fun s X Y row hs hg hr => ⟨cell_kept hs.1 hg (fun r e => (hr r e).2), hs.2.1.block (hg.block _ hs.2.1.lt (fun e => by have := (hr _ e.symm).1; omega)), hs.2.2.1.grown hg hs.2.2.1.size (fun k e => by have := (hr k e).1; omega), Nat.le_trans hs.2.2.2 hg.size⟩)
    (fun _ _ _ _ _ hs _ _ => hs)
    ⟨e0, em, eb, Nat.le_refl _⟩
    (fun x a' W => ∃ Bx, W.heap[Bx]? = some (.cells #[nmv x.2.1.1, nmv x.2.1.2] 74 (0, 0)) ∧ a' = { tmps := #[.slice va vn vc, nmv nm, undef, undef, .int .i64 0, dp (w.heap.size + 1), undef, dp Bx, undef, undef, undef, undef, undef, undef, .map (some w.heap.size), .slice va vn vc, .func (.func 119) #[] #[.pointer (some ⟨w.heap.size + 1 + 1, 0, none⟩)], .int .i64 x.1, .agg #[nmv x.2.1.1, nmv x.2.1.2], undef, undef, undef, undef, undef, undef, undef, undef, undef, undef, undef, undef, undef, undef, undef, undef, undef, undef, undef, undef, undef, undef, undef, undef, undef, undef, undef, undef, undef, undef, undef, undef, undef, undef, undef, undef, undef, undef, undef, undef, undef, undef], defers := [] })
    (fun x a' _ X Y row hs hg hr => by
      obtain ⟨Bx, h2, h3⟩ := hs
      refine ⟨Bx, (hg.block Bx (Array.getElem?_eq_some_iff.1 h2).1 (fun e => ?_)).trans h2, h3⟩
      obtain ⟨_, o, ho, hc⟩ := hr Bx e.symm
      rw [h2] at ho; cases ho; cases hc)
    ?assign ?body ?done ?stop
  case assign =>
    rintro l pre x W K' ⟨hc, hm, hB, hz⟩ hK
    gi_wp2
    exact hK _ _ ((KeepsOthers.alloc _ _).from _) ⟨(Below.refl w.heap.size W).alloc (by omega) _, fun b hb => by simp at hb; subst hb; exact Below.heap_alloc W _ _ (by omega)⟩
      ⟨by rw [cell_heap (alloc_old (by omega))]; exact hc, hm.block (alloc_old hm.lt), hB.alloc (by omega) _, by simp; omega⟩ ⟨W.heap.size, alloc_new W _, rfl⟩
  case body =>
    rintro l pre x a' W hl ⟨r, hr⟩ ⟨hc, hm, hB, hz⟩ ⟨Bx, bX, rfl⟩ hlt2
    have x0 := (cell_of bX 0).trans rfl
    have x1 := (cell_of bX 1).trans rfl
    have hml := mapOf_len pre
    obtain ⟨w3, hrun, hm3, hg3, hz3, hf3⟩ := hm.upd kstr Tryz.underlying132 x.2.1.1 x.2.2.1 (nmv x.2.1.2) rfl (by unfold maxLen; omega)
    have hrun2 : (Instr.mapUpdate 132 (.map (some w.heap.size)) (nmv x.2.1.1) (nmv x.2.1.2)).run Tryz.prog W = .ok () w3 := hrun
    have HM := hid (And.intro hm3 (And.intro hg3 hz3))
    obtain ⟨s1, hs1⟩ : ∃ s, s = nmv x.2.1.1 := ⟨_, rfl⟩
    obtain ⟨s2, hs2⟩ : ∃ s, s = nmv x.2.1.2 := ⟨_, rfl⟩
    rw [← hs1, ← hs2] at x0 x1 hrun2
    rw [← hs1, ← hs2]
    clear hrun hm3 hf3 hs1 hs2 bX
    dsimp only
    gi_wp2
    have hg3 := HM.out.2.1
    obtain ⟨es, ck, hh⟩ := hm.isMap
    exact ⟨KeepsFrom.of_grownBy hg3 (fun j e => by cases e; omega), ⟨(Below.refl _ W).grown hg3 hB.size (fun k e => by cases e; exact Nat.le_refl _), fun b hb => by simp at hb; subst hb; exact hg3.block _ (by omega) (by simp; omega)⟩,
      cell_kept hc hg3 (fun r e => by cases e; exact ⟨_, hh, rfl⟩), by rw [mapOf_snoc]; exact HM.out.1, hB.grown hg3 hB.size (fun k e => by cases e; exact Nat.le_refl _), by rw [HM.out.2.2]; exact hz⟩
  case done =>
    rintro D ys W hD rfl ⟨hc, hm, hB, hz⟩ hK
    have hl1 : (Instr.lookup 132 (.map (some w.heap.size)) (nmv nm) true).run Tryz.prog W = .ok (.tuple #[((lk ls nm).map nmv).getD (.string ⟨#[]⟩), .bool ((lk ls nm).map nmv).isSome]) W := by
      rw [← mapOf_look ls d nm]; exact hm.lookOk kstr Tryz.underlying132 zero9 rfl nm hnm
    have hDz : D < W.heap.size := (Array.getElem?_eq_some_iff.1 hK).1
    have hfin : Hid (∀ W', Below W.heap.size W W' → W'.heap[D]? = some (.deferred (some [])) ∧ Below w.heap.size w (W'.putObj D (.deferred none))) := hid fun W' h =>
      ⟨(h.block _ hDz).trans hK, (hB.trans (h.mono (by omega))).trans (belowK_b (w := w) (Nat.le_refl _) W' D _ _ (by omega) ((h.block _ hDz).trans hK) rfl rfl)⟩
    have HH := hid (And.intro hm hB)
    clear hm hB hK em eb e2 e0
    dsimp only
    cases hlk : lk ls nm with
    | none =>
      rw [hlk] at hl1
      simp only [Option.map_none, Option.getD_none, Option.isSome_none] at hl1
      gi_wp2
      obtain ⟨hK, hB⟩ := hfin.out W (Below.refl _ _)
      refine ⟨by simp, .inl ⟨_, _, rfl, run_takeDeferred hK, ?_⟩⟩
      exact ⟨_, results_tmp rfl _ _ _, by simp [checkM, hlk], hB⟩
    | some b =>
      rw [hlk] at hl1
      simp only [Option.map_some, Option.getD_some, Option.isSome_some] at hl1
      have ha := GM.made ES Tryz.prog 9 W
      obtain ⟨w3, hrun, hm3, hg3, hz3, hf3⟩ := ha.upd kstr Tryz.underlying137 nm hnm (.int .i64 1) rfl (by unfold maxLen; simp)
      have hrun2 : (Instr.mapUpdate 137 (.map (some W.heap.size)) (nmv nm) (.int .i64 1)).run Tryz.prog (W.alloc (.map #[] 0)) = .ok () w3 := hrun
      have hb3 : Below W.heap.size W w3 := (bel1 W (.map #[] 0)).grown hg3 (by simp) (fun k e => by cases e; exact Nat.le_refl _)
      have hbl := hid (lk_len hlk)
      have H3 := hid (And.intro (show GM ES Tryz.prog 9 w3 W.heap.size (seenL [nm]) from hm3) hb3)
      clear hrun hm3 hg3 hf3 hb3 ha
      gi_wp2
      gi_loopw [8, 11] (fun s8 s11 wr => ∃ (k : Nat) (seen : List (List UInt8)) (bk : List UInt8), 1 ≤ k ∧ k ≤ 8 ∧ s8 = nmv bk ∧ s11 = .int .i64 k ∧ Hid (bk.length ≤ maxLen ∧ seen.length = k ∧ GM ES Tryz.prog 9 wr W.heap.size (seenL seen) ∧ Below W.heap.size W wr ∧ ckTo ls (10 - k) seen k bk = ckTo ls 9 [nm] 1 b)) (fun _ s11 _ => 10 - (intOf s11).toNat)
      case atStart => exact ⟨1, [nm], b, by omega, by omega, rfl, rfl, hid ⟨hbl.out, rfl, H3.out.1, H3.out.2, rfl⟩⟩
      case round =>
        obtain ⟨k, seen, bk, hk1, hk8, rfl, rfl, hH⟩ := hrel
        have hcr := (hH.out.2.2.2.1.cell (p := ⟨w.heap.size + 1, 0, none⟩) (by show w.heap.size + 1 < W.heap.size; omega)).trans hc
        have hgm := HH.out.1.block (w' := wr) (hH.out.2.2.2.1.block _ HH.out.1.lt)
        have hl2 : (Instr.lookup 132 (.map (some w.heap.size)) (nmv bk) true).run Tryz.prog wr = .ok (.tuple #[((lk ls bk).map nmv).getD (.string ⟨#[]⟩), .bool ((lk ls bk).map nmv).isSome]) wr := by
          rw [← mapOf_look ls d bk]; exact hgm.lookOk kstr Tryz.underlying132 zero9 rfl bk hH.out.1
        have hl3 : (Instr.lookup 137 (.map (some W.heap.size)) (nmv bk) false).run Tryz.prog wr = .ok (if bk ∈ seen then .int .i64 1 else .int .i64 0) wr := by
          have := hH.out.2.2.1.look kstr Tryz.underlying137 zero3 rfl bk hH.out.1
          rw [seenL_look] at this
          refine this.trans ?_
          split <;> rfl
        have hck := hH.out.2.2.2.2
        rw [show 10 - k = (9 - k) + 1 by omega, ckTo] at hck
        clear hgm hl1 hrun2 hmm
        by_cases hb0 : bk = []
        · subst hb0
          have HCK := hid hck
          clear hck
          gi_wp2
          obtain ⟨hK, hB⟩ := hfin.out _ hH.out.2.2.2.1
          refine ⟨by simp, .inl ⟨_, _, rfl, run_takeDeferred hK, ?_⟩⟩
          exact ⟨_, results_tmp rfl _ _ _, by rw [show checkM ls nm = ckTo ls 9 [nm] 1 b by simp [checkM, hlk]]; rw [← HCK.out]; simp, hB⟩
        · have he : bk.isEmpty = false := by simpa using hb0
          rw [if_neg hb0] at hck
          clear hb0
          cases hlb : lk ls bk with
          | none =>
            rw [hlb] at hl2 hck
            simp only [Option.map_none, Option.getD_none, Option.isSome_none] at hl2
            have HCK := hid hck
            clear hck hlb
            gi_wp2
            obtain ⟨hK, hB⟩ := hfin.out _ hH.out.2.2.2.1
            refine ⟨by simp, .inl ⟨_, _, rfl, run_takeDeferred hK, ?_⟩⟩
            exact ⟨_, results_tmp rfl _ _ _, by rw [show checkM ls nm = ckTo ls 9 [nm] 1 b by simp [checkM, hlk]]; rw [← HCK.out]; rfl, hB⟩
          | some nx =>
            rw [hlb] at hl2 hck
            simp only [Option.map_some, Option.getD_some, Option.isSome_some] at hl2
            have hnx := hid (lk_len hlb)
            clear hlb
            by_cases hse : bk ∈ seen
            · rw [if_pos hse] at hl3
              simp only [if_pos hse] at hck
              have HCK := hid hck
              clear hck
              gi_wp2
              obtain ⟨hK, hB⟩ := hfin.out _ hH.out.2.2.2.1
              refine ⟨by simp, .inl ⟨_, _, rfl, run_takeDeferred hK, ?_⟩⟩
              exact ⟨_, results_tmp rfl _ _ _, by rw [show checkM ls nm = ckTo ls 9 [nm] 1 b by simp [checkM, hlk]]; rw [← HCK.out]; rfl, hB⟩
            · rw [if_neg hse] at hl3
              simp only [if_neg hse] at hck
              by_cases h8 : 8 ≤ k
              · simp only [if_pos h8] at hck
                have HCK := hid hck
                clear hck
                have t8 : decide ((8 : Int) ≤ k) = true := by simp; omega
                gi_wp2
                obtain ⟨hK, hB⟩ := hfin.out _ hH.out.2.2.2.1
                refine ⟨by simp, .inl ⟨_, _, rfl, run_takeDeferred hK, ?_⟩⟩
                exact ⟨_, results_tmp rfl _ _ _, by rw [show checkM ls nm = ckTo ls 9 [nm] 1 b by simp [checkM, hlk]]; rw [← HCK.out]; rfl, hB⟩
              · simp only [if_neg h8] at hck
                have HCK := hid hck
                clear hck
                have t8 : decide ((8 : Int) ≤ k) = false := by simp; omega
                obtain ⟨w4, hrun, hm4, hg4, hz4, hf4⟩ := hH.out.2.2.1.upd kstr Tryz.underlying137 bk hH.out.1 (.int .i64 1) rfl (by unfold seenL maxLen; rw [List.length_map, hH.out.2.1]; omega)
                have hrun2 : (Instr.mapUpdate 137 (.map (some W.heap.size)) (nmv bk) (.int .i64 1)).run Tryz.prog wr = .ok () w4 := hrun
                rw [seenL_upd _ _ hse] at hm4
                have HM := hid (And.intro hm4 (hH.out.2.2.2.1.grown hg4 hH.out.2.2.2.1.size (fun k e => by cases e; exact Nat.le_refl _)))
                clear hrun hm4 hg4 hf4
                gi_wp2
                refine ⟨⟨k + 1, seen ++ [bk], nx, by omega, by omega, rfl, by simp, hid ⟨hnx.out, by simp [hH.out.2.1], HM.out.1, HM.out.2, ?_⟩⟩, by simp [intOf]; omega⟩
                rw [show 10 - (k + 1) = 9 - k by omega]; exact HCK.out
  case stop =>
    rintro D c pre W _ _ h _
    exact h.elim
end Go.Proofs.YtmcllcepoiakeaaGreat
