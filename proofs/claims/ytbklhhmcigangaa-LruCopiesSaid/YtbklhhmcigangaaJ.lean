import Derived.Test.YtbklhhmcigangaaI
import Derived.Test.YtbklhhmcigangaaL2
import Derived.Deep.LoopGhost
namespace Go.Proofs.Ytbklhhmcigangaa
open Go.RowKit Go.Mx Go.Lr
set_option linter.unusedVariables false
set_option linter.unusedSimpArgs false
/-- all that a page is after is a number -/
def Is (l : List En) : Prop := ∀ e ∈ l, ∀ y ∈ e.pg.after, isI y
theorem Is.aft {l : List En} (h : Is l) (x : Int) : ∀ y ∈ aft l x, isI y := by
  intro y hy
  unfold Lr.aft Lr.find at hy
  cases hf : l.find? (fun e => e.k == x) with
  | none => rw [hf] at hy; cases hy
  | some e => rw [hf] at hy; exact h e (List.mem_of_find?_eq_some hf) y hy
theorem info3 : (Try.prog.info? 3).map (fun i => (i.zero, i.size, i.bytes)) = some (some (.int .i64 0), 1, 8) := by kernel_rfl
/-- a yes or no, and no old block is another one -/
def BehP (w : World) (R : Prop) (e : Ending) (w' : World) : Prop := ∃ b : Bool, e = .returned (.bool b) ∧ (b = true ↔ R) ∧ Below w.heap.size w w'
/-- was a key seen? -/
def sn (sl : PL) (x : Int) : Bool := decide (0 < (Mx.look sl x).getD 0)
theorem sn_nil : sn [] = fun _ => false := by funext x; simp [sn, look_nil]
theorem sn_upd (sl : PL) (x : Int) (n : Nat) : ∀ y, sn (Mx.upd sl x (n + 1)) y = (sn sl y || y == x) := by
  intro y
  unfold sn
  rw [look_upd]
  by_cases e : y = x
  · subst e; simp
  · rw [if_neg e, show (y == x) = false by simpa using e, Bool.or_false]
section
variable {w w' : World} {base p m : Nat} {c : CM} {fs : List PR}
theorem CK.aftAt (h : CK w base p m c fs All) {x : Int} {b : Nat} (hl : Mx.look (plOf fs) x = some b) : ∃ (i : Nat) (f : PR), fs[i]? = some f ∧ f.fb = b ∧ f.en.k = x ∧ aft c.all x = f.en.pg.after := by
  rcases h.who x with ⟨h1, _⟩ | ⟨i, f, hi, hk, h1, h2⟩
  · rw [h1] at hl; cases hl
  · rw [h1] at hl
    exact ⟨i, f, hi, Option.some.inj hl, hk, by unfold Lr.aft; rw [h2]; rfl⟩
theorem CK.aftNone (h : CK w base p m c fs All) {x : Int} (hl : Mx.look (plOf fs) x = none) : aft c.all x = [] := by
  rcases h.who x with ⟨h1, h2⟩ | ⟨i, f, hi, hk, h1, h2⟩
  · unfold Lr.aft; rw [h2]; rfl
  · rw [h1] at hl; cases hl
theorem CK.nodupAll (h : CK w base p m c fs All) : (c.all.map (·.k)).Nodup := by
  have := h.nodup
  rwa [h.all, List.map_map]
set_option maxRecDepth 100000 in
set_option maxHeartbeats 1000000 in
theorem behind_any (h : CK w base p m c fs All) (k first : Int) (hk : isI k) (hI : Is c.all) (hM : wgt c.all (fun _ => false) ≤ 100000000000) :
    Calls Try.prog 33 #[cp p, .int .i64 k, .int .i64 first] w (BehP w (Lr.Reach c.all k first)) := by
  have hmm := @run_makeMap Try.prog
  have hsz1 : (w.alloc (.map #[] 0)).heap.size = w.heap.size + 1 := by simp
  have hb0 : Below w.heap.size w ((w.alloc (.map #[] 0)).alloc (.cells #[.int .i64 k] 3)) := ((Below.refl _ _).alloc (Nat.le_refl _) _).alloc (by simp) _
  have hq0 := QI.one (base := w.heap.size + 1) (w.alloc (.map #[] 0)) k (by simp)
  rw [hsz1] at hq0
  have hm0 : NM Try.prog 3 ((w.alloc (.map #[] 0)).alloc (.cells #[.int .i64 k] 3)) w.heap.size [] :=
    (NM.made (P := Try.prog) (k := 3) w).block (((Below.refl (w.heap.size + 1) (w.alloc (.map #[] 0))).alloc (by simp) _).block _ (by omega))
  have H := hid (And.intro h (And.intro hk (And.intro hI hM)))
  have H0 := hid (And.intro hb0 (And.intro hq0 hm0))
  clear h hk hI hM hb0 hq0 hm0
  go_enter Try.func33, Try.ntmps33
  go_wp2_with fail
  go_loopg [8] (1 + wgt c.all (fun _ => false)) (fun gk s8 wr => ∃ (sl : PL) (lst : List Int), QI wr (w.heap.size + 1) s8 lst ∧ NM Try.prog 3 wr w.heap.size sl ∧ Below w.heap.size w wr ∧
    Hid (BInv c.all k first (sn sl) lst ∧ gk = lst.length + wgt c.all (sn sl) ∧ (∀ y ∈ lst, isI y) ∧ (∀ x, (Mx.look sl x).getD 0 + gk ≤ 1 + wgt c.all (fun _ => false)) ∧ sl.length + gk ≤ 1 + wgt c.all (fun _ => false)))
  case atStart =>
    exact ⟨[], [k], H0.out.2.1, H0.out.2.2, H0.out.1, hid ⟨by rw [sn_nil]; exact BInv.init _ _ _, by rw [sn_nil]; rfl, fun y hy => by simp at hy; rw [hy]; exact H.out.2.1, fun x => by simp [look_nil], by simp⟩⟩
  case round =>
    obtain ⟨sl, lst, hq, hm, hbel, HI⟩ := hrel
    have hlen := fun w' => hq.slI.len (P := Try.prog) Try.underlying29 (ty := 3) w'
    cases lst with
    | nil =>
      obtain ⟨oa, cp9, rfl⟩ := hq.shape
      have HQ := hid hbel
      have HB := hid HI.out.1.done
      clear hq hm hbel hmm
      go_wp2_with fail
      go_ret
      exact ⟨false, rfl, ⟨fun h => absurd h (by simp), fun h => absurd h HB.out⟩, HQ.out⟩
    | cons x l' =>
      obtain ⟨bb, bo, hbb, hia, hcell⟩ := hq.slI.addr (P := Try.prog) Try.underlying29 size3 0 (by simp)
      obtain ⟨v2, hq2, hsl⟩ := hq.tail (P := Try.prog) Try.underlying29 size3
      obtain ⟨oa2, c2, rfl⟩ := hq2.shape
      obtain ⟨oa, cp9, rfl⟩ := hq.shape
      replace hcell : wr.cell? ⟨bb, bo, none⟩ = some (.int .i64 x) := hcell
      replace hlen : ∀ w', (Builtin.len_ #[29] 3 #[.slice oa (x :: l').length cp9]).run Try.prog w' = .ok (.int .i64 ((l'.length + 1 : Nat) : Int)) w' := hlen
      have t0 : decide (0 < ((l'.length + 1 : Nat) : Int)) = true := by simp
      have t1 : (0 : Int) < ((l'.length + 1 : Nat) : Int) := by omega
      obtain ⟨n1, hn1⟩ : ∃ n, n = (x :: l').length := ⟨_, rfl⟩
      have hn2 : l'.length + 1 = n1 := by rw [hn1]; rfl
      rw [← hn1] at hia hsl hlen hq ⊢
      replace hia : ∀ w' (k : IntKind), (Instr.indexAt 29 (.slice oa n1 cp9) (.int k 0)).run Try.prog w' = .ok (.pointer (some ⟨bb, bo, none⟩)) w' := hia
      rw [hn2] at hlen t0 t1
      obtain ⟨n2, hn3⟩ : ∃ n, n = l'.length := ⟨_, rfl⟩
      rw [← hn3] at hsl hq2
      have hix := HI.out.2.2.1 x (by simp)
      have HQ := hid (And.intro hbel (And.intro hq2 (And.intro hm (And.intro hn3 hn2))))
      by_cases hxf : x = first
      · subst hxf
        have HR := hid (HI.out.1.reach x (by simp))
        clear hq hm hbel hq2 hmm hn1 hn2 hn3
        go_wp2_with fail
        go_ret
        exact ⟨true, rfl, ⟨fun _ => HR.out, fun _ => rfl⟩, HQ.out.1⟩
      · have hxe : ((x : Int) == first) = false := by simpa using hxf
        -- the count turns
        have hlk := hm.look (t := 92) Try.underlying3 Try.underlying92 zero3 x hix.wf
        obtain ⟨cnt, hcnt⟩ : ∃ n, n = (Mx.look sl x).getD 0 := ⟨_, rfl⟩
        rw [← hcnt] at hlk
        have hM := H.out.2.2.2
        have hc1 := HI.out.2.2.2.1 x
        rw [← hcnt] at hc1
        have hs1 := HI.out.2.2.2.2
        have hg1 := HI.out.2.1
        have hwr : IntKind.i64.wrap ((cnt : Int) + 1) = ((cnt + 1 : Nat) : Int) := by rw [IntWalk.i64_in _ (by omega)]; simp
        obtain ⟨w1, hrun, hm1, hgr1, hz1, hf1⟩ := hm.upd (t := 92) Try.underlying3 Try.underlying92 x hix.wf (cnt + 1) (by unfold maxLen; omega)
        have hkm : Kept wr w1 (fun q => q ≠ w.heap.size) := Kept.grown hgr1 fun k hk hN => by cases hk; exact hN rfl
        have hq1 := hq2.kept hkm fun q h1 h2 => by omega
        have hbel1 : Below w.heap.size w w1 := hbel.grown hgr1 (by have := hbel.size; omega) (fun k hk => by cases hk; exact Nat.le_refl _)
        have hlk1 := hm1.look (t := 92) Try.underlying3 Try.underlying92 zero3 x hix.wf
        rw [look_upd, if_pos rfl] at hlk1
        have hC1 := H.out.1.below hbel1
        have hlf := hC1.look x hix
        have c1 := hC1.cells.2.1
        have HNX : Hid (∀ (lst' : List Int) (gk' : Nat), BInv c.all k first (sn (Mx.upd sl x (cnt + 1))) lst' → (∀ y ∈ lst', isI y) → gk' = lst'.length + wgt c.all (sn (Mx.upd sl x (cnt + 1))) → gk' + 1 = gk →
            (∀ y, (Mx.look (Mx.upd sl x (cnt + 1)) y).getD 0 + gk' ≤ 1 + wgt c.all (fun _ => false)) ∧ (Mx.upd sl x (cnt + 1)).length + gk' ≤ 1 + wgt c.all (fun _ => false)) := hid fun lst' gk' hB hIs hgk hlt => by
          refine ⟨fun y => ?_, ?_⟩
          · rw [look_upd]
            split
            · simp; omega
            · have := HI.out.2.2.2.1 y; omega
          · rw [upd_len]; split <;> omega
        have hsn := sn_upd sl x cnt
        have hnd := H.out.1.nodupAll
        have hwg := fun hs => wgt_step (x := x) hnd (s := sn sl) hs
        have hwc : wgt c.all (sn (Mx.upd sl x (cnt + 1))) = wgt c.all (fun t => sn sl t || t == x) := wgt_congr fun e _ => hsn e.k
        have hsx : sn sl x = decide (0 < cnt) := by unfold sn; rw [← hcnt]
        have HS := hid (And.intro hsn (And.intro hwg (And.intro hwc (And.intro hsx (And.intro hcnt hxf)))))
        have H1 := hid (And.intro hbel1 (And.intro hq1 (And.intro hm1 hgr1)))
        by_cases h0 : cnt = 0
        · subst h0
          replace hlk1 : (Instr.lookup 92 (.map (some w.heap.size)) (.int .i64 x) false).run Try.prog w1 = .ok (.int .i64 1) w1 := hlk1
          replace hrun : (Instr.mapUpdate 92 (.map (some w.heap.size)) (.int .i64 x) (.int .i64 1)).run Try.prog wr = .ok () w1 := hrun
          replace hlk : (Instr.lookup 92 (.map (some w.heap.size)) (.int .i64 x) false).run Try.prog wr = .ok (.int .i64 0) wr := hlk
          cases hlo : Mx.look (plOf fs) x with
          | none =>
            rw [hlo] at hlf
            replace hlf : (Instr.lookup 56 (.map (some m)) (.int .i64 x) false).run Try.prog w1 = .ok (.pointer none) w1 := hlf
            have HA := hid (hC1.aftNone hlo)
            clear hq hm hbel hq2 hmm hn1 hn2 hn3 hcnt hc1 hs1 hg1 hM hgr1 hz1 hf1 hkm hq1 hbel1 hsn hnd hwg hwc hsx hC1 hlo hwr hm1 hxf
            go_wp2_with fail
            go_roundg (gk - 1)
            case measure => have := HI.out.2.1; simp at this; omega
            case rel =>
              have hsx : sn sl x = false := by rw [HS.out.2.2.2.1]; rfl
              have hB := HI.out.1.new HS.out.2.2.2.2.2 HS.out.1
              rw [HA.out, List.append_nil] at hB
              have hwg := HS.out.2.1 hsx
              rw [HA.out] at hwg
              have hgk := HI.out.2.1
              simp only [List.length_cons] at hgk
              simp only [List.length_nil, Nat.add_zero] at hwg
              have hIs : ∀ y ∈ l', isI y := fun y hy => HI.out.2.2.1 y (by simp [hy])
              have hg' : gk - 1 = l'.length + wgt c.all (sn (Mx.upd sl x (0 + 1))) := by rw [HS.out.2.2.1, hwg]; omega
              have hN := HNX.out l' (gk - 1) hB hIs hg' (by omega)
              exact ⟨_, l', H1.out.2.1, H1.out.2.2.1, H1.out.1, hid ⟨hB, hg', hIs, hN.1, hN.2⟩⟩
          | some b =>
            rw [hlo] at hlf
            replace hlf : (Instr.lookup 56 (.map (some m)) (.int .i64 x) false).run Try.prog w1 = .ok (.pointer (some ⟨b, 0, none⟩)) w1 := hlf
            obtain ⟨i, f, hi, hfb, hfk, haf⟩ := hC1.aftAt hlo
            obtain ⟨d0, d1, d2, d3, dz⟩ := hC1.pcells hi
            obtain ⟨va, vn, vc, hav⟩ := hC1.sa i f hi
            have hown := (hC1.oa i f hi trivial).slI
            rw [hfb] at d3
            rw [hav] at d3 hown
            rw [← haf] at hown
            have hAi := H.out.2.2.1.aft x
            have hlt := hwg (by rw [hsx]; rfl)
            have HA := hid (And.intro hown (And.intro hAi hlt))
            clear hown hlt hav haf hi hfb hfk hAi d0 d1 d2 dz
            clear hq hm hbel hq2 hmm hn1 hn2 hn3 hcnt hc1 hs1 hg1 hM hgr1 hz1 hf1 hkm hq1 hbel1 hsn hnd hwg hwc hsx hC1 hlo hwr hm1 hxf
            go_wp2_with (at_builtin; refine append_q _ rfl _ _ 29 rfl Try.underlying29 info3 (w.heap.size + 1) _ l' rfl H1.out.2.1 _ (aft c.all x) rfl HA.out.1 ?b1 ?b2 ?_)
            case b1 =>
              have h1 := HA.out.2.2
              have h2 := wgt_le c.all (sn sl)
              have h3 := H.out.2.2.2
              have h4 := HI.out.2.1
              have h5 := HI.out.2.2.2.2
              simp only [List.length_cons] at h4
              omega
            case b2 => exact H1.out.2.2.1.lt
            intro v3 w3 hq3 hb3
            obtain ⟨oa3, c3, rfl⟩ := hq3.shape
            obtain ⟨n3, hn3⟩ : ∃ n, n = (l' ++ aft c.all x).length := ⟨_, rfl⟩
            rw [← hn3] at hq3 ⊢
            have H3 := hid (And.intro hq3 hb3)
            clear hq3 hb3 hn3
            go_wp2_with fail
            go_roundg (gk - 1)
            case measure => have := HI.out.2.1; simp at this; omega
            case rel =>
              have hsx : sn sl x = false := by rw [HS.out.2.2.2.1]; rfl
              have hB := HI.out.1.new HS.out.2.2.2.2.2 HS.out.1
              have hwg := HA.out.2.2
              have hgk := HI.out.2.1
              simp only [List.length_cons] at hgk
              have hIs : ∀ y ∈ l' ++ aft c.all x, isI y := fun y hy => by
                rcases List.mem_append.1 hy with hy | hy
                · exact HI.out.2.2.1 y (by simp [hy])
                · exact HA.out.2.1 y hy
              have hg' : gk - 1 = (l' ++ aft c.all x).length + wgt c.all (sn (Mx.upd sl x (0 + 1))) := by rw [HS.out.2.2.1, List.length_append]; omega
              have hN := HNX.out _ (gk - 1) hB hIs hg' (by omega)
              exact ⟨_, _, H3.out.1, H1.out.2.2.1.block (H3.out.2.block _ (by omega)), H1.out.1.trans (H3.out.2.mono (by omega)), hid ⟨hB, hg', hIs, hN.1, hN.2⟩⟩
        · have hc0 : ¬ ((((cnt + 1 : Nat) : Int)) = 1) := by omega
          have hc1' : ((((cnt + 1 : Nat) : Int)) == 1) = false := by simpa using hc0
          rw [Option.getD_some] at hlk1
          clear hq hm hbel hq2 hmm hn1 hn2 hn3 hcnt hc1 hs1 hg1 hM hgr1 hz1 hf1 hkm hq1 hbel1 hsn hnd hwg hwc hsx hC1 hm1 hxf
          obtain ⟨nc, hnc⟩ : ∃ n : Int, n = ((cnt + 1 : Nat) : Int) := ⟨_, rfl⟩
          rw [← hnc] at hc0 hc1' hwr hrun hlk1
          have HNC := hid hnc
          clear hnc
          go_wp2_with fail
          go_roundg (gk - 1)
          case measure => have := HI.out.2.1; simp at this; omega
          case rel =>
            have hsx : sn sl x = true := by rw [HS.out.2.2.2.1]; simp; omega
            have hB := HI.out.1.old hsx HS.out.1
            have hgk := HI.out.2.1
            simp only [List.length_cons] at hgk
            have hwg : wgt c.all (sn (Mx.upd sl x (cnt + 1))) = wgt c.all (sn sl) := wgt_congr fun e _ => by
              rw [HS.out.1]
              by_cases he : e.k = x
              · rw [he, hsx]; rfl
              · rw [show (e.k == x) = false by simpa using he, Bool.or_false]
            have hIs : ∀ y ∈ l', isI y := fun y hy => HI.out.2.2.1 y (by simp [hy])
            have hg' : gk - 1 = l'.length + wgt c.all (sn (Mx.upd sl x (cnt + 1))) := by rw [hwg]; omega
            have hN := HNX.out l' (gk - 1) hB hIs hg' (by omega)
            exact ⟨_, l', H1.out.2.1, H1.out.2.2.1, H1.out.1, hid ⟨hB, hg', hIs, hN.1, hN.2⟩⟩
end
end Go.Proofs.Ytbklhhmcigangaa
