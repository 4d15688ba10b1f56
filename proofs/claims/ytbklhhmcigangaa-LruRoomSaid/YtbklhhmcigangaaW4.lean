import Derived.Test.YtbklhhmcigangaaL7
namespace Go.Lr
/-- a cache behind a Get -/
def getM (c : CM) (k : Int) : CM := match find c.all k with
  | none => c
  | some _ => ⟨c.room, setE c.all k fun q => { q with used := c.uses + 1 }, c.uses + 1⟩
/-- a cache behind a Drop -/
def dropM (c : CM) (k : Int) : CM := { c with all := delE (loose c.all k) k }
end Go.Lr
namespace Go.Proofs.Ytbklhhmcigangaa
open Go.RowKit Go.Mx Go.Lr Go.Maps
set_option linter.unusedVariables false
set_option linter.unusedSimpArgs false
section
variable {w w' : World} {base p m : Nat} {c : CM} {fs : List PR}
/-- what a Get answers: own bytes, made behind the world w1 -/
def GetP (base p m : Nat) (c : CM) (fs : List PR) (w : World) (k : Int) (e : Ending) (w' : World) : Prop :=
  (Lr.find c.all k = none ∧ e = .returned (.tuple #[.slice none 0 0, .bool false]) ∧ Below w.heap.size w w') ∨
  ∃ g v fs' w1, Lr.find c.all k = some g ∧ e = .returned (.tuple #[v, .bool true]) ∧ CK w1 base p m (getM c k) fs' All ∧ Stp base p m w fs w1 fs' ∧ Below w1.heap.size w1 w' ∧ OwnB w' w1.heap.size 5 v g.b
set_option maxRecDepth 100000 in
set_option maxHeartbeats 1000000 in
theorem get_any (h : CK w base p m c fs All) (k : Int) (hk : isI k) (hu : c.uses ≤ 1000000000) (hbl : ∀ e ∈ c.all, e.pg.b.length ≤ 1000000) : Calls Try.prog 20 #[cp p, .int .i64 k] w (GetP base p m c fs w k) := by
  have hlk := h.look k hk
  have c1 := h.cells.2.1
  rcases h.who k with ⟨h1, h2⟩ | ⟨i, f, hi, hfk, h1, h2⟩
  · rw [h1] at hlk
    replace hlk : (Instr.lookup 56 (.map (some m)) (.int .i64 k) false).run Try.prog w = .ok (.pointer none) w := hlk
    have HF := hid h2
    clear h h1 h2
    go_enter Try.func20, Try.ntmps20
    go_wp2
    go_ret2
    exact .inl ⟨HF.out, rfl, Below.refl _ _⟩
  · rw [h1] at hlk
    replace hlk : (Instr.lookup 56 (.map (some m)) (.int .i64 k) false).run Try.prog w = .ok (.pointer (some ⟨f.fb, 0, none⟩)) w := hlk
    have HU := hid (use_any h hi trivial hu)
    have hset := setE_set (fun q => { q with used := c.uses + 1 }) fs i f (usedPR f (c.uses + 1)) h.nodup hi rfl
    have hgm : (⟨c.room, (fs.set i (usedPR f (c.uses + 1))).map (·.en), c.uses + 1⟩ : CM) = getM c k := by
      unfold getM; rw [h2, hset, h.all, hfk]
    have hfl : i < fs.length := (List.getElem?_eq_some_iff.1 hi).1
    have hfi : (fs.set i (usedPR f (c.uses + 1)))[i]? = some (usedPR f (c.uses + 1)) := by rw [List.getElem?_set_self hfl]
    have hbl' : f.en.pg.b.length ≤ 1000000 := hbl f.en (by rw [h.all]; exact List.mem_map_of_mem (List.mem_of_getElem? hi))
    have HF := hid (And.intro h2 (And.intro hgm (And.intro hfi (And.intro hbl' hfk))))
    obtain ⟨fb, hfb⟩ : ∃ y, y = f.fb := ⟨_, rfl⟩
    rw [← hfb] at hlk HU
    have HB := hid hfb
    have H0 := hid h
    clear h h1 h2 hset hgm hfi hbl hbl' hfb hi hfk hfl
    go_enter Try.func20, Try.ntmps20
    go_wp2_with fail
    refine HU.out.mono ?_
    rintro e w1 ⟨rfl, hc1, hs1⟩
    have hlk1 := hc1.look k hk
    have hla := hc1.lookAt HF.out.2.2.1
    rw [show (usedPR f (c.uses + 1)).en.k = k from HF.out.2.2.2.2] at hla
    rw [hla] at hlk1
    replace hlk1 : (Instr.lookup 56 (.map (some m)) (.int .i64 k) false).run Try.prog w1 = .ok (.pointer (some ⟨fb, 0, none⟩)) w1 := by rw [hlk1, HB.out]; rfl
    have c11 := hc1.cells.2.1
    have d0 := (hc1.pcells HF.out.2.2.1).1
    replace d0 : w1.cell? ⟨fb, 0, none⟩ = some f.bv := by rw [HB.out]; exact d0
    have hob : OwnB w1 base 5 f.bv f.en.pg.b := hc1.ob i (usedPR f (c.uses + 1)) HF.out.2.2.1
    have HCL := hid (clone_b f.bv f.en.pg.b w1.heap.size w1 hob.slB (Nat.le_refl _) HF.out.2.2.2.1)
    obtain ⟨bv, hbv⟩ : ∃ x, x = f.bv := ⟨_, rfl⟩
    rw [← hbv] at d0 HCL
    obtain ⟨oa, on, oc, rfl⟩ : ∃ oa n c, bv = .slice oa n c := by
      have := hc1.sb i (usedPR f (c.uses + 1)) HF.out.2.2.1
      rw [hbv]; exact this
    rw [HF.out.2.1] at hc1
    have H1 := hid (And.intro hc1 hs1)
    clear hc1 hs1 hla hob hbv HU
    go_wp2_with fail
    refine HCL.out.mono ?_
    rintro e w2 ⟨v2, rfl, ho2, hb2⟩
    have H2 := hid (And.intro ho2 hb2)
    clear ho2 hb2
    go_wp2_with fail
    go_ret2
    exact .inr ⟨f.en.pg, v2, _, w1, HF.out.1, rfl, H1.out.1, H1.out.2, H2.out.2, H2.out.1⟩
set_option maxRecDepth 100000 in
theorem drop_any (h : CK w base p m c fs All) (k : Int) (hk : isI k) (hs : Sm c.all) : Calls Try.prog 26 #[cp p, .int .i64 k] w fun e w' => e = .returned (.tuple #[]) ∧ ∃ fs', CK w' base p m (dropM c k) fs' All ∧ Stp base p m w fs w' fs' := by
  have HLO := hid (loose_any h k hs)
  go_enter Try.func26, Try.ntmps26
  go_wp2_with fail
  refine HLO.out.mono ?_
  rintro e w5 ⟨rfl, fs5, hc5, hp5, hs5⟩
  have c1 := hc5.cells.2.1
  obtain ⟨w6, hrun, hpm6, hg6, hz6, hfz6⟩ := hc5.mp.del (t := 56) Try.underlying3 Try.underlying56 k hk.wf 0
  obtain ⟨hc6, hs6⟩ := hc5.delPage k hpm6 hg6
  have H6 := hid (And.intro hc6 (hs5.trans hs6))
  clear hc5 hp5 hs5 hpm6 hg6 hz6 hfz6 hc6 hs6 HLO
  go_wp2_with fail
  go_end0
  exact ⟨rfl, _, H6.out.1, H6.out.2⟩
/-- 'in': is a number in a list? -/
theorem in_any (l : List Int) (lv : Value) (k : Int) (B : Nat) (w : World) (hs : SlI w B lv l) (hB : B ≤ w.heap.size) (hn : l.length ≤ 1000000) : Calls Try.prog 21 #[lv, .int .i64 k] w fun e w' => e = .returned (.bool (decide (k ∈ l))) ∧ Below w.heap.size w w' := by
  have hlen := fun w' => hs.len (P := Try.prog) Try.underlying29 (ty := 3) w'
  have HS := hid hs
  obtain ⟨oa, nn, c, rfl⟩ : ∃ oa n c, lv = .slice oa n c := by obtain ⟨oa, c, rfl, _⟩ := hs; exact ⟨_, _, _, rfl⟩
  clear hs
  go_enter Try.func21, Try.ntmps21
  go_wp2_with fail
  go_loopw [5] (fun t wr => ∃ j : Nat, j ≤ l.length ∧ t = .int .i64 j ∧ Below w.heap.size w wr ∧ k ∉ l.take j) (fun t _ => l.length - (intOf t).toNat)
  case atStart => exact ⟨0, by omega, rfl, Below.refl _ _, by simp⟩
  case round =>
    obtain ⟨j, hj, rfl, hbl, hT⟩ := hrel
    by_cases hlt : j < l.length
    · obtain ⟨bb, bo, hbb, hia, hrow⟩ := (HS.out.below hbl hB).addr (P := Try.prog) Try.underlying29 size3 j hlt
      have hmem : l.getD j 0 ∈ l := by rw [List.getD_eq_getElem?_getD, List.getElem?_eq_getElem hlt]; exact List.getElem_mem _
      have HN := hid (show l.take (j + 1) = l.take j ++ [l.getD j 0] by rw [List.take_add_one, List.getElem?_eq_getElem hlt, List.getD_eq_getElem?_getD, List.getElem?_eq_getElem hlt]; rfl)
      obtain ⟨x, hx⟩ : ∃ x, x = l.getD j 0 := ⟨_, rfl⟩
      rw [← hx] at hrow hmem HN
      have HB := hid (And.intro hbl (And.intro hT hmem))
      clear hbl hT hx hmem
      by_cases hxk : x = k
      · subst hxk
        have hbe : (x == x) = true := by simp
        go_wp2_with fail
        go_ret
        exact ⟨by rw [decide_eq_true HB.out.2.2]; rfl, HB.out.1⟩
      · have hbe : (x == k) = false := by simpa using hxk
        have HXK := hid hxk
        clear hxk
        go_wp2_with fail
        exact ⟨⟨j + 1, by omega, by go_num, HB.out.1, by rw [HN.out, List.mem_append]; rintro (h | h); · exact HB.out.2.1 h
                                                         · simp at h; exact HXK.out h.symm⟩, by simp [intOf]; omega⟩
    · obtain rfl : j = l.length := by omega
      rw [List.take_length] at hT
      have HT := hid hT
      clear hT
      go_wp2
      go_ret
      exact ⟨by rw [decide_eq_false HT.out]; rfl, hbl⟩
end
end Go.Proofs.Ytbklhhmcigangaa
