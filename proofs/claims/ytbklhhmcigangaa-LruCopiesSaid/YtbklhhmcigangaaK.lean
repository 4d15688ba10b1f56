import Derived.Test.YtbklhhmcigangaaJ
import Derived.Test.YtbklhhmcigangaaL3
import Derived.Maps.AppendAt
namespace Go.Mx
open Go.RowKit
/-- append one number to one's own: where the new slice may lie -/
theorem append_i1 {P : Program} (w : World) {ops : Array Oper} {rest : List Oper} {o : Oper} {a : Act} {Q : Exit → Act → World → Prop} (hgd : o.guard = none) (s x : Operand) (t : TypeId)
    (ho : o.op = .call { callee := .builtin .append, args := #[s, x], argTypes := #[t, t] })
    (ht : P.underlying t = some (.slice 3)) (hi : (P.info? 3).map (fun i => (i.zero, i.size, i.bytes)) = some (some (.int .i64 0), 1, 8))
    (base : Nat) (v : Value) (l : List Int) (n : Int) (hs : a.eval s = v) (hown : OwnI w base v l) (g c : Nat) (hx : a.eval x = .slice (some ⟨g, 0, none⟩) 1 c)
    (hcell : w.cell? ⟨g, 0, none⟩ = some (.int .i64 n)) (hlen : l.length ≤ 1000000000) (hB : base ≤ w.heap.size)
    (h : ∀ v' w', OwnI w' base v' (l ++ [n]) → Kept w w' (fun q => v.ownBlock ≠ some q) → Below base w w' → (∀ q, v'.ownBlock = some q → v.ownBlock = some q ∨ w.heap.size ≤ q) → wpList P ops Q rest (a.put o.dst v') w') : wpList P ops Q (o :: rest) a w := by
  obtain ⟨i0, hi0, hz0, hz1, hz2⟩ := info_parts hi
  have hn : (l.map (Value.int .i64)).length = l.length := by simp
  refine wpList_append_own_at w hgd s x t ho base 3 i0 (.int .i64 0) 1 8 ht hi0 hz0 hz1 hz2 rfl (by decide) v (l.map (Value.int .i64)).length (l.map (Value.int .i64)) hs hown ⟨g, 0, none⟩ 1 c [.int .i64 n] hx rfl ?_ ?_ ?_ ?_ hB ?_
  · intro j y hj
    match j, hj with
    | 0, hj => simp at hj; subst hj; simpa [Addr.add] using hcell
  · intro y hy; simp at hy; subst hy; rfl
  · rw [hn]; unfold maxLen; omega
  · rw [hn]; omega
  · intro v' w' h1 h2 h3 h4
    refine h v' w' (by unfold OwnI OwnV; simpa using h1) (.grown h2 fun k hk hN => hN hk) ((Below.refl base w).grown h2 hB fun k hk => (World.ownsRow.lt hown k hk).1) fun q hq => ?_
    rcases h4 with h4 | h4
    · exact .inl (h4 ▸ hq)
    · rw [h4] at hq; cases hq; exact .inr (Nat.le_refl _)
end Go.Mx
namespace Go.Lr
/-- one key behind another one: if it is not yet -/
def addAft (l : List En) (k first : Int) : List En := setE l k fun g => if first ∈ g.after then g else { g with after := g.after ++ [first] }
open Classical in
noncomputable def afterM (c : CM) (k first : Int) : CM × Nat :=
  if dirtyAt c.all k = false ∨ dirtyAt c.all first = false then (c, 15) else if Reach c.all first k then (c, 11) else ({ c with all := addAft c.all k first }, 0)
end Go.Lr
namespace Go.Proofs.Ytbklhhmcigangaa
open Go.RowKit Go.Mx Go.Lr
set_option linter.unusedVariables false
set_option linter.unusedSimpArgs false
section
variable {w w' : World} {base p m : Nat} {c : CM} {fs : List PR}
theorem CK.setAfter (h : CK w base p m c fs All) {i : Nat} {f : PR} (hi : fs[i]? = some f) {l' : List Int} {v' : Value} {w2 : World} (hk : Kept w w2 (fun q => f.av.ownBlock ≠ some q)) (hb : Below base w w2) (ho : OwnI w2 base v' l') (hv : ∀ q, v'.ownBlock = some q → f.av.ownBlock = some q ∨ w.heap.size ≤ q) :
    let w3 := w2.setCell ⟨f.fb, 3, none⟩ v'
    CK w3 base p m { c with all := (fs.set i (afterPR f l' v')).map (·.en) } (fs.set i (afterPR f l' v')) All ∧ Stp base p m w fs w3 (fs.set i (afterPR f l' v')) ∧ w2.cell? ⟨f.fb, 3, none⟩ = some f.av ∧ w2.frozen? ⟨f.fb, 3, none⟩ = false := by
  intro w3
  have hfc := (h.fc i f hi).1
  have hne : f.av.ownBlock ≠ some f.fb := ownI_not (h.oa i f hi trivial) hfc (by decide)
  have q2 := (hk.block _ (blk_lt hfc) hne).trans hfc
  have hks : Kept w2 w3 (fun q => q ≠ f.fb) := Kept.set w2 f.fb 3 v' fun hn => hn rfl
  have hkk : Kept w w3 (fun q => f.av.ownBlock ≠ some q ∧ q ≠ f.fb) := (hk.imp fun q _ hq => hq.1).trans (hks.imp fun q _ hq => hq.2)
  have hset := heap_setCell_at' w2 f.fb 3 v' _ 66 (0, 0) q2
  have hoB : OwnB w3 base 5 f.bv f.en.pg.b := (h.ob i f hi).kept hkk fun q e => by
    obtain ⟨c9, f9, hc9⟩ := ownB_type (h.ob i f hi) q e
    exact ⟨ownI_not (h.oa i f hi trivial) hc9 (by decide), blk_ne hc9 hfc (by decide)⟩
  have hoA : OwnI w3 base v' l' := ownI_kept ho hks fun q e => by
    obtain ⟨c9, f9, hc9⟩ := ownI_type ho q e
    exact blk_ne hc9 q2 (by decide)
  have hsh : ∃ oa n c, v' = .slice oa n c := ownG_shape (ownI_G ho)
  obtain ⟨h1, h2⟩ := h.setPage hi (afterPR f l' v') rfl rfl hkk (fun k hlt hne hav => ⟨hav trivial, hne⟩) (hb.setCell (p := ⟨f.fb, 3, none⟩) (h.fc i f hi).2 v') hset All (fun _ _ hv => hv) hoB (fun _ => hoA) (fun _ k e => hv k e) trivial (h.sb i f hi) hsh
  exact ⟨h1, h2, by simp [World.cell?, q2], by simp [World.frozen?, q2]⟩
set_option maxRecDepth 100000 in
theorem dirty_nil (x : Int) (a : Nat) (w : World) (hc : w.cell? ⟨a, 0, none⟩ = some (.pointer none)) : Calls Try.prog 32 #[.int .i64 x, ptr a] w fun e w' => e = .returned (.bool false) ∧ Below w.heap.size w w' := by
  go_enter Try.func32, Try.ntmps32
  go_wp2
  go_ret
  exact ⟨rfl, Below.refl _ _⟩
set_option maxRecDepth 100000 in
theorem dirty_any (h : CK w base p m c fs All) (x : Int) (hx : isI x) (a : Nat) (hc : w.cell? ⟨a, 0, none⟩ = some (cp p)) : Calls Try.prog 32 #[.int .i64 x, ptr a] w fun e w' => e = .returned (.bool (dirtyAt c.all x)) ∧ Below w.heap.size w w' := by
  have hlf := h.look x hx
  have c1 := h.cells.2.1
  rcases h.who x with ⟨h1, h2⟩ | ⟨i, f, hi, hk, h1, h2⟩
  · rw [h1] at hlf
    replace hlf : (Instr.lookup 56 (.map (some m)) (.int .i64 x) false).run Try.prog w = .ok (.pointer none) w := hlf
    have hd : dirtyAt c.all x = false := by unfold dirtyAt; rw [h2]; rfl
    rw [hd]
    clear h h1 h2 hd
    go_enter Try.func32, Try.ntmps32
    go_wp2
    go_ret
    exact ⟨rfl, Below.refl _ _⟩
  · rw [h1] at hlf
    replace hlf : (Instr.lookup 56 (.map (some m)) (.int .i64 x) false).run Try.prog w = .ok (.pointer (some ⟨f.fb, 0, none⟩)) w := hlf
    have hd : dirtyAt c.all x = f.en.pg.dirty := by unfold dirtyAt; rw [h2]; rfl
    rw [hd]
    obtain ⟨d0, d1, d2, d3, dz⟩ := h.pcells hi
    obtain ⟨fb, hfb⟩ : ∃ y, y = f.fb := ⟨_, rfl⟩
    obtain ⟨dd, hdd⟩ : ∃ y, y = f.en.pg.dirty := ⟨_, rfl⟩
    rw [← hfb] at hlf d1
    rw [← hdd] at d1 ⊢
    clear h h1 h2 hd d0 d2 d3 dz hi hk hfb hdd
    go_enter Try.func32, Try.ntmps32
    go_wp2
    go_ret
    exact ⟨rfl, Below.refl _ _⟩
set_option maxRecDepth 100000 in
theorem index56 (l : List Int) (lv : Value) (x : Int) (w : World) (hs : SlI w w.heap.size lv l) (hn : l.length ≤ 1000000000) :
    Calls Try.prog 56 #[lv, .int .i64 x] w fun e w' => Below w.heap.size w w' ∧ ((e = .returned (.int .i64 (-1)) ∧ x ∉ l) ∨ ∃ i : Nat, e = .returned (.int .i64 i) ∧ x ∈ l) := by
  have hlen := fun w' => hs.len (P := Try.prog) Try.underlying29 (ty := 3) w'
  have HS := hid hs
  obtain ⟨oa, nn, c, rfl⟩ : ∃ oa n c, lv = .slice oa n c := by obtain ⟨oa, c, rfl, _⟩ := hs; exact ⟨_, _, _, rfl⟩
  clear hs
  go_enter Try.func56, Try.ntmps56
  go_wp2_with fail
  go_loopw [8] (fun t wr => ∃ j : Nat, j ≤ l.length ∧ t = .int .i64 j ∧ Below w.heap.size w wr ∧ Hid (x ∉ l.take j)) (fun t _ => l.length - (intOf t).toNat)
  case atStart => exact ⟨0, by omega, rfl, Below.refl _ _, hid (by simp)⟩
  case round =>
    obtain ⟨j, hj, rfl, hbl, HT⟩ := hrel
    by_cases hlt : j < l.length
    · obtain ⟨bb, bo, hbb, hia, hrow⟩ := (HS.out.below hbl (Nat.le_refl _)).addr (P := Try.prog) Try.underlying29 size3 j hlt
      have hmem : l.getD j 0 ∈ l := by rw [List.getD_eq_getElem?_getD, List.getElem?_eq_getElem hlt]; exact List.getElem_mem _
      have HN := hid (show l.take (j + 1) = l.take j ++ [l.getD j 0] by rw [List.take_add_one, List.getElem?_eq_getElem hlt, List.getD_eq_getElem?_getD, List.getElem?_eq_getElem hlt]; rfl)
      obtain ⟨y, hy⟩ : ∃ y, y = l.getD j 0 := ⟨_, rfl⟩
      rw [← hy] at hrow hmem HN
      have hz := hbl.size
      have HB := hid hbl
      clear hbl hy
      by_cases hxy : x = y
      · subst hxy
        have HM := hid hmem
        clear hmem
        go_wp2
        go_ret
        exact ⟨HB.out, .inr ⟨j, rfl, HM.out⟩⟩
      · have hxb : ((x : Int) == y) = false := by simpa using hxy
        have HX := hid hxy
        clear hxy
        go_wp2
        go_roundw
        case rel =>
          refine ⟨j + 1, by omega, by go_num, HB.out, hid ?_⟩
          rw [HN.out]
          intro h
          rcases List.mem_append.1 h with h | h
          · exact HT.out h
          · simp at h; exact HX.out h
        case measure => simp [intOf]; omega
    · obtain rfl : j = l.length := by omega
      go_wp2
      go_ret
      exact ⟨hbl, .inl ⟨rfl, by have := HT.out; rwa [List.take_length] at this⟩⟩
set_option maxRecDepth 100000 in
theorem contains34 (l : List Int) (lv : Value) (x : Int) (w : World) (hs : SlI w w.heap.size lv l) (hn : l.length ≤ 1000000000) :
    Calls Try.prog 34 #[lv, .int .i64 x] w fun e w' => e = .returned (.bool (decide (x ∈ l))) ∧ Below w.heap.size w w' := by
  have HI := hid (index56 l lv x w hs hn)
  clear hs
  go_enter Try.func34, Try.ntmps34
  go_wp2_with fail
  refine HI.out.mono ?_
  rintro e w1 ⟨hb1, ⟨rfl, hx⟩ | ⟨i, rfl, hx⟩⟩
  · go_wp2
    go_ret
    exact ⟨by simp [hx], hb1⟩
  · have t0 : decide (0 ≤ (i : Int)) = true := by simp
    go_wp2
    go_ret
    exact ⟨by simp [hx], hb1⟩
/-- what an After leaves -/
def AftP (base p m : Nat) (c : CM) (fs : List PR) (w : World) (k first : Int) (e : Ending) (w' : World) : Prop :=
  ∃ fs', e = .returned (.int .i64 ((afterM c k first).2 : Nat)) ∧ CK w' base p m (afterM c k first).1 fs' All ∧ plOf fs' = plOf fs ∧ Stp base p m w fs w' fs'
set_option maxRecDepth 100000 in
set_option maxHeartbeats 1000000 in
theorem after_any (h : CK w base p m c fs All) (k first : Int) (hk : isI k) (hf : isI first) (hS : Sm c.all) (hI : Is c.all) (hM : wgt c.all (fun _ => false) ≤ 100000000000) :
    Calls Try.prog 14 #[cp p, .int .i64 k, .int .i64 first] w (AftP base p m c fs w k first) := by
  have hal : Below w.heap.size w (w.alloc (.cells #[cp p] 23)) := (Below.refl _ _).alloc (Nat.le_refl _) _
  have h1 := h.below hal
  have hbox := alloc_new w (.cells #[cp p] 23)
  obtain ⟨w1, hw1⟩ : ∃ x, x = w.alloc (.cells #[cp p] 23) := ⟨_, rfl⟩
  rw [← hw1] at hal h1 hbox
  have hbc : ∀ w2, Below w1.heap.size w1 w2 → w2.cell? ⟨w.heap.size, 0, none⟩ = some (cp p) := fun w2 hb => by
    have := (hb.block _ (blk_lt hbox)).trans hbox
    simp [World.cell?, this]
  have hD : ∀ (x : Int), isI x → ∀ w2, Below w1.heap.size w1 w2 → Calls Try.prog 32 #[.int .i64 x, ptr w.heap.size] w2 fun e w' => e = .returned (.bool (dirtyAt c.all x)) ∧ Below w2.heap.size w2 w' := fun x hx w2 hb => dirty_any (h1.below hb) x hx _ (hbc w2 hb)
  have HD1 := hid (hD k hk)
  have HD2 := hid (hD first hf)
  have HBH := hid (fun w2 (hb : Below w1.heap.size w1 w2) => behind_any (h1.below hb) first k hf hI hM)
  have H := hid (And.intro h (And.intro h1 (And.intro hal (And.intro hS hw1))))
  have HBC := hid hbc
  have HKF := hid (And.intro hk hf)
  have HFIN : Hid (∀ (r : Nat) (w2 : World), Below w1.heap.size w1 w2 → afterM c k first = (c, r) → AftP base p m c fs w k first (.returned (.int .i64 (r : Nat))) w2) := hid fun r w2 hb he => by
    refine ⟨fs, by rw [he], by rw [he]; exact h1.below hb, rfl, Stp.of_below (hal.trans (hb.mono (by have := hal.size; omega))) h.base_le⟩
  obtain ⟨dk, hdk⟩ : ∃ y, y = dirtyAt c.all k := ⟨_, rfl⟩
  obtain ⟨df, hdf⟩ : ∃ y, y = dirtyAt c.all first := ⟨_, rfl⟩
  rw [← hdk] at HD1
  rw [← hdf] at HD2
  have HE := hid (And.intro hdk hdf)
  clear h h1 hal hS hI hM hbc hD hbox hk hf hdk hdf
  go_enter Try.func14, Try.ntmps14
  go_wp2_with fail
  rw [← hw1]
  refine (HD1.out w1 (Below.refl _ _)).mono ?_
  rintro e w2 ⟨rfl, hb2⟩
  clear hw1 HD1
  have HB2 := hid hb2
  clear hb2
  cases dk
  · go_wp2_with fail
    go_ret
    have he : afterM c k first = (c, 15) := by unfold afterM; rw [if_pos (.inl HE.out.1.symm)]
    exact HFIN.out 15 w2 HB2.out he
  go_wp2_with fail
  refine (HD2.out w2 HB2.out).mono ?_
  rintro e w3 ⟨rfl, hb3⟩
  have HB3 := hid (HB2.out.trans (hb3.mono HB2.out.size))
  clear hb3 HD2
  cases df
  · go_wp2_with fail
    go_ret
    have he : afterM c k first = (c, 15) := by unfold afterM; rw [if_pos (.inr HE.out.2.symm)]
    exact HFIN.out 15 w3 HB3.out he
  have bc3 := HBC.out w3 HB3.out
  have hnd : ¬ (dirtyAt c.all k = false ∨ dirtyAt c.all first = false) := by rw [← HE.out.1, ← HE.out.2]; simp
  have HND := hid hnd
  clear hnd
  go_wp2_with fail
  refine (HBH.out w3 HB3.out).mono ?_
  rintro e w4 ⟨b, rfl, hiff, hb4⟩
  have HB4 := hid (HB3.out.trans (hb4.mono HB3.out.size))
  have HIF := hid hiff
  clear hb4 hiff bc3
  cases b
  rotate_left
  · have HR := hid (HIF.out.1 rfl)
    clear HIF
    go_wp2_with fail
    go_ret
    have he : afterM c k first = (c, 11) := by unfold afterM; rw [if_neg HND.out, if_pos HR.out]
    exact HFIN.out 11 w4 HB4.out he
  have he : afterM c k first = ({ c with all := addAft c.all k first }, 0) := by
    unfold afterM; rw [if_neg HND.out, if_neg fun h => by have := HIF.out.2 h; cases this]
  have bc4 := HBC.out w4 HB4.out
  have h4 := H.out.2.1.below (HB4.out.mono (Nat.le_refl _))
  have c1 := h4.cells.2.1
  have hlf := h4.look k HKF.out.1
  obtain ⟨i, f, hi, hfk, hl4, hfd⟩ : ∃ (i : Nat) (f : PR), fs[i]? = some f ∧ f.en.k = k ∧ Mx.look (plOf fs) k = some f.fb ∧ Lr.find c.all k = some f.en.pg := by
    rcases h4.who k with ⟨_, h2⟩ | h2
    · have := HE.out.1; unfold dirtyAt at this; rw [h2] at this; cases this
    · exact h2
  rw [hl4] at hlf
  replace hlf : (Instr.lookup 56 (.map (some m)) (.int .i64 k) false).run Try.prog w4 = .ok (.pointer (some ⟨f.fb, 0, none⟩)) w4 := hlf
  obtain ⟨d0, d1, d2, d3, dz⟩ := h4.pcells hi
  obtain ⟨va, vn, vc, hav⟩ := h4.sa i f hi
  have hmf : f.en ∈ c.all := by rw [h4.all]; exact List.mem_map.2 ⟨f, List.mem_of_getElem? hi, rfl⟩
  have hsm := H.out.2.2.2.1 f.en hmf
  have hown := h4.oa i f hi trivial
  have HCN := hid (contains34 f.en.pg.after f.av first w4 hown.slI (by omega))
  obtain ⟨fb, hfb⟩ : ∃ y, y = f.fb := ⟨_, rfl⟩
  rw [hav] at d3 HCN
  rw [← hfb] at hlf d3 dz
  obtain ⟨yes, hyes⟩ : ∃ y, y = decide (first ∈ f.en.pg.after) := ⟨_, rfl⟩
  rw [← hyes] at HCN
  have HQ := hid (And.intro he (And.intro h4 (And.intro hi (And.intro hfk (And.intro hav (And.intro hsm (And.intro hyes hfb)))))))
  have HD3 := hid (And.intro d3 dz)
  clear he h4 hi hfk hl4 hfd d0 d1 d2 hav hmf hsm hown hyes hfb HBH HND HIF
  go_wp2_with fail
  refine HCN.out.mono ?_
  rintro e w5 ⟨rfl, hb5⟩
  have h5 := HQ.out.2.1.below hb5
  have HB5 := hid (HB4.out.trans (hb5.mono HB4.out.size))
  have hd5 := h5.pcells HQ.out.2.2.1
  have e3 := hd5.2.2.2.1
  have ez := hd5.2.2.2.2
  have hav := HQ.out.2.2.2.2.1
  have hfb := HQ.out.2.2.2.2.2.2.2
  rw [← hfb, hav] at e3
  rw [← hfb] at ez
  have HD5 := hid h5
  clear hb5 hd5 h5 hav hfb d3 dz HCN HD3 c1 hlf bc4
  -- the list as it is behind it
  have HSE : Hid (∀ (F : PR), F.en = { f.en with pg := (fun g : Pg => if first ∈ g.after then g else { g with after := g.after ++ [first] }) f.en.pg } → (fs.set i F).map (·.en) = addAft c.all k first) := hid fun F hF => by
    have h5 := HD5.out
    have := setE_set (fun g : Pg => if first ∈ g.after then g else { g with after := g.after ++ [first] }) fs i f F h5.nodup HQ.out.2.2.1 hF
    rw [this, HQ.out.2.2.2.1, h5.all]; rfl
  cases yes
  · have hno : first ∉ f.en.pg.after := by
      have := HQ.out.2.2.2.2.2.2.1; simpa using this.symm
    have hal : Below w5.heap.size w5 (w5.alloc (.cells #[.int .i64 first] 3)) := (Below.refl _ _).alloc (Nat.le_refl _) _
    have h6 := HD5.out.below hal
    have hown := h6.oa i f HQ.out.2.2.1 trivial
    have hav := HQ.out.2.2.2.2.1
    rw [hav] at hown
    have hc6 : (w5.alloc (.cells #[.int .i64 first] 3)).cell? ⟨w5.heap.size, 0, none⟩ = some (.int .i64 first) := by simp
    have HO := hid (And.intro hown (And.intro hc6 (And.intro hno (And.intro h6 hal))))
    clear hown hc6 hno h6 hal hav
    go_wp2_with (at_builtin; refine append_i1 _ rfl _ _ 29 rfl Try.underlying29 info3 base _ f.en.pg.after first rfl HO.out.1 w5.heap.size 1 rfl HO.out.2.1 ?b1 ?b2 ?_)
    case b1 => have := HQ.out.2.2.2.2.2.1; omega
    case b2 => exact HO.out.2.2.2.1.base_le
    intro v7 w7 ho7 hk7 hb7 hv7
    have hset := HO.out.2.2.2.1.setAfter HQ.out.2.2.1 (v' := v7) (w2 := w7) (l' := f.en.pg.after ++ [first]) (by rw [HQ.out.2.2.2.2.1]; exact hk7) hb7 ho7 (by rw [HQ.out.2.2.2.2.1]; intro q hq; have := hv7 q hq; simp only [World.alloc, Array.size_push]; exact this)
    obtain ⟨oa7, n7, c7, rfl⟩ := ownG_shape (ownI_G ho7)
    rw [← HQ.out.2.2.2.2.2.2.2] at hset
    have z3 := hset.2.2.1
    have z4 := hset.2.2.2
    have HS7 := hid (And.intro hset.1 hset.2.1)
    clear hset ho7 hk7 hb7 hv7 e3 ez
    go_wp2_with fail
    go_ret
    refine ⟨fs.set i (afterPR f (f.en.pg.after ++ [first]) (.slice oa7 n7 c7)), by rw [HQ.out.1]; rfl, ?_, plOf_set HQ.out.2.2.1 rfl rfl, ?_⟩
    · have h9 := HS7.out.1
      rw [HSE.out _ (by unfold afterPR; simp only; rw [if_neg HO.out.2.2.1])] at h9
      rw [HQ.out.1]; exact h9
    · refine (Stp.of_below (H.out.2.2.1.trans (HB5.out.mono (by have := H.out.2.2.1.size; omega))) H.out.1.base_le).trans ?_
      exact (Stp.of_below HO.out.2.2.2.2 HD5.out.base_le).trans HS7.out.2
  · have hin : first ∈ f.en.pg.after := by
      have := HQ.out.2.2.2.2.2.2.1; simpa using this.symm
    have HN := hid hin
    clear hin e3 ez
    go_wp2_with fail
    go_ret
    refine ⟨fs, by rw [HQ.out.1]; rfl, ?_, rfl, Stp.of_below (H.out.2.2.1.trans (HB5.out.mono (by have := H.out.2.2.1.size; omega))) H.out.1.base_le⟩
    have h9 := HD5.out
    have e1 : addAft c.all k first = c.all := by
      have h0 := HSE.out f (by show f.en = { f.en with pg := if first ∈ f.en.pg.after then f.en.pg else { f.en.pg with after := f.en.pg.after ++ [first] } }; rw [if_pos HN.out])
      rw [← h0]
      have : fs.set i f = fs := by
        apply List.ext_getElem?; intro j; rw [set_get fs i j f f HQ.out.2.2.1]; split
        · rename_i e; rw [e, HQ.out.2.2.1]
        · rfl
      rw [this, h9.all]
    rw [HQ.out.1, e1]; exact h9
end
end Go.Proofs.Ytbklhhmcigangaa
