import Derived.Test.YtmcllcepoiakeaaGreatDE
set_option linter.unusedSimpArgs false
set_option linter.unusedVariables false
namespace Go.Proofs.YtmcllcepoiakeaaGreat.Dx
open Go.RowKit Go.Mx Go.Mp Go.Dk
abbrev ptr (a : Nat) : Value := .pointer (some ⟨a, 0, none⟩)
def goesR (nm : List UInt8) (k : Nat) (r : RM) : Bool := r.name == nm && decide (k ≤ r.at_)
theorem forget_eq (l : List RM) (nm : List UInt8) (k : Nat) : Dk.forget l nm k = l.filter fun r => !goesR nm k r := rfl
theorem lrow_len (r : RM) (h : r.b.length = 16) : (lrow r).length = 18 := by simp [lrow, srow, h]
theorem lrow_one (r : RM) : ∀ u ∈ lrow r, u.oneCell' = true := by
  intro u hu; unfold lrow at hu
  rcases List.mem_cons.1 hu with rfl | hu
  · rfl
  · rcases List.mem_cons.1 hu with rfl | hu
    · rfl
    · exact srow_one _ u hu
theorem load280 (w : World) (b o : Nat) (r : RM) (h : r.b.length = 16) (hc : w.rangeAt b o (lrow r)) : (Instr.loadAt 280 (.pointer (some ⟨b, o, none⟩))).run Tryz.prog w = .ok (.agg (lrow r).toArray) w :=
  run_loadAt_mid w b o 280 (lrow r) _ hc Tryz.underlying280 rfl (by rw [lrow_len r h]; kernel_rfl)
set_option maxRecDepth 100000 in
theorem del_any (r : RM) (nm : List UInt8) (k a b : Nat) (w : World) (ha : w.cell? ⟨a, 0, none⟩ = some (nmv nm)) (hb : w.cell? ⟨b, 0, none⟩ = some (.int .i64 k)) :
    Calls Tryz.prog 164 #[.agg (lrow r).toArray, ptr a, ptr b] w fun e w' => e = .returned (.bool (goesR nm k r)) ∧ Below w.heap.size w w' := by
  obtain ⟨X, hX⟩ : ∃ X, X = (lrow r).toArray := ⟨_, rfl⟩
  have hbl := (Below.refl w.heap.size w).alloc (Nat.le_refl _) (.cells X 280)
  have c0 : (w.alloc (.cells X 280)).cell? ⟨w.heap.size, 0, none⟩ = some (.string ⟨r.name.toArray⟩) := by rw [hX]; exact row_cells w (lrow r) 280 0 _ rfl
  have c1 : (w.alloc (.cells X 280)).cell? ⟨w.heap.size, 1, none⟩ = some (.int .i64 r.at_) := by rw [hX]; exact row_cells w (lrow r) 280 1 _ rfl
  have ha' := (hbl.cell (p := ⟨a, 0, none⟩) (World.block_lt_of_cell? w _ ha)).trans ha
  have hb' := (hbl.cell (p := ⟨b, 0, none⟩) (World.block_lt_of_cell? w _ hb)).trans hb
  rw [← hX]
  have HB := hid hbl
  unfold goesR
  obtain ⟨s, hs⟩ : ∃ s, s = r.name := ⟨_, rfl⟩
  obtain ⟨n, hn⟩ : ∃ n, n = r.at_ := ⟨_, rfl⟩
  rw [← hs] at c0 ⊢
  rw [← hn] at c1 ⊢
  clear ha hb hbl hs hn hX
  have e1 : (decide ((k : Int) ≤ (n : Int))) = decide (k ≤ n) := by simp
  cases hq : (s == nm)
  all_goals
    go_enter Tryz.func164, Tryz.ntmps164
    go_wp2
    go_ret
    exact ⟨by simp, HB.out⟩
set_option maxRecDepth 100000 in
theorem index_any (l : List RM) (lv : Value) (nm : List UInt8) (k a b : Nat) (w : World) (hs : SlG w w.heap.size 18 lv (l.map lrow)) (ha : w.cell? ⟨a, 0, none⟩ = some (nmv nm)) (hb : w.cell? ⟨b, 0, none⟩ = some (.int .i64 k))
    (hl : ∀ r ∈ l, r.b.length = 16) (hn : l.length ≤ 1000000000) :
    Calls Tryz.prog 227 #[lv, .func (.func 164) #[] #[ptr a, ptr b]] w fun e w' => Below w.heap.size w w' ∧ ((e = .returned (.int .i64 (-1)) ∧ ∀ r ∈ l, goesR nm k r = false) ∨ ∃ i : Nat, e = .returned (.int .i64 i) ∧ i < l.length ∧ goesR nm k (l.getD i default) = true ∧ ∀ r ∈ l.take i, goesR nm k r = false) := by
  have hlen := fun w' => hs.len (P := Tryz.prog) Tryz.underlying62 (ty := 3) w'
  rw [List.length_map] at hlen
  have HS := hid hs
  have HA := hid (And.intro ha hb)
  have HL := hid hl
  obtain ⟨oa, nn, c, rfl⟩ : ∃ oa n c, lv = .slice oa n c := by obtain ⟨oa, c, rfl, _⟩ := hs; exact ⟨_, _, _, rfl⟩
  clear hs ha hb hl
  go_enter Tryz.func227, Tryz.ntmps227
  go_wp2_with fail
  go_loopw [8] (fun t wr => ∃ j : Nat, j ≤ l.length ∧ t = .int .i64 j ∧ Below w.heap.size w wr ∧ Hid (∀ r ∈ l.take j, goesR nm k r = false)) (fun t _ => l.length - (intOf t).toNat)
  case atStart => exact ⟨0, by omega, rfl, Below.refl _ _, hid (by simp)⟩
  case round =>
    obtain ⟨j, hj, rfl, hbl, HT⟩ := hrel
    by_cases hlt : j < l.length
    · obtain ⟨bb, bo, hbb, hia, hrow⟩ := (HS.out.below hbl (Nat.le_refl _)).addr (P := Tryz.prog) Tryz.underlying62 size280 j (by simpa using hlt)
      rw [show (l.map lrow).getD j [] = lrow (l.getD j default) by simp [List.getD_eq_getElem?_getD, List.getElem?_map, List.getElem?_eq_getElem hlt]] at hrow
      have hmem : l.getD j default ∈ l := by rw [List.getD_eq_getElem?_getD, List.getElem?_eq_getElem hlt]; exact List.getElem_mem _
      have HN := hid (show l.take (j + 1) = l.take j ++ [l.getD j default] by rw [List.take_add_one, List.getElem?_eq_getElem hlt, List.getD_eq_getElem?_getD, List.getElem?_eq_getElem hlt]; rfl)
      have HR := hid (show l.getD j default = l.getD j default from rfl)
      obtain ⟨r, hr⟩ : ∃ r, r = l.getD j default := ⟨_, rfl⟩
      rw [← hr] at hrow hmem HN
      have hrg : wr.rangeAt bb bo (lrow r) := hrow
      have hsz : (Tryz.prog.info? 280).map (·.size) = some (lrow r).length := by rw [lrow_len r (HL.out r hmem)]; kernel_rfl
      have hz := hbl.size
      have HC := hid (del_any r nm k a b wr ((hbl.cell (p := ⟨a, 0, none⟩) (World.block_lt_of_cell? w _ HA.out.1)).trans HA.out.1) ((hbl.cell (p := ⟨b, 0, none⟩) (World.block_lt_of_cell? w _ HA.out.2)).trans HA.out.2))
      have HRR := hid hr
      obtain ⟨X, hX⟩ : ∃ X, X = lrow r := ⟨_, rfl⟩
      rw [← hX] at hrg hsz HC
      obtain ⟨q, hq⟩ : ∃ q, q = goesR nm k r := ⟨_, rfl⟩
      rw [← hq] at HC
      have HQ := hid hq
      have HB := hid hbl
      clear hrow hr hbl hX hq
      go_wp2_with (refine wpList_load_mid rfl 280 _ rfl bb bo rfl X _ hrg Tryz.underlying280 rfl hsz ?_)
      refine HC.out.mono ?_
      rintro e w1 ⟨rfl, hb1⟩
      have HB1 := hid (HB.out.trans (hb1.mono hz))
      clear hb1
      cases q
      · go_wp2_with fail
        go_roundw
        case rel =>
          refine ⟨j + 1, by omega, by go_num, HB1.out, hid ?_⟩
          rw [HN.out]
          intro x hx
          rcases List.mem_append.1 hx with hx | hx
          · exact HT.out x hx
          · simp at hx; rw [hx]; exact HQ.out.symm
        case measure => simp [intOf]; omega
      · go_wp2
        go_ret
        exact ⟨HB1.out, .inr ⟨j, rfl, hlt, by rw [← HRR.out]; exact HQ.out.symm, HT.out⟩⟩
    · obtain rfl : j = l.length := by omega
      go_wp2
      go_ret
      exact ⟨hbl, .inl ⟨rfl, by have := HT.out; rwa [List.take_length] at this⟩⟩
end Go.Proofs.YtmcllcepoiakeaaGreat.Dx
namespace Go.Mx
open Go.RowKit
theorem OwnG.addr {P : Program} {t e : TypeId} {w : World} {base s g n c : Nat} {rows : List (List Value)} (h : OwnG w base e s (.slice (some ⟨g, 0, none⟩) n c) rows) (ht : P.underlying t = some (.slice e)) (hs : ∀ w, (sizeOf e).run P w = .ok s w) (j : Nat) (hj : j < rows.length) :
    ∀ w' (k : IntKind), (Instr.indexAt t (.slice (some ⟨g, 0, none⟩) n c) (.int k (j : Int))).run P w' = .ok (.pointer (some ⟨g, j * s, none⟩)) w' := by
  intro w' k
  have ht' : P.underlying t = some (.slice (P.elem t)) := by rw [ht]; simp [Program.elem, ht]
  have hel : P.elem t = e := by simp [Program.elem, ht]
  have := h.parts.1
  rw [run_indexAt_slice (h := ht'), if_pos (by omega), hel, hs]
  simp [Result.andThen, Addr.add]
  exact fun h => h.symm
theorem OwnG.from {P : Program} {t e : TypeId} {w : World} {base s g n c : Nat} {rows : List (List Value)} (h : OwnG w base e s (.slice (some ⟨g, 0, none⟩) n c) rows) (ht : P.underlying t = some (.slice e)) (hs : ∀ w, (sizeOf e).run P w = .ok s w) (lo : Nat) (hl : lo < rows.length) :
    ∀ w' (k : IntKind), (Instr.slice t (.slice (some ⟨g, 0, none⟩) n c) (some (.int k (lo : Int))) none none).run P w' = .ok (.slice (some ⟨g, lo * s, none⟩) (n - lo) (c - lo)) w' := by
  intro w' k
  have ht' : P.underlying t = some (.slice (P.elem t)) := by rw [ht]; simp [Program.elem, ht]
  have hel : P.elem t = e := by simp [Program.elem, ht]
  obtain ⟨h1, _, h2, _⟩ := h.parts
  rw [run_slice_l (l := (lo : Int)) (ht := ht') (h0 := by omega) (h1 := by omega), hel, hs]
  simp only [Result.andThen, sliced, Int.toNat_natCast]
  rw [if_neg (by omega)]
  simp [Addr.add]
  exact fun h => h.symm
theorem OwnG.to {P : Program} {t e : TypeId} {w : World} {base s g n c : Nat} {rows : List (List Value)} (h : OwnG w base e s (.slice (some ⟨g, 0, none⟩) n c) rows) (ht : P.underlying t = some (.slice e)) (hs : ∀ w, (sizeOf e).run P w = .ok s w) (hi : Nat) (hl : hi ≤ rows.length) :
    ∀ w' (k : IntKind), (Instr.slice t (.slice (some ⟨g, 0, none⟩) n c) none (some (.int k (hi : Int))) none).run P w' = .ok (.slice (some ⟨g, 0, none⟩) hi c) w' := by
  intro w' k
  have ht' : P.underlying t = some (.slice (P.elem t)) := by rw [ht]; simp [Program.elem, ht]
  have hel : P.elem t = e := by simp [Program.elem, ht]
  obtain ⟨h1, _, h2, _⟩ := h.parts
  rw [run_slice_h (h := (hi : Int)) (ht := ht') (h0 := by omega) (h2 := by omega), hel, hs]
  simp [Result.andThen, sliced, Addr.add]
/-- a store of a row given as a list -/
theorem wpList_store_list {P : Program} {ops : Array Oper} {rest : List Oper} {op : Oper} {a : Act} {w : World} {Q : Exit → Act → World → Prop} (hgd : op.guard = none) (ty : TypeId) (x y : Operand) (ho : op.op = .store ty x y)
    (b o : Nat) (cs : List Value) (hx : a.eval x = .pointer (some ⟨b, o, none⟩)) (hy : a.eval y = .agg cs.toArray) (ht : w.there b o cs.length) (hi : (P.info? ty).map (·.size) = some cs.length) (h1 : ∀ v ∈ cs, v.oneCell' = true)
    (h : wpList P ops Q rest (a.put op.dst undef) (w.setCells b o cs)) : wpList P ops Q (op :: rest) a w := by
  refine wpList_store_mid hgd ty x y ho b o cs.toArray hx hy (by simpa using ht) (by simpa using hi) (all_oneCell_toArray h1) ?_
  rw [show cs.toArray.toList = cs by simp]; exact h
/-- a store into a block just made -/
theorem wpList_store_new {P : Program} {ops : Array Oper} {rest : List Oper} {op : Oper} {a : Act} (w : World) {Q : Exit → Act → World → Prop} (hgd : op.guard = none) (ty : TypeId) (x y : Operand) (ho : op.op = .store ty x y) (Z : Array Value) (e : TypeId)
    (cs : List Value) (hx : a.eval x = .pointer (some ⟨w.heap.size, 0, none⟩)) (hy : a.eval y = .agg cs.toArray) (hZ : cs.length = Z.size) (hi : (P.info? ty).map (·.size) = some cs.length) (h1 : ∀ v ∈ cs, v.oneCell' = true)
    (h : wpList P ops Q rest (a.put op.dst undef) (w.alloc (.cells cs.toArray e))) : wpList P ops Q (op :: rest) a (w.alloc (.cells Z e)) := by
  refine wpList_store_mid hgd ty x y ho w.heap.size 0 cs.toArray hx hy ?_ (by simpa using hi) (all_oneCell_toArray h1) ?_
  · intro j hj
    have hj' : j < Z.size := by simpa [hZ] using hj
    have hn := alloc_new w (.cells Z e)
    refine ⟨?_, ?_⟩
    · rw [World.cell?_alloc_at Z e w.heap.size (0 + j) rfl]; simp [hj']
    · simp only [World.frozen?, hn]; simp
  · rw [show cs.toArray.toList = cs by simp, alloc_setCells w Z e cs hZ]; exact h
end Go.Mx
namespace Go.Proofs.YtmcllcepoiakeaaGreat.Dx
open Go.RowKit Go.Mx Go.Mp Go.Dk
def zrec : Value := .agg #[.string ⟨#[]⟩, .int .i64 0, .int .u8 0, .int .u8 0, .int .u8 0, .int .u8 0, .int .u8 0, .int .u8 0, .int .u8 0, .int .u8 0, .int .u8 0, .int .u8 0, .int .u8 0, .int .u8 0, .int .u8 0, .int .u8 0, .int .u8 0, .int .u8 0]
theorem zero280 : ∀ w, (zeroValue 280).run Tryz.prog w = .ok zrec w := fun w => by kernel_rfl
theorem drop_at {l R : List RM} {j : Nat} (h : R.drop j = l.drop j) (hR : R.length = l.length) (hj : j < l.length) : R.getD j default = l.getD j default ∧ R.drop (j + 1) = l.drop (j + 1) := by
  rw [List.drop_eq_getElem_cons hj, List.drop_eq_getElem_cons (by omega : j < R.length)] at h
  have h := List.cons.inj h
  exact ⟨by simp [List.getD_eq_getElem?_getD, List.getElem?_eq_getElem hj, List.getElem?_eq_getElem (by omega : j < R.length), h.1], h.2⟩
set_option maxRecDepth 100000 in
set_option maxHeartbeats 1000000 in
theorem delf_any (l : List RM) (lv : Value) (nm : List UInt8) (k a b base : Nat) (w : World) (hs : OwnG w base 280 18 lv (l.map lrow)) (ha : w.heap[a]? = some (.cells #[nmv nm] 9 (0, 0))) (hb : w.heap[b]? = some (.cells #[.int .i64 k] 3 (0, 0)))
    (hl : ∀ r ∈ l, r.b.length = 16) (hn : l.length ≤ 1000000000) (hB : base ≤ w.heap.size) :
    Calls Tryz.prog 163 #[lv, .func (.func 164) #[] #[ptr a, ptr b]] w fun e w' => ∃ v', e = .returned v' ∧ OwnG w' base 280 18 v' ((Dk.forget l nm k).map lrow) ∧ Kept w w' (fun q => lv.ownBlock ≠ some q) ∧ Below base w w' := by
  have hca : w.cell? ⟨a, 0, none⟩ = some (nmv nm) := by simp [World.cell?, ha]
  have hcb : w.cell? ⟨b, 0, none⟩ = some (.int .i64 k) := by simp [World.cell?, hb]
  have HI := hid (index_any l lv nm k a b w hs.slG hca hcb hl hn)
  have HS := hid hs
  have HA := hid (And.intro ha hb)
  have HAN := hid (And.intro (hs.not ha (by decide)) (hs.not hb (by decide)))
  have HL := hid hl
  have hlen := fun w' => hs.slG.len (P := Tryz.prog) Tryz.underlying62 (ty := 3) w'
  rw [List.length_map] at hlen
  obtain ⟨oa, nn, c, rfl⟩ := hs.sliceOf
  clear hs ha hb hl hca hcb
  go_enter Tryz.func163, Tryz.ntmps163
  go_wp2_with fail
  refine HI.out.mono ?_
  rintro e w1 ⟨hb1, ⟨rfl, hall⟩ | ⟨i0, rfl, hi0, hg0, hall⟩⟩
  · have hk1 : Kept w w1 (fun _ => True) := .of_below hb1 fun _ h _ => h
    have h1 := HS.out.kept hk1 fun _ _ => trivial
    have e1 : Dk.forget l nm k = l := by
      rw [forget_eq]; exact List.filter_eq_self.2 fun r hr => by rw [hall r hr]; rfl
    have HE := hid (And.intro h1 (And.intro e1 hb1))
    clear h1 hk1 e1 hb1 hall
    go_wp2
    go_ret
    exact ⟨_, rfl, by rw [HE.out.2.1]; exact HE.out.1, .of_below HE.out.2.2 fun _ h _ => h, HE.out.2.2.mono hB⟩
  · rcases HS.out.shape with ⟨_, h0⟩ | ⟨g, cp, hv, hg1, hg2⟩
    · have := congrArg List.length h0; simp at this; rw [this] at hi0; simp at hi0
    rw [List.length_map] at hv
    simp only [Value.slice.injEq] at hv
    obtain ⟨rfl, rfl, rfl⟩ := hv
    have h1 := HS.out.below hb1 (Nat.le_refl _)
    have t0 : ((i0 : Int) == -1) = false := by rw [beq_eq_false_iff_ne]; omega
    have t1 : ¬ ((i0 : Int) = -1) := by omega
    have HB1 := hid hb1
    have HST : Hid ((l.take i0).filter (fun r => !goesR nm k r) = l.take i0 ∧ (l.take (i0 + 1)).filter (fun r => !goesR nm k r) = l.take i0) := by
      have e1 : (l.take i0).filter (fun r => !goesR nm k r) = l.take i0 := List.filter_eq_self.2 fun r hr => by rw [hall r hr]; rfl
      refine ⟨e1, ?_⟩
      rw [List.take_add_one, List.getElem?_eq_getElem hi0, List.filter_append, e1]
      have : goesR nm k l[i0] = true := by rw [List.getD_eq_getElem?_getD, List.getElem?_eq_getElem hi0] at hg0; exact hg0
      simp [this]
    clear hb1 hall hg0 HI
    go_wp2_with fail
    go_loopw [5, 6] (fun s5 s6 wr => ∃ (i j : Nat) (R : List RM), s5 = .int .i64 i ∧ s6 = .int .i64 j ∧ i < j ∧ j ≤ l.length ∧ R.length = l.length ∧ Hid (R.take i = (l.take j).filter (fun r => !goesR nm k r) ∧ R.drop j = l.drop j) ∧
      OwnG wr base 280 18 (.slice (some ⟨g, 0, none⟩) l.length c) (R.map lrow) ∧ Kept w wr (fun q => (Value.slice (some ⟨g, 0, none⟩) l.length c).ownBlock ≠ some q) ∧ Below base w wr) (fun _ s6 _ => l.length - (intOf s6).toNat)
    case atStart => exact ⟨i0, i0 + 1, l, rfl, by go_num, by omega, by omega, rfl, hid ⟨HST.out.2.symm, rfl⟩, h1, .of_below HB1.out fun _ h _ => h, HB1.out.mono hB⟩
    case round =>
      obtain ⟨i, j, R, rfl, rfl, hij, hj, hRl, HR, ho, hk, hbel⟩ := hrel
      by_cases hlt : j < l.length
      · have hdr := drop_at HR.out.2 hRl hlt
        have hmem : l.getD j default ∈ l := by rw [List.getD_eq_getElem?_getD, List.getElem?_eq_getElem hlt]; exact List.getElem_mem _
        have hrb := HL.out _ hmem
        have hgo := HR.out.1
        have htk : l.take (j + 1) = l.take j ++ [l.getD j default] := by rw [List.take_add_one, List.getElem?_eq_getElem hlt, List.getD_eq_getElem?_getD, List.getElem?_eq_getElem hlt]; rfl
        have hjR : j < (R.map lrow).length := by simp; omega
        have hiR : i < (R.map lrow).length := by simp; omega
        have hrg : wr.rangeAt g (j * 18) (lrow (R.getD j default)) := by
          have := ho.rangeAt j hjR
          rwa [show (R.map lrow).getD j [] = lrow (R.getD j default) by simp [List.getD_eq_getElem?_getD, List.getElem?_map, List.getElem?_eq_getElem (by omega : j < R.length)]] at this
        rw [hdr.1] at hrg
        obtain ⟨r, hr⟩ : ∃ r, r = l.getD j default := ⟨_, rfl⟩
        rw [← hr] at hrg hrb htk
        have hsz : (Tryz.prog.info? 280).map (·.size) = some (lrow r).length := by rw [lrow_len r hrb]; kernel_rfl
        have hsz2 := lrow_len r hrb
        have hone := lrow_one r
        have hia := ho.addr (P := Tryz.prog) Tryz.underlying62 size280 j hjR
        have hii := ho.addr (P := Tryz.prog) Tryz.underlying62 size280 i hiR
        have hth := ho.there (i * 18) 18 (by have h5 := ho.parts.2.2.1; rw [List.length_map] at h5; omega)
        have hset := ho.setAt i (lrow r) hiR hsz2
        have hgb : base ≤ g := hg1
        have hglt : g < wr.heap.size := ho.lt g rfl
        -- the world behind the copy
        have hal := (Below.refl wr.heap.size wr).alloc (Nat.le_refl _) (.cells (lrow r).toArray 280)
        have haw : wr.heap[a]? = some (.cells #[nmv nm] 9 (0, 0)) := (hk.block a (blk_lt HA.out.1) HAN.out.1).trans HA.out.1
        have hbw : wr.heap[b]? = some (.cells #[.int .i64 k] 3 (0, 0)) := (hk.block b (blk_lt HA.out.2) HAN.out.2).trans HA.out.2
        have hnew := alloc_new wr (.cells (lrow r).toArray 280)
        have hrg1 : (wr.alloc (.cells (lrow r).toArray 280)).rangeAt wr.heap.size 0 (lrow r) := fun i u hu => by rw [Nat.zero_add]; exact row_cells wr (lrow r) 280 i u hu
        have ha1 := (hal.block a (blk_lt haw)).trans haw
        have hb1' := (hal.block b (blk_lt hbw)).trans hbw
        have HC := hid (del_any r nm k a b (wr.alloc (.cells (lrow r).toArray 280)) (by simp [World.cell?, ha1]) (by simp [World.cell?, hb1']))
        have HW := hid (And.intro ho (And.intro hk (And.intro hbel hal)))
        obtain ⟨X, hX⟩ : ∃ X, X = lrow r := ⟨_, rfl⟩
        rw [← hX] at hrg hsz hsz2 hone hset hal hrg1 HC HW hnew
        have HX := hid hX
        have HSET := hid hset
        have HRB := hid (And.intro hrb (And.intro hr (And.intro htk hgo)))
        obtain ⟨q, hq⟩ : ∃ q, q = goesR nm k r := ⟨_, rfl⟩
        rw [← hq] at HC
        have HQ := hid hq
        have HD := hid hdr
        clear haw hbw ha1 hb1' hX hset hdr hr htk hgo hq hk hbel ho h1 hrb hmem
        go_wp2_with (first
          | (refine wpList_load_mid rfl 280 _ rfl g (j * 18) rfl X _ hrg Tryz.underlying280 rfl hsz ?_)
          | (refine wpList_store_new wr rfl 280 _ _ rfl _ 280 X rfl rfl hsz2 hsz hone ?_)
          | (refine wpList_load_mid rfl 280 _ rfl wr.heap.size 0 rfl X _ hrg1 Tryz.underlying280 rfl hsz ?_))
        refine HC.out.mono ?_
        rintro e w2 ⟨rfl, hb2⟩
        have hz2 := hal.size
        have hsz1 : (wr.alloc (.cells X.toArray 280)).heap.size = wr.heap.size + 1 := by simp
        have hbw2 : Below wr.heap.size wr w2 := hal.trans (hb2.mono hz2)
        have ho2 := HW.out.1.below hbw2 (Nat.le_refl _)
        have hk2 := HW.out.2.1.trans (.of_below hbw2 fun _ h _ => h)
        have hB2 := HW.out.2.2.1.trans (hbw2.mono (by have := HW.out.2.2.1.size; omega))
        cases q
        · have hrg2 : w2.rangeAt wr.heap.size 0 X := fun i u hu => (hb2.cell (p := ⟨wr.heap.size, 0 + i, none⟩) (by show wr.heap.size < _; omega)).trans (hrg1 i u hu)
          have hth2 : w2.there g (i * 18) X.length := by
            rw [hsz2]
            exact ho2.there _ _ (by have h5 := ho2.parts.2.2.1; rw [List.length_map] at h5; omega)
          have hset2 := ho2.setAt i X hiR hsz2
          have hk3 := hk2.trans (Kept.setCells w2 g (i * 18) X (N := fun q => (Value.slice (some ⟨g, 0, none⟩) l.length c).ownBlock ≠ some q) fun hn => hn rfl)
          have hB3 := Mx.Below.setCells X hB2 (o := i * 18) hgb
          rw [HX.out, ← List.map_set, ← HX.out] at hset2
          have HO := hid (And.intro hset2 (And.intro hk3 hB3))
          clear hset2 hk3 hB3 hk2 hB2 ho2 hbw2 hb2
          go_wp2_with (first
            | (refine wpList_load_mid rfl 280 _ rfl wr.heap.size 0 rfl X _ hrg2 Tryz.underlying280 rfl hsz ?_)
            | (refine wpList_store_list rfl 280 _ _ rfl g (i * 18) X rfl rfl hth2 hsz hone ?_))
          go_roundw
          case rel =>
            refine ⟨i + 1, j + 1, R.set i r, by go_num, by go_num, by omega, by omega, by simpa using hRl, hid ⟨?_, ?_⟩, HO.out.1, HO.out.2.1, HO.out.2.2⟩
            · rw [HRB.out.2.2.1, List.filter_append, ← HRB.out.2.2.2, List.take_add_one, List.take_set_of_le (Nat.le_refl _), List.getElem?_set_self (by omega)]
              have : goesR nm k r = false := HQ.out.symm
              simp [this]
            · rw [List.drop_set, if_pos (by omega)]; exact HD.out.2
          case measure => simp [intOf]; omega
        · have HO := hid (And.intro ho2 (And.intro hk2 hB2))
          clear ho2 hk2 hB2 hbw2 hb2
          go_wp2_with fail
          go_roundw
          case rel =>
            refine ⟨i, j + 1, R, rfl, by go_num, by omega, by omega, hRl, hid ⟨?_, HD.out.2⟩, HO.out.1, HO.out.2.1, HO.out.2.2⟩
            rw [HRB.out.2.2.1, List.filter_append, ← HRB.out.2.2.2]
            have : goesR nm k r = true := HQ.out.symm
            simp [this]
          case measure => simp [intOf]; omega
      · obtain rfl : j = l.length := by omega
        have hsl := ho.from (P := Tryz.prog) Tryz.underlying62 size280 i (by simp; omega)
        have hsl2 := ho.to (P := Tryz.prog) Tryz.underlying62 size280 i (by simp; omega)
        have hcl : ∀ ty, (Builtin.clear_ #[62] ty #[.slice (some ⟨g, i * 18, none⟩) (l.length - i) (c - i)]).run Tryz.prog wr = .ok (.tuple #[]) (wr.setCells g (i * 18) (Builtin.zeroCells zrec.cells (l.length - i)).toList) := fun ty =>
          run_clear_rows wr 62 280 ty zrec Tryz.underlying62 zero280 (by decide) g (i * 18) (l.length - i) (c - i) (by omega) (ho.there _ _ (by
            have := ho.parts.2.2.1; simp at this
            show i * 18 + (l.length - i) * 18 ≤ c * 18
            omega))
        have ho2 := ho.tail i (by simp; omega) (Builtin.zeroCells zrec.cells (l.length - i)).toList (by
            have := ho.parts.2.2.1; simp at this
            rw [zero_cells_len]
            show i * 18 + (l.length - i) * 18 ≤ c * 18
            omega)
        have hgb : base ≤ g := hg1
        have hk2 := hk.trans (Kept.setCells wr g (i * 18) (Builtin.zeroCells zrec.cells (l.length - i)).toList (N := fun q => (Value.slice (some ⟨g, 0, none⟩) l.length c).ownBlock ≠ some q) fun hn => hn rfl)
        have hb2 := Mx.Below.setCells (Builtin.zeroCells zrec.cells (l.length - i)).toList hbel (o := i * 18) hgb
        obtain ⟨ZL, hZL⟩ : ∃ z, z = (Builtin.zeroCells zrec.cells (l.length - i)).toList := ⟨_, rfl⟩
        rw [← hZL] at hcl ho2 hk2 hb2
        have e1 : (R.map lrow).take i = (Dk.forget l nm k).map lrow := by
          rw [← List.map_take, HR.out.1, List.take_length]; rfl
        rw [e1] at ho2
        have HO := hid (And.intro ho2 (And.intro hk2 hb2))
        clear hZL ho2 hk2 hb2 e1 ho hk hbel h1
        go_wp2_with fail
        go_ret
        exact ⟨_, rfl, HO.out.1, HO.out.2.1, HO.out.2.2⟩
end Go.Proofs.YtmcllcepoiakeaaGreat.Dx
namespace Go.Mx
theorem Kept.imp {w w' : World} {N M : Nat → Prop} (h : Kept w w' N) (hi : ∀ k, k < w.heap.size → M k → N k) : Kept w w' M := ⟨h.size, fun k hk hm => h.block k hk (hi k hk hm)⟩
end Go.Mx
namespace Go.Proofs.YtmcllcepoiakeaaGreat.Dx
open Go.RowKit Go.Mx Go.Mp Go.Dk
section
variable {w w' : World} {base p : Nat} {d : DM} {fs : List FR} {m : Nat} {lv : Value} {x : Int} {V : Nat → Bool → Prop}
theorem DK.foreign_log (h : DK w base p d fs m lv x V) {q : Nat} (hq : Foreign m w q) : q ≠ p ∧ lv.ownBlock ≠ some q := by
  refine ⟨by rintro rfl; exact (hq.2 _ _ _ h.dk).1 rfl, fun e => ?_⟩
  obtain ⟨c, f, g⟩ := h.lg.type e
  exact (hq.2 _ _ _ g).2.2.2 rfl
/-- the log's slice is another one now -/
theorem DK.newLog (h : DK w base p d fs m lv x V) (hk : Kept w w' (fun q => lv.ownBlock ≠ some q)) (hb : Below base w w') (lv' : Value) (l' : List RM) (hl : OwnG w' base 280 18 lv' (l'.map lrow)) :
    DK (w'.setCell ⟨p, 2, none⟩ lv') base p { d with log := l' } fs m lv' x V ∧ Fr base m w (w'.setCell ⟨p, 2, none⟩ lv') := by
  have hp' : w'.heap[p]? = some (.cells (dcells d m lv x) 64 (0, 0)) := (hk.block p h.plt (h.lg.not h.dk (by decide))).trans h.dk
  have hset := heap_setCell_at' w' p 2 lv' _ 64 (0, 0) hp'
  rw [dcells_set2] at hset
  have hks : Kept w' (w'.setCell ⟨p, 2, none⟩ lv') (fun q => q ≠ p) := Kept.set w' p 2 lv' fun hn => hn rfl
  have hkk : Kept w (w'.setCell ⟨p, 2, none⟩ lv') (fun q => q ≠ p ∧ lv.ownBlock ≠ some q) := (hk.imp fun q _ hq => hq.2).trans (hks.imp fun q _ hq => hq.1)
  refine ⟨h.log hkk (fun q h1 h2 => ⟨h1, h2⟩) lv' l' hset (hl.kept hks fun q e => by rintro rfl; exact hl.not hp' (by decide) e), ?_⟩
  exact ⟨hb.setCell (p := ⟨p, 2, none⟩) h.hp lv', hkk.imp fun q _ hq => h.foreign_log hq⟩
set_option maxRecDepth 100000 in
theorem forget_any (h : DK w base p d fs m lv x V) (nm : List UInt8) (k : Nat) (hl : ∀ r ∈ d.log, r.b.length = 16) (hn : d.log.length ≤ 1000000000) :
    Calls Tryz.prog 85 #[dp p, nmv nm, .int .i64 k] w fun e w' => e = .returned (.tuple #[]) ∧ (∃ lv', DK w' base p { d with log := Dk.forget d.log nm k } fs m lv' x V) ∧ Fr base m w w' := by
  have hb1 : Below w.heap.size w (w.alloc (.cells #[nmv nm] 9)) := (Below.refl _ _).alloc (Nat.le_refl _) _
  have hb2 : Below (w.alloc (.cells #[nmv nm] 9)).heap.size (w.alloc (.cells #[nmv nm] 9)) ((w.alloc (.cells #[nmv nm] 9)).alloc (.cells #[.int .i64 k] 3)) := (Below.refl _ _).alloc (Nat.le_refl _) _
  have hz1 : (w.alloc (.cells #[nmv nm] 9)).heap.size = w.heap.size + 1 := by simp
  have hb12 := hb1.trans (hb2.mono (by omega))
  have ha : ((w.alloc (.cells #[nmv nm] 9)).alloc (.cells #[.int .i64 k] 3)).heap[w.heap.size]? = some (.cells #[nmv nm] 9 (0, 0)) := (hb2.block _ (by omega)).trans (alloc_new w _)
  have hb : ((w.alloc (.cells #[nmv nm] 9)).alloc (.cells #[.int .i64 k] 3)).heap[w.heap.size + 1]? = some (.cells #[.int .i64 k] 3 (0, 0)) := by have := alloc_new (w.alloc (.cells #[nmv nm] 9)) (.cells #[.int .i64 k] 3); rwa [hz1] at this
  have h2 := h.below hb12
  have hpl := h.plt
  have hbs : base ≤ w.heap.size := by have := h.hp; omega
  have HC := hid (delf_any d.log lv nm k w.heap.size (w.heap.size + 1) base _ h2.lg ha hb hl hn (by simp; omega))
  obtain ⟨c0, c1, c2, c3, c4, c5⟩ := h2.cells
  have H2 := hid (And.intro h2 (And.intro hb12 hbs))
  have HH := hid h
  have hmf : ∀ (fn : Fn) (first cap : Array Value) (w : World), (Instr.makeFunc fn first cap).run Tryz.prog w = .ok (.func fn first cap) w := fun _ _ _ _ => rfl
  obtain ⟨oa, nn, cp, rfl⟩ := h.lg.sliceOf
  clear h h2 hb1 hb2 hb12 c0 c1 c3 c4 c5 ha hb hbs hz1
  go_enter Tryz.func85, Tryz.ntmps85
  go_wp2_with fail
  refine HC.out.mono ?_
  rintro e w3 ⟨v', rfl, ho, hk, hbl⟩
  obtain ⟨oa', nn', cp', rfl⟩ := ho.sliceOf
  have hp3 : w3.heap[p]? = some (.cells (dcells d m (.slice oa nn cp) x) 64 (0, 0)) := (hk.block p H2.out.1.plt (H2.out.1.lg.not H2.out.1.dk (by decide))).trans H2.out.1.dk
  have hc3 : w3.cell? ⟨p, 2, none⟩ = some (.slice oa nn cp) := by simp [World.cell?, hp3, dcells]
  have hf3 : w3.frozen? ⟨p, 2, none⟩ = false := by simp [World.frozen?, hp3]
  have hk0 : Kept w w3 (fun q => (Value.slice oa nn cp).ownBlock ≠ some q) := (Kept.of_below H2.out.2.1 fun _ h _ => h).trans hk
  have hbl0 : Below base w w3 := (H2.out.2.1.mono H2.out.2.2).trans hbl
  have HN := hid (HH.out.newLog hk0 hbl0 _ _ ho)
  clear hp3 hk0 hbl0 ho hk hbl c2
  go_wp2
  go_end0
  exact ⟨rfl, ⟨_, HN.out.1⟩, HN.out.2⟩
end
end Go.Proofs.YtmcllcepoiakeaaGreat.Dx
