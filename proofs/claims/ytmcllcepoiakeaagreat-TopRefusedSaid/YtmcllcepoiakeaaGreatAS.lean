import Derived.Test.YtmcllcepoiakeaaGreatTBL
import Derived.Test.YtmcllcepoiakeaaGreatT4
import Derived.Test.YtmcllcepoiakeaaGreatKE
import Derived.Test.YtmcllcepoiakeaaGreatMK
import Derived.Test.YtmcllcepoiakeaaGreatDH
import Derived.Deep.RegionLaw
set_option linter.unusedSimpArgs false
set_option linter.unusedVariables false
namespace Go.Proofs.YtmcllcepoiakeaaGreat
open Go.RowKit Go.Mx Go.Proofs.YtmcllcepoiakeaaGreat.Dx Go.Dk Go.Cnt Go.Proofs.YtmcllcepoiakeaaGreat.Cx
abbrev tA (sm : Int) : Tab := [[.zero, .zero, eA sm, .zero, .zero, .zero, .zero, .zero]]
theorem own1_cell {w : World} {base g c : Nat} {e : TypeId} {u : Value} (h : OwnG w base e 1 (.slice (some ⟨g, 0, none⟩) 1 c) [[u]]) : w.cell? ⟨g, 0, none⟩ = some u ∧ ∀ i, w.frozen? ⟨g, i, none⟩ = false := by
  obtain ⟨_, _, _, _, cur, hg, hs, ht⟩ := h.parts
  refine ⟨?_, fun i => fz_of hg i⟩
  rw [cell_of hg 0]
  rw [← Array.getElem?_toList]
  have := congrArg (fun l => l[0]?) ht
  simpa [List.getElem?_take] using this
theorem Tryz.info288 : (Tryz.prog.info? 288).map (fun i => (i.zero, i.size, i.bytes)) = some (some nilS, 1, 24) := by kernel_rfl
theorem cfE (g : Nat) (sm : Int) (w : World) (h : w.heap[g]? = some (.cells (leafC sm) 187 (0, 0))) : Calls Tryz.prog 177 #[.slice (some ⟨g, 0, none⟩) 8 8, .func (.func 178) #[] #[]] w fun e w' => e = .returned (.bool true) ∧ Below w.heap.size w w' := by
  go_enter Tryz.func177, Tryz.ntmps177
  go_wp2_with fail
  refine (idxE g sm _ h).mono ?_
  rintro e w1 ⟨rfl, hb⟩
  go_wp2_with fail
  go_ret
  exact ⟨rfl, hb⟩
theorem leaf_sle {w : World} {g : Nat} {sm : Int} (h : w.heap[g]? = some (.cells (leafC sm) 187 (0, 0))) : SlE w w.heap.size (.slice (some ⟨g, 0, none⟩) 8 8) [.zero, .zero, eA sm, .zero, .zero, .zero, .zero, .zero] :=
  (OwnG.make (base := 0) (c := 8) (s := 5) (rows := [Ent.zero, .zero, eA sm, .zero, .zero, .zero, .zero, .zero].map entC) (Nat.zero_le _) (by simp) (by decide) h rfl rfl (by simp [entC])).slG
theorem Tryz.info187 : (Tryz.prog.info? 187).map (fun i => (i.zero, i.size, i.bytes)) = some (some eZ, 5, 40) := by kernel_rfl
def leaf0 : Array Value := #[.int .i64 0, .int .i64 0, .int .i64 0, .int .i64 0, .int .u32 0, .int .i64 0, .int .i64 0, .int .i64 0, .int .i64 0, .int .u32 0, .int .i64 0, .int .i64 0, .int .i64 0, .int .i64 0, .int .u32 0, .int .i64 0, .int .i64 0, .int .i64 0, .int .i64 0, .int .u32 0, .int .i64 0, .int .i64 0, .int .i64 0, .int .i64 0, .int .u32 0, .int .i64 0, .int .i64 0, .int .i64 0, .int .i64 0, .int .u32 0, .int .i64 0, .int .i64 0, .int .i64 0, .int .i64 0, .int .u32 0, .int .i64 0, .int .i64 0, .int .i64 0, .int .i64 0, .int .u32 0]
theorem mk8 (w : World) : (Instr.makeSlice 288 (.int .i64 8) (.int .i64 8)).run Tryz.prog w = .ok (.slice (some ⟨w.heap.size, 0, none⟩) 8 8) (w.alloc (.cells leaf0 187)) := by
  obtain ⟨i, hi, h1, h2, h3⟩ := info_parts Tryz.info187
  have := run_make (P := Tryz.prog) w 288 187 i eZ Tryz.underlying288 hi h1 .i64 .i64 8 8 (by decide) (by decide) (by rw [h3]; decide) (by decide)
  rw [h2] at this
  rw [this, show madeCells eZ.cells (Int.toNat 8 * 5) = leaf0 by kernel_rfl]
  rfl
set_option maxRecDepth 100000 in
theorem set_A (sm : Int) (w : World) : Calls Tryz.prog 99 #[.agg #[nilS], .int .i64 2, eV sm] w fun e w' => ∃ tv, e = .returned (.agg #[tv]) ∧ (∀ W, Kept w' W (fun k => w.heap.size ≤ k) → IsTab W W.heap.size tv (tA sm)) ∧ Below w.heap.size w w' := by
  have HS := hid (((BL.nil w).new #[nilS] 90).new #[.int .i64 2, .int .i64 4, .int .i64 1, .int .i64 0, .int .u32 sm] 187 |>.new #[nilS] 90)
  have HB0 := hid (bel3 w (.cells #[nilS] 90) (.cells #[.int .i64 2, .int .i64 4, .int .i64 1, .int .i64 0, .int .u32 sm] 187) (.cells #[nilS] 90))
  go_enter Tryz.func99, Tryz.ntmps99
  go_wp2_with fail
  simp only [World.size_alloc] at HS
  generalize ((w.alloc (.cells #[nilS] 90)).alloc (.cells #[.int .i64 2, .int .i64 4, .int .i64 1, .int .i64 0, .int .u32 sm] 187)).alloc (.cells #[nilS] 90) = w0 at *
  refine (copied_nil _).mono ?_
  rintro e w1 ⟨rfl, hb⟩
  have HB1 := hid (belT HB0.out hb)
  have HB1L := hid hb.size
  have HS1 := hid ((HS.out.below hb).new #[nilS] 90)
  clear hb
  have k1 := fun i => cell_of HS1.out.tail.tail.head i
  have k2 := fun i => cell_of HS1.out.tail.tail.tail.head i
  go_wp2_with fail
  refine (anyR_A sm _).mono ?_
  rintro e w2 ⟨rfl, hb⟩
  have HB2 := hid (belT (HB1.out.trans ((bel1 _ _).mono HB1.out.size)) hb)
  have HB2L := hid (show w1.heap.size < w2.heap.size by have := hb.size; simp at this; omega)
  have HS2 := hid (HS1.out.below hb)
  clear hb k1 k2
  obtain ⟨nv, hnv⟩ : ∃ x : Value, x = nilS := ⟨_, rfl⟩
  have k1 : w2.cell? ⟨w1.heap.size, 0, none⟩ = some nv := by rw [hnv]; exact cell_of HS2.out.head 0
  have hln : ∀ w', (Builtin.len_ #[88] 3 #[nv]).run Tryz.prog w' = .ok (.int .i64 0) w' := fun w' => by rw [hnv]; exact len_sl Tryz.underlying88 rfl w'
  have hown : ∀ W, OwnG W w2.heap.size 288 1 nv [] := fun W => by rw [hnv]; exact OwnG.nil _ _ _ _
  have HNV := hid hnv
  clear hnv
  go_wp2_with fail
  refine wp_loop_rounds 2 ?_
  rw [rounds_succ]
  go_wp2_with (at_builtin; refine append_g _ rfl _ _ 88 288 nilS 1 24 rfl Tryz.underlying88 Tryz.info288 rfl (by decide) w2.heap.size _ [] rfl (hown _) w2.heap.size 1 [nilS] rfl rfl ?_ ?_ ?_ ?_ ?_ ?_)
  case refine_1 => intro j u hj; rw [cell_of (alloc_new w2 (.cells #[nilS] 288)) j]; simpa using hj
  case refine_2 => simp [Value.oneCell']
  case refine_3 => simp
  case refine_4 => simp
  case refine_5 => simp
  case refine_6 =>
    intro v' w3 ho hg hb
    have HS3 := hid (HS2.out.below (((bel1 w2 (.cells #[nilS] 288)).trans hb)))
    have HB3 := hid (HB2.out.trans (((bel1 w2 (.cells #[nilS] 288)).trans hb).mono HB2.out.size))
    obtain ⟨g, cp, rfl, hg0, hg1⟩ := (OwnG.shape ho).resolve_left (by simp)
    have HO := hid ho
    have HG := hid (And.intro hg0 hg1)
    clear ho hg hb hg0 hg1 k1 hown hln
    have k1 := cell_of HS3.out.head 0
    have f1 := fz_of HS3.out.head 0
    go_wp2_with fail
    have hz1 : w.heap.size + 3 ≤ w1.heap.size := by have h1 := blk_lt HS.out.head; have h2 := HB1L.out; omega
    have HS4 : Hid (BL ((w1.heap.size, #[.slice (some ⟨g, 0, none⟩) 1 cp], 90) :: (w.heap.size + 1 + 1, #[nilS], 90) :: (w.heap.size + 1, #[.int .i64 2, .int .i64 4, .int .i64 1, .int .i64 0, .int .u32 sm], 187) :: (w.heap.size, #[nilS], 90) :: []) (w3.setCell ⟨w1.heap.size, 0, none⟩ (.slice (some ⟨g, 0, none⟩) 1 cp))) :=
      hid (HS3.out.set (i := 0) _ (by intro x hx; simp at hx; rcases hx with rfl | rfl | rfl <;> simp <;> omega))
    have HB4 := hid (HB3.out.setCell (p := ⟨w1.heap.size, 0, none⟩) (by simp; omega) (.slice (some ⟨g, 0, none⟩) 1 cp))
    have HO4 := hid (HO.out.kept (Kept.set (N := fun k => k ≠ w1.heap.size) w3 w1.heap.size 0 (.slice (some ⟨g, 0, none⟩) 1 cp) fun h => h rfl) fun k hk => by cases hk; have h1 := HG.out.1; have h2 := HB2L.out; show g ≠ w1.heap.size; omega)
    have HZ4 := hid (show w2.heap.size < (w3.setCell ⟨w1.heap.size, 0, none⟩ (.slice (some ⟨g, 0, none⟩) 1 cp)).heap.size by have h1 := HG.out.1; have h2 := HG.out.2; simp; omega)
    clear k1 f1 HS3 HO
    generalize w3.setCell ⟨w1.heap.size, 0, none⟩ (.slice (some ⟨g, 0, none⟩) 1 cp) = w4 at *
    have k1 := cell_of HS4.out.head 0
    have k2 := fun i => cell_of HS4.out.tail.tail.head i
    have k3 := (own1_cell HO4.out).1
    have hmk := mk8 w4
    have HS5 := hid (HS4.out.new leaf0 187)
    simp only [leaf0] at hmk HS5
    have k5 := fun i => cell_of HS5.out.tail.tail.tail.head i
    have f5 := fun i => fz_of HS5.out.head i
    rw [rounds_succ]
    go_wp2_with fail
    have HS6 : Hid (BL ((w4.heap.size, leafC sm, 187) :: _) _) := hid (HS4.out.new (leafC sm) 187)
    have HB6 := hid (HB4.out.alloc HB4.out.size (.cells (leafC sm) 187))
    have HO6 := hid (HO4.out.below (bel1 w4 (.cells (leafC sm) 187)) (Nat.le_refl _))
    clear k1 k2 k3 hmk HS5 k5 f5
    simp only [leafC] at HS6 HB6 HO6
    generalize w4.alloc _ = w6 at *
    refine (cfE w4.heap.size sm _ HS6.out.head).mono ?_
    rintro e w7 ⟨rfl, hb⟩
    have HS7 := hid (HS6.out.below hb)
    have HB7 := hid (HB6.out.trans (hb.mono HB6.out.size))
    have HO7 := hid (HO6.out.below hb (Nat.le_refl _))
    clear hb HS6
    have hz7 : w2.heap.size ≤ w4.heap.size ∧ w1.heap.size < g ∧ g ≠ w4.heap.size ∧ w.heap.size + 3 < g ∧ w.heap.size + 3 ≤ w4.heap.size := by have h1 := HG.out.1; have h2 := HB2L.out; have h3 := blk_lt HS4.out.head; have h4 := HZ4.out; have h5 := HO4.out.lt g rfl; omega
    have HS8 : Hid (BL ((w4.heap.size, leafC sm, 187) :: _) _) := hid (HS7.out.other (k := g) (i := 0) (.slice (some ⟨w4.heap.size, 0, none⟩) 8 8) (by intro x hx; simp at hx; rcases hx with rfl | rfl | rfl | rfl | rfl <;> simp <;> omega))
    have HB8 := hid (HB7.out.setCell (p := ⟨g, 0, none⟩) (by simp; omega) (.slice (some ⟨w4.heap.size, 0, none⟩) 8 8))
    have HO8 : Hid (OwnG (w7.setCell ⟨g, 0, none⟩ (.slice (some ⟨w4.heap.size, 0, none⟩) 8 8)) w2.heap.size 288 1 (.slice (some ⟨g, 0, none⟩) 1 cp) [[.slice (some ⟨w4.heap.size, 0, none⟩) 8 8]]) := hid (HO7.out.setAt 0 [.slice (some ⟨w4.heap.size, 0, none⟩) 8 8] (by simp) rfl)
    have k1 := cell_of HS7.out.tail.head 0
    have k3 := (own1_cell HO7.out).1
    have f3 := (own1_cell HO7.out).2
    have k8 := cell_of HS8.out.tail.head 0
    have k9 := (own1_cell HO8.out).1
    have f8 := fz_of HS8.out.tail.tail.head 0
    have k8b := cell_of HS8.out.tail.tail.head 0
    have HW8 := hid hz7
    clear hz7 hz1
    go_wp2_with fail
    refine wp_loop_once ?_
    go_wp2_with fail
    have h9 := heap_setCell_at' _ (w.heap.size + 1 + 1) 0 (.slice (some ⟨g, 0, none⟩) 1 cp) _ _ _ HS8.out.tail.tail.head
    have hk := fun i => cell_of h9 i
    have hl9 := ((BL.cons HS8.out.head (BL.nil _)).other (k := w.heap.size + 1 + 1) (i := 0) (.slice (some ⟨g, 0, none⟩) 1 cp) (by intro x hx; simp at hx; subst hx; have h1 := HW8.out; show w4.heap.size ≠ _; omega)).head
    have ho9 := HO8.out.kept (Kept.set (N := fun k => k ≠ w.heap.size + 1 + 1) _ (w.heap.size + 1 + 1) 0 (.slice (some ⟨g, 0, none⟩) 1 cp) fun h => h rfl) fun k hk => by cases hk; have h1 := HW8.out; show g ≠ _; omega
    refine bodyPost_ret (v := .agg #[.slice (some ⟨g, 0, none⟩) 1 cp]) (by simp [results, Tryz.results99, go_sem, hk]) rfl ⟨_, rfl, fun W hK => ⟨[.slice (some ⟨w4.heap.size, 0, none⟩) 8 8], rfl, (ho9.kept hK fun k hk => by cases hk; have h1 := HW8.out; show w.heap.size ≤ g; omega).slG, ?_⟩, HB8.out.setCell (p := ⟨w.heap.size + 1 + 1, 0, none⟩) (by simp; omega) _⟩
    intro i hi
    obtain rfl : i = 0 := by simp at hi; exact hi
    exact leaf_sle ((hK.block _ (blk_lt hl9) (by have h1 := HW8.out; show w.heap.size ≤ w4.heap.size; omega)).trans hl9)
theorem clone236 (w : World) : Calls Tryz.prog 236 #[nilS] w fun e w' => e = .returned nilS ∧ w = w' := by
  have hq : ∀ w', (binOp .eql 308 nilS nilS).run Tryz.prog w' = .ok (.bool true) w' := fun w' => run_eql_nil_slice w' 308 353 none 0 0 0 0 Tryz.underlying308
  go_enter Tryz.func236, Tryz.ntmps236
  go_wp2
  go_ret
  exact ⟨rfl, rfl⟩
theorem astore (b : Nat) (x y : Int) (w : World) (hc : w.cell? ⟨b, 1, none⟩ = some (.int .i64 x)) (hz : w.frozen? ⟨b, 1, none⟩ = false) : Calls Tryz.prog 237 #[.pointer (some ⟨b, 1, none⟩), .int .i64 y] w fun e w' => e = .returned (.tuple #[]) ∧ w' = w.setCell ⟨b, 1, none⟩ (.int .i64 y) := by
  have hadd := run_call_store (P := Tryz.prog) Tryz.func266 (by kernel_rfl) (by kernel_rfl) (by kernel_rfl) (by kernel_rfl) (k := .i64) (y := y) hc hz
  go_enter Tryz.func237, Tryz.ntmps237
  go_wp2
  go_end0
  exact ⟨rfl, rfl⟩
def IC (k b : Nat) (w W : World) : Prop := Below w.heap.size w W ∧ BL [(b, #[nilS, .int .i64 0], 310), (k, #[nilS, .int .i64 0], 310)] W
theorem IC.drew {k b : Nat} {w W : World} (h : IC k b w W) : IC k b w W.drew := ⟨h.1.drew, h.2⟩
theorem IC.set {k b : Nat} {w W : World} (h : IC k b w W) (hb : w.heap.size ≤ b) (hk : k < b) : IC k b w (W.setCell ⟨b, 1, none⟩ (.int .i64 0)) := ⟨h.1.setCell (p := ⟨b, 1, none⟩) hb _, BL.set (i := 1) h.2 _ (by intro x hx; simp at hx; subst hx; exact Nat.ne_of_lt hk)⟩
theorem icopy (k : Nat) (w : World) (h : w.heap[k]? = some (.cells #[nilS, .int .i64 0] 310 (0, 0))) : Calls Tryz.prog 184 #[dp k] w fun e w' => ∃ k', e = .returned (dp k') ∧ w.heap.size ≤ k' ∧ Below w.heap.size w w' := by
  have hk := fun i => cell_of h i
  have hlt := blk_lt h
  have HC : IC k w.heap.size w (w.alloc (.cells #[nilS, .int .i64 0] 310)) := ⟨bel1 _ _, BL.new (BL.cons h (BL.nil _)) _ _⟩
  clear h
  have HL : Hid (∀ W, IC k w.heap.size w W → Calls Tryz.prog 238 #[.pointer (some ⟨k, 1, none⟩)] W fun e w' => e = .returned (.int .i64 0) ∧ w' = W) := hid fun W hW => aload k 1 0 W (cell_of hW.2.tail.head 1)
  have HT : Hid (∀ W, IC k w.heap.size w W → Calls Tryz.prog 237 #[.pointer (some ⟨w.heap.size, 1, none⟩), .int .i64 0] W fun e w' => e = .returned (.tuple #[]) ∧ w' = W.setCell ⟨w.heap.size, 1, none⟩ (.int .i64 0)) := hid fun W hW => astore _ 0 0 W (cell_of hW.2.head 1) (fz_of hW.2.head 1)
  go_enter Tryz.func184, Tryz.ntmps184
  go_wp2_with fail
  refine (clone236 _).mono ?_
  rintro e w1 ⟨rfl, rfl⟩
  go_wp2_with fail
  generalize w.alloc (.cells #[nilS, .int .i64 0] 310) = w1 at *
  go_region_held3 (fun W => IC k w.heap.size w W) (first | with_reducible assumption | (solve | (repeat (first | with_reducible assumption | with_reducible refine IC.drew ?_ | with_reducible refine IC.set ?_ ?_ ?_ | with_reducible exact Nat.le_refl _)))) (first
    | (go_at_call 237; refine (HT.out _ (by with_reducible assumption)).mono ?_; rintro e w9 ⟨rfl, rfl⟩)
    | (go_at_call 238; refine (HL.out _ (by with_reducible assumption)).mono ?_; rintro e w9 ⟨rfl, rfl⟩))
  have HE := hid (HC.set (Nat.le_refl _) hlt).1.drew
  go_wp2_with fail
  go_ret
  exact ⟨_, rfl, Nat.le_refl _, HE.out⟩
theorem ifind (k : Nat) (bs : List UInt8) (bv : Value) (w : World) (h : w.heap[k]? = some (.cells #[nilS, .int .i64 0] 310 (0, 0))) (hb : SlB w w.heap.size bv bs) (hlen : bs.length ≤ 1000000000) : Calls Tryz.prog 263 #[dp k, bv] w fun e w' => e = .returned nilS ∧ Below w.heap.size w w' := by
  have hk := fun i => cell_of h i
  have HF := hid (Kx.finger_any bs bv w hb hlen)
  obtain ⟨oa, nn, c, rfl⟩ := slB_shape hb
  clear h hb
  go_enter Tryz.func263, Tryz.ntmps263
  go_wp2_with fail
  refine HF.out.mono ?_
  rintro e w1 ⟨rfl, rfl⟩
  go_wp2_with fail
  refine wp_loop_once ?_
  go_wp2_with fail
  go_ret
  exact ⟨rfl, Below.refl _ _⟩
theorem nz262 (b : UInt8) (h : b ≠ 0) (w : World) : Calls Tryz.prog 262 #[.int .u8 b.toNat] w fun e w' => e = .returned (.bool true) ∧ w = w' := by
  have t : (((b.toNat : Int)) != 0) = true := by
    have : b.toNat ≠ 0 := fun e => h (UInt8.toNat_inj.1 (by simpa using e))
    simp; omega
  clear h
  go_enter Tryz.func262, Tryz.ntmps262
  go_wp2_with fail
  go_ret
  exact ⟨rfl, rfl⟩
set_option maxRecDepth 100000 in
theorem idx224 (b : UInt8) (bs : List UInt8) (h : b ≠ 0) (bv : Value) (w : World) (hb : SlB w w.heap.size bv (b :: bs)) (hl : bs.length ≤ 1000000) : Calls Tryz.prog 224 #[bv, .func (.func 262) #[] #[]] w fun e w' => e = .returned (.int .i64 0) ∧ w = w' := by
  have hlen := fun w' => hb.len (P := Tryz.prog) (ty := 3) Tryz.underlying26 w'
  obtain ⟨bb, bo, hbb, hia, hc⟩ := hb.addr (P := Tryz.prog) Tryz.underlying26 (fun w => by kernel_rfl) 0 (by simp)
  obtain ⟨oa, nn, c, rfl⟩ := slB_shape hb
  simp only [List.getD_cons_zero] at hc
  have hia : (Instr.indexAt 26 (.slice oa nn c) (.int .i64 0)).run Tryz.prog w = .ok (.pointer (some ⟨bb, bo, none⟩)) w := hia w .i64
  have t0 : decide (0 < (b :: bs).length) = true := by simp
  generalize (b :: bs).length = N at *
  have HL := hid (nz262 b h w)
  clear hb
  go_enter Tryz.func224, Tryz.ntmps224
  go_wp2_with fail
  refine wp_loop_once ?_
  go_wp2_with fail
  refine HL.out.mono ?_
  rintro e w1 ⟨rfl, rfl⟩
  go_wp2_with fail
  go_ret
  exact ⟨rfl, rfl⟩
theorem con156 (b : UInt8) (bs : List UInt8) (h : b ≠ 0) (bv : Value) (w : World) (hb : SlB w w.heap.size bv (b :: bs)) (hl : bs.length ≤ 1000000) : Calls Tryz.prog 156 #[bv, .func (.func 262) #[] #[]] w fun e w' => e = .returned (.bool true) ∧ w = w' := by
  have HL := hid (idx224 b bs h bv w hb hl)
  clear hb
  go_enter Tryz.func156, Tryz.ntmps156
  go_wp2_with fail
  refine HL.out.mono ?_
  rintro e w1 ⟨rfl, rfl⟩
  go_wp2_with fail
  go_ret
  exact ⟨rfl, rfl⟩
def imX (p : Nat) (nm : List UInt8) (tv hv : Value) (s : Nat) (ch : Bool) (kn rd : Value) (ask : Int) : Array Value :=
  #[dp p, nmv nm, .int .i64 0, .int .i64 4, nmv [], tv, nilS, nilS, nilS, .int .i64 0, .int .i64 4, nmv [], nilS, nilS, nilS, nilS, hv, .int .i64 1, .int .i64 2, .int .i64 21, .int .u32 s, .bool ch, kn, rd, .int .i64 ask]
theorem Tryz.isnil (a1 a2 a3 : Value) (w : World) : True := trivial
theorem entries_nil {w : World} {q p s : Nat} {nm : List UInt8} {hv kn rd : Value} {ch : Bool} {ask : Int} (h : w.heap[q]? = some (.cells (imX p nm nilS hv s ch kn rd ask) 142 (0, 0))) :
    Calls Tryz.prog 196 #[dp q] w fun e w' => ∃ m, e = .returned (.map (some m)) ∧ Below w.heap.size w w' := by
  have hmm := @run_makeMap Tryz.prog
  have hb1 := bel1 w (.map #[] 0)
  have hk := fun i => cell_of ((hb1.block _ (blk_lt h)).trans h) i
  simp only [imX] at hk
  clear h
  go_enter Tryz.func196, Tryz.ntmps196
  go_wp2_with fail
  have hea := hid (each_any (.int .i64 0) (.int .i64 4) (nmv []) nilS nilS nilS nilS [] [] (w.alloc (.map #[] 0)) ⟨[], rfl, SlG.nil _ _ _, fun i hi => absurd hi (by simp)⟩ ⟨[], rfl, SlG.nil _ _ _, fun i hi => absurd hi (by simp)⟩ (by simp) (by simp) (by simp))
  refine hea.out.mono ?_
  rintro e w1 ⟨v, rfl, ho, hb⟩
  have hln := fun w' => (ho.slL.len w' (ty := 3))
  have e0 : (eachM [] []).length = 0 := by simp [eachM, eachTo, linesT, linesTo]
  rw [e0] at hln
  have HB := hid (bel1' hb)
  clear hb ho hb1 hea hk e0
  go_wp2_with fail
  refine wp_loop_once ?_
  go_wp2_with fail
  go_ret
  exact ⟨_, rfl, HB.out⟩
end Go.Proofs.YtmcllcepoiakeaaGreat
namespace Go.Mx
open Go.RowKit
theorem flatten_inv {α} (s : Nat) (hs : 0 < s) : ∀ (rows : List (List α)) (j : Nat) (u : α), (∀ r ∈ rows, r.length = s) → rows.flatten[j]? = some u → j / s < rows.length ∧ (rows.getD (j / s) [])[j % s]? = some u
  | [], j, u, _, h => by simp at h
  | r :: rows, j, u, hr, h => by
    have h1 : r.length = s := hr r (by simp)
    rw [List.flatten_cons] at h
    by_cases hj : j < s
    · rw [List.getElem?_append_left (by omega)] at h
      rw [Nat.div_eq_of_lt hj, Nat.mod_eq_of_lt hj]
      exact ⟨by simp, by simpa using h⟩
    · rw [List.getElem?_append_right (by omega), h1] at h
      have ih := flatten_inv s hs rows (j - s) u (fun q hq => hr q (by simp [hq])) h
      have e1 : j / s = (j - s) / s + 1 := by
        have h9 : j - s + s = j := by omega
        have h8 := Nat.add_div_right (j - s) hs
        rw [h9] at h8; exact h8
      have e2 : j % s = (j - s) % s := by
        have h9 : j - s + s = j := by omega
        have h8 := Nat.add_mod_right (j - s) s
        rw [h9] at h8; exact h8
      rw [e1, e2]
      exact ⟨by simpa using ih.1, by simpa using ih.2⟩
/-- 'append(out, xs...)' of rows that can be read, at one operation of a drawn region -/
theorem step_append_sg {P : Program} (w : World) {ops : Array Oper} {o : Oper} {a : Act} {K : Act → World → Prop} {Q : Exit → Act → World → Prop} {E : Prop} (hgd : o.guard = none) (s x : Operand) (t e : TypeId) (z : Value) (sz bytes : Nat)
    (ho : o.op = .call { callee := .builtin .append, args := #[s, x], argTypes := #[t, t] })
    (ht : P.underlying t = some (.slice e)) (hi : (P.info? e).map (fun i => (i.zero, i.size, i.bytes)) = some (some z, sz, bytes)) (hz : z.cells.size = sz) (hsz : 0 < sz)
    (base : Nat) (v : Value) (rows : List (List Value)) (hs : a.eval s = v) (hown : OwnG w base e sz v rows) (B : Nat) (v2 : Value) (rows2 : List (List Value)) (hx : a.eval x = v2) (hsl : SlG w B sz v2 rows2) (hrl : ∀ r ∈ rows2, r.length = sz)
    (hone : ∀ r ∈ rows2, ∀ u ∈ r, u.oneCell' = true)
    (hlen : (rows.length + rows2.length) * bytes ≤ 140737488355328) (hlen2 : rows.length + rows2.length ≤ 140737488355328) (hB : base ≤ w.heap.size)
    (h : ∀ v' w', OwnG w' base e sz v' (rows ++ rows2) → w.grownBy w' v.ownBlock → Below base w w' → K (a.put o.dst v') w') : if Region.wanted o (yielded ops a.tmps) = true then Oper.wp P o a w K Q else E := by
  have hw : Region.wanted o (yielded ops a.tmps) = true := by simp [Region.wanted, hgd]
  rw [if_pos hw]
  obtain ⟨i0, hi0, hz0, hz1, hz2⟩ := info_parts hi
  obtain ⟨oa, cap, rfl, h1, h2, h3⟩ := hsl
  cases oa with
  | none =>
    have hb : rows2 = [] := by
      cases rows2 with
      | nil => rfl
      | cons y r => obtain ⟨_, _, hh, _⟩ := h3 (by simp); cases hh
    subst hb
    have hrun := run_append_nosrc (P := P) (w := w) (ty := o.type) ht hi0 hown.1 cap
    unfold Oper.wp
    simp [execOp, ho, resolve, invoke, builtin, hs, hx, hrun, Result.andThen]
    exact h v w (by simpa using hown) (World.grownBy.refl w _) (Below.refl _ _)
  | some ad =>
    refine wp_append_own w s x t ho base e i0 _ sz bytes ht hi0 hz0 hz1 hz2 hz hsz v rows.length _ hs hown.1 ad rows2.length cap rows2.flatten hx (flat_len _ hrl) ?_ ?_ ?_ hlen hB ?_
    · intro j u hj
      obtain ⟨k1, k2⟩ := flatten_inv sz hsz rows2 j u hrl hj
      obtain ⟨bb, bo, hh, _, hrd⟩ := h3 (by rintro rfl; simp at k1)
      cases hh
      have := hrd (j / sz) k1 (j % sz) u k2
      have e : (⟨bb, bo, none⟩ : Addr).add j = ⟨bb, bo + (j / sz) * sz + j % sz, none⟩ := by
        have h9 := Nat.div_add_mod j sz
        rw [Nat.mul_comm] at h9
        unfold Addr.add
        split <;> simp_all <;> omega
      rw [e]; exact this
    · intro u hu
      obtain ⟨r, hr, hu⟩ := List.mem_flatten.1 hu
      exact hone r hr u hu
    · unfold maxLen; omega
    · intro v' w' ho' hg' _
      refine h v' w' ⟨by simpa using ho', ?_⟩ hg' ((Below.refl base w).grown hg' hB (fun k hk => (World.ownsRow.lt hown.1 k hk).1))
      intro r hr
      rcases List.mem_append.1 hr with hr | hr
      · exact hown.2 r hr
      · exact hrl r hr
/-- 'append(out, xs...)' of rows that can be read -/
theorem append_sg {P : Program} (w : World) {ops : Array Oper} {rest : List Oper} {o : Oper} {a : Act} {Q : Exit → Act → World → Prop} (hgd : o.guard = none) (s x : Operand) (t e : TypeId) (z : Value) (sz bytes : Nat)
    (ho : o.op = .call { callee := .builtin .append, args := #[s, x], argTypes := #[t, t] })
    (ht : P.underlying t = some (.slice e)) (hi : (P.info? e).map (fun i => (i.zero, i.size, i.bytes)) = some (some z, sz, bytes)) (hz : z.cells.size = sz) (hsz : 0 < sz)
    (base : Nat) (v : Value) (rows : List (List Value)) (hs : a.eval s = v) (hown : OwnG w base e sz v rows) (B : Nat) (v2 : Value) (rows2 : List (List Value)) (hx : a.eval x = v2) (hsl : SlG w B sz v2 rows2) (hrl : ∀ r ∈ rows2, r.length = sz)
    (hone : ∀ r ∈ rows2, ∀ u ∈ r, u.oneCell' = true)
    (hlen : (rows.length + rows2.length) * bytes ≤ 140737488355328) (hlen2 : rows.length + rows2.length ≤ 140737488355328) (hB : base ≤ w.heap.size)
    (h : ∀ v' w', OwnG w' base e sz v' (rows ++ rows2) → w.grownBy w' v.ownBlock → Below base w w' → wpList P ops Q rest (a.put o.dst v') w') : wpList P ops Q (o :: rest) a w := by
  refine wpList_plain hgd fun K hK => ?_
  have := step_append_sg (P := P) (ops := #[]) (E := True) (Q := Q) w (o := o) (a := a) (K := K) hgd s x t e z sz bytes ho ht hi hz hsz base v rows hs hown B v2 rows2 hx hsl hrl hone hlen hlen2 hB (fun v' w' h1 h2 h3 => hK _ _ (h v' w' h1 h2 h3))
  rwa [if_pos (show Region.wanted o (yielded #[] a.tmps) = true by simp [Region.wanted, hgd])] at this
end Go.Mx
