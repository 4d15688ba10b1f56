import Derived.Test.YtmcllcepoiakeaaGreatAS
import Derived.Test.YtmcllcepoiakeaaGreatTBL
set_option linter.unusedSimpArgs false
set_option linter.unusedVariables false
namespace Go.Proofs.YtmcllcepoiakeaaGreat
open Go.RowKit Go.Mx Go.Proofs.YtmcllcepoiakeaaGreat.Dx Go.Dk Go.Cnt Go.Proofs.YtmcllcepoiakeaaGreat.Cx
def emC : List Value := [.int .i64 0, .int .i64 4, nmv [], nilS, nilS, nilS, nilS]
theorem Tryz.info95 : (Tryz.prog.info? 95).map (fun i => (i.zero, i.size, i.bytes)) = some (some (.agg #[.int .i64 0, .int .i64 0, .string ⟨#[]⟩, nilS, nilS, nilS, nilS]), 7, 128) := by kernel_rfl
theorem size95 : ∀ w, (sizeOf 95).run Tryz.prog w = .ok 7 w := fun w => by kernel_rfl
def uO (j : Nat) : List Int := [1 + j, 1 + j, 0, 0]
def uI (j k : Nat) : List Int := [if 0 < k then 2 + j else 1 + j, if 1 < k then 2 + j else 1 + j, 0, 0]
def uT (k : Nat) : List Int := [3, 3, if 2 < k then 1 else 0, if 3 < k then 1 else 0]
set_option maxRecDepth 100000 in
set_option maxHeartbeats 2000000 in
theorem used_any {w : World} {base p m room L i q s : Nat} {fl : FL} {nm : List UInt8} {hv kn rd : Value} {ch : Bool} {ask : Int} (hd : HG w base p m room fl L) (hi : fl[i]? = some (nm, 4)) (hnl : nm.length ≤ 16)
    (h : w.heap[q]? = some (.cells (imX p nm nilS hv s ch kn rd ask) 142 (0, 0))) (hh : SlG w w.heap.size 7 hv [emC]) :
    Calls Tryz.prog 284 #[dp q] w fun e w' => ∃ v, e = .returned v ∧ OwnI w' w.heap.size v [3, 3, 1, 1] ∧ Below w.heap.size w w' := by
  have HS := hid (fun W (hW : Below w.heap.size w W) => size_G (hd.below hW) hi (by unfold maxLen; omega))
  have Y : ∀ W, Below w.heap.size w W → ∀ j, W.cell? ⟨q, j, none⟩ = (imX p nm nilS hv s ch kn rd ask)[j]? := fun W hW j => cell_of ((hW.block _ (blk_lt h)).trans h) j
  simp only [imX] at Y
  have HH := hid hh
  have HYY := hid Y
  obtain ⟨ha, hn, hc, rfl⟩ := slG_sh hh
  clear hd hi h hh
  go_enter Tryz.func284, Tryz.ntmps284
  go_wp2_with fail
  go_region_held3 (fun W => Below w.heap.size w W) (first | with_reducible assumption | with_reducible exact (Below.refl _ _).drew | with_reducible exact Below.drew (by with_reducible assumption)) (first
    | (go_at_call 42; refine (HS.out _ (by with_reducible assumption)).mono ?_; rintro e w9 ⟨rfl, rfl⟩))
  go_wp2_with fail
  refine (of_em [] nilS 4 (by omega) _).mono ?_
  rintro e w2 ⟨ov, rfl, ho, hb⟩
  have hb2 : Below w.heap.size w w2 := (Below.refl _ _).drew.trans hb
  have ho : OwnI w2 w.heap.size ov (c2 4) := ho
  have HB2 := hid (And.intro hb2 ho)
  obtain ⟨g, uc, rfl, hg3, hgc, hgm⟩ := ownI_shape ho (by simp [c2])
  simp only [c2_len]
  have HG := hid hg3
  have Y2 := HYY.out w2 hb2
  have Y2' := fun A : Obj => HYY.out (w2.alloc A) (hb2.alloc hb2.size A)
  have Y2'' := fun A : Obj => HYY.out (w2.alloc A).drew (hb2.alloc hb2.size A).drew
  have hown : OwnG (w2.alloc (.cells #[.int .i64 0, .int .i64 4, nmv [], nilS, nilS, nilS, nilS] 95)).drew w2.heap.size 95 7 (.slice (some ⟨w2.heap.size, 0, none⟩) 1 1) [emC] := OwnG.make (rows := [emC]) (Nat.le_refl _) (by simp) (by decide) (alloc_drew w2 _) rfl rfl (by simp [emC])
  have hsl : SlG (w2.alloc (.cells #[.int .i64 0, .int .i64 4, nmv [], nilS, nilS, nilS, nilS] 95)).drew w.heap.size 7 (.slice ha hn hc) [emC] := HH.out.below (hb2.alloc hb2.size _).drew (Nat.le_refl _)
  have hrl : ∀ r ∈ [emC], r.length = 7 := by simp [emC]
  have hone : ∀ r ∈ [emC], ∀ u ∈ r, u.oneCell' = true := by simp [emC, Value.oneCell']
  have hbA : w2.heap.size ≤ (w2.alloc (.cells #[.int .i64 0, .int .i64 4, nmv [], nilS, nilS, nilS, nilS] 95)).drew.heap.size := by show _ ≤ (w2.alloc _).heap.size; simp
  clear Y ho hg3 hgc hgm hb hb2
  go_wp2_with fail
  go_cut [38, 39, 40] from 41 (fun s38 s39 s40 wx => ∃ (a : Nat) (c : Nat), s38 = .slice (some ⟨a, 0, none⟩) 2 c ∧ s39 = .int .i64 2 ∧ s40 = .int .i64 0 ∧ Hid (OwnG wx w2.heap.size 95 7 (.slice (some ⟨a, 0, none⟩) 2 c) [emC, emC] ∧ Below w2.heap.size w2 wx))
  case first =>
    go_region_law (refine step_append_sg _ (by rfl) (.tmp 33) (.tmp 37) 138 95 _ 7 128 rfl Tryz.underlying138 Tryz.info95 rfl (by decide) w2.heap.size _ [emC] (by rfl) hown w.heap.size (.slice ha hn hc) [emC] (by rfl) hsl hrl hone (by decide) (by decide) hbA ?_; intro v1 w5 ho5 hg5 hb5; have hb25 := (bel1 w2 _).drew.trans hb5; obtain ⟨g5, c5, rfl, h51, h52⟩ := (OwnG.shape ho5).resolve_left (by simp))
    all_goals
      go_wp2_with fail
      go_meet
    case rel => exact ⟨g5, c5, rfl, rfl, rfl, hid ⟨ho5, hb25⟩⟩
    case rel => exact ⟨g5, c5, rfl, rfl, rfl, hid ⟨ho5, hb25⟩⟩
    case rel => exact ⟨g5, c5, rfl, rfl, rfl, hid ⟨ho5, hb25⟩⟩
  case rest =>
    obtain ⟨a, c, rfl, rfl, rfl, hA⟩ := hcut
    have HR0 := hid (show OwnI wc w.heap.size (.slice (some ⟨g, 0, none⟩) 4 uc) (uO 0) ∧ OwnG wc w2.heap.size 95 7 (.slice (some ⟨a, 0, none⟩) 2 c) [emC, emC] ∧ Below w.heap.size w wc from ⟨HB2.out.2.below hA.out.2 (Nat.le_refl _), hA.out.1, HB2.out.1.trans (hA.out.2.mono HB2.out.1.size)⟩)
    have HGA := hid (show g < w2.heap.size ∧ g < a from ⟨HB2.out.2.lt g rfl, by have h1 := HB2.out.2.lt g rfl; have h2 := hA.out.1.ge a rfl; omega⟩)
    clear Y2 Y2' Y2'' hown hsl hrl hone hbA hA
    go_wp2_with fail
    go_loopw [40] (fun s40 wr => ∃ j : Nat, j ≤ 2 ∧ s40 = .int .i64 j ∧ Hid (OwnI wr w.heap.size (.slice (some ⟨g, 0, none⟩) 4 uc) (uO j) ∧ OwnG wr w2.heap.size 95 7 (.slice (some ⟨a, 0, none⟩) 2 c) [emC, emC] ∧ Below w.heap.size w wr)) (fun s40 _ => 2 - (intOf s40).toNat)
    case atStart => exact ⟨0, by omega, rfl, HR0⟩
    case round =>
      obtain ⟨j, hj, rfl, hR⟩ := hrel
      by_cases hlt : j < 2
      · obtain ⟨bb, bo, hbb, hia, hcell⟩ := hR.out.2.1.slG.addr (P := Tryz.prog) Tryz.underlying138 size95 j (by simpa using hlt)
        have hia := fun w' => hia w' .i64
        rw [show ([emC, emC] : List (List Value)).getD j [] = emC by match j, hlt with | 0, _ => rfl | 1, _ => rfl] at hcell
        have c0 : wr.cell? ⟨bb, bo, none⟩ = some (.int .i64 0) := hcell 0 _ rfl
        have c1 : wr.cell? ⟨bb, bo + 1, none⟩ = some (.int .i64 4) := hcell 1 _ rfl
        have c2' : wr.cell? ⟨bb, bo + 2, none⟩ = some (nmv []) := hcell 2 _ rfl
        have c3 : wr.cell? ⟨bb, bo + 3, none⟩ = some (nilS) := hcell 3 _ rfl
        have c4 : wr.cell? ⟨bb, bo + 4, none⟩ = some (nilS) := hcell 4 _ rfl
        have c5 : wr.cell? ⟨bb, bo + 5, none⟩ = some (nilS) := hcell 5 _ rfl
        have c6 : wr.cell? ⟨bb, bo + 6, none⟩ = some (nilS) := hcell 6 _ rfl
        obtain ⟨wo, hwo⟩ : ∃ x, x = wr := ⟨_, rfl⟩
        subst hwo
        clear hcell
        go_wp2_with fail
        have HM := hid (of_em [] nilS 4 (by omega) (wo.alloc (.cells #[.int .i64 0, .int .i64 4, nmv [], nilS, nilS, nilS, nilS] 95)))
        refine HM.out.mono ?_
        rintro e w6 ⟨v6, rfl, ho6, hb6⟩
        have hb6' := bel1' hb6
        have hln6 := fun ty w' => SlI.len (P := Tryz.prog) (ty := ty) ho6.slI Tryz.underlying93 w'
        rw [c2_len] at hln6
        have HR6 := hid (show OwnI w6 w.heap.size (.slice (some ⟨g, 0, none⟩) 4 uc) (uI j 0) ∧ OwnG w6 w2.heap.size 95 7 (.slice (some ⟨a, 0, none⟩) 2 c) [emC, emC] ∧ Below w.heap.size w w6 ∧ OwnI w6 (wo.heap.size + 1) v6 (c2 4) from ⟨hR.out.1.below hb6' (Nat.le_refl _), hR.out.2.1.below hb6' (Nat.le_refl _), hR.out.2.2.trans (hb6'.mono hR.out.2.2.size), by have h := ho6; rw [World.size_alloc] at h; exact h⟩)
        obtain ⟨va, vn, vc, rfl⟩ := slG_sh ho6.slI
        clear c0 c1 c2' c3 c4 c5 c6 HM hb6 hb6' ho6 hia
        go_wp2_with fail
        have HGO := hid (show g < wo.heap.size from hR.out.1.lt g rfl)
        go_loopw [48] (fun s48 wr => ∃ k : Nat, k ≤ 4 ∧ s48 = .int .i64 k ∧ Hid (OwnI wr w.heap.size (.slice (some ⟨g, 0, none⟩) 4 uc) (uI j k) ∧ OwnG wr w2.heap.size 95 7 (.slice (some ⟨a, 0, none⟩) 2 c) [emC, emC] ∧ Below w.heap.size w wr ∧ OwnI wr (wo.heap.size + 1) (.slice va vn vc) (c2 4))) (fun s48 _ => 4 - (intOf s48).toNat)
        case atStart => exact ⟨0, by omega, rfl, HR6⟩
        case round =>
          obtain ⟨k, hk, rfl, hK⟩ := hrel
          by_cases hlk : k < 4
          · obtain ⟨b0, o0, hb0, hi0, hc0⟩ := hK.out.2.2.2.slI.addr (P := Tryz.prog) Tryz.underlying93 size3 k (by rw [c2_len]; exact hlk)
            have hi0 := fun w' => hi0 w' .i64
            have hc1 := hK.out.1.at k (by simp [uI]; omega)
            have hfz := OwnV.fz hK.out.1 k
            obtain ⟨xo, hxo⟩ : ∃ x, x = (uI j k).getD k 0 := ⟨_, rfl⟩
            obtain ⟨xc, hxc⟩ : ∃ x, x = (c2 4).getD k 0 := ⟨_, rfl⟩
            have hset := hK.out.1.set k (xo + xc) (by simp [uI]; omega)
            have hlist : (uI j k).set k (xo + xc) = uI j (k + 1) ∧ 0 ≤ xo ∧ xo ≤ 3 ∧ 0 ≤ xc ∧ xc ≤ 1 := by
              have hj2 : j = 0 ∨ j = 1 := by omega
              subst hxo hxc
              rcases hj2 with rfl | rfl <;> match k, hlk with
              | 0, _ => decide
              | 1, _ => decide
              | 2, _ => decide
              | 3, _ => decide
            rw [hlist.1] at hset
            obtain ⟨hx1, hx2, hx3, hx4⟩ := hlist.2
            have hoth := ownI_set (i := k) (u := .int .i64 (xo + xc)) hK.out.2.2.2 (q := g) (by have := HGO.out; omega)
            have hrow := hK.out.2.1.kept (Kept.set (N := fun k => k ≠ g) wr g k (.int .i64 (xo + xc)) fun h => h rfl) (fun q hq => by cases hq; have := HGA.out.2; show a ≠ g; omega)
            have hbel := hK.out.2.2.1.setCell (p := ⟨g, k, none⟩) HG.out (.int .i64 (xo + xc))
            rw [← hxo] at hc1
            rw [← hxc] at hc0
            have HE := hid (And.intro hset (And.intro hrow (And.intro hbel hoth)))
            clear hset hlist hoth hrow hbel hxo hxc hb0 hK
            go_wp2
            go_roundw
            case rel => exact ⟨k + 1, by omega, by go_num, HE⟩
            case measure => simp [intOf]; omega
          · obtain rfl : k = 4 := by omega
            have HF := hid (show OwnI wr w.heap.size (.slice (some ⟨g, 0, none⟩) 4 uc) (uO (j + 1)) ∧ OwnG wr w2.heap.size 95 7 (.slice (some ⟨a, 0, none⟩) 2 c) [emC, emC] ∧ Below w.heap.size w wr from ⟨by have h := hK.out.1; rwa [show uI j 4 = uO (j + 1) by simp [uI, uO]; omega] at h, hK.out.2.1, hK.out.2.2.1⟩)
            clear hK
            go_wp2
            go_roundw
            case rel => exact ⟨j + 1, by omega, by go_num, HF⟩
            case measure => simp [intOf]; omega
      · obtain rfl : j = 2 := by omega
        rw [show ((2 : Nat) : Int) = 2 from rfl]
        obtain ⟨wt, hwt⟩ : ∃ x, x = wr := ⟨_, rfl⟩
        subst hwt
        have HT := hid (And.intro hR.out.1 hR.out.2.2)
        have Y := HYY.out wt hR.out.2.2
        clear hR
        go_wp2_with fail
        have Yb := HYY.out
        clear Y
        go_loopw [10] (fun s10 wr => ∃ k : Nat, 2 ≤ k ∧ k ≤ 4 ∧ s10 = .int .i64 k ∧ Below w.heap.size w wr ∧ Hid (OwnI wr w.heap.size (.slice (some ⟨g, 0, none⟩) 4 uc) (uT k))) (fun s10 _ => 4 - (intOf s10).toNat)
        case atStart => exact ⟨2, by omega, by omega, rfl, HT.out.2, hid HT.out.1⟩
        case round =>
          obtain ⟨k, hk2, hk, rfl, hbl, hK⟩ := hrel
          have hmin : ∀ w', (Builtin.min_ #[3, 3] 3 #[.int .i64 4, .int .i64 4]).run Tryz.prog w' = .ok (.int .i64 4) w' := fun w' => by kernel_rfl
          go_wp2_with fail
          go_region_held3 (fun W => Below w.heap.size w W) (first | with_reducible assumption | with_reducible exact Below.drew (by with_reducible assumption)) (fail)
          have e1 : min 4 (IntKind.i64.wrap (2 + IntKind.i64.wrap ((IntKind.i64.wrap (IntKind.i64.wrap 37 - 1)).tdiv 16))) = 4 := by decide
          rw [e1]
          clear e1
          have hbd := hbl.drew
          have hK : OwnI wr.drew w.heap.size (.slice (some ⟨g, 0, none⟩) 4 uc) (uT k) := hK.out
          clear Yb hmin hbl
          generalize wr.drew = wd at *
          by_cases hlk : k < 4
          · have hc1 := hK.at k (by simp [uT]; omega)
            have hfz := OwnV.fz hK k
            have hset := hK.set k 1 (by simp [uT]; omega)
            have hlist : (uT k).set k 1 = uT (k + 1) ∧ (uT k).getD k 0 = 0 := by
              have hk3 : k = 2 ∨ k = 3 := by omega
              rcases hk3 with rfl | rfl <;> decide
            rw [hlist.1] at hset
            rw [hlist.2] at hc1
            have hbel := hbd.setCell (p := ⟨g, k, none⟩) HG.out (.int .i64 1)
            have HE := hid hset
            have HBE := hid hbel
            have tk : decide ((k : Int) < 4) = true := by simp; omega
            have tk2 : (k : Int) < 4 := by omega
            clear hset hlist hbel hbd hK
            go_wp2
            go_roundw
            case rel => exact ⟨k + 1, by omega, by omega, by go_num, HBE.out, HE⟩
            case measure => simp [intOf]; omega
          · obtain rfl : k = 4 := by omega
            have HF := hid (And.intro hK hbd)
            clear hK hbd
            go_wp2
            go_ret
            exact ⟨_, rfl, HF.out⟩
abbrev kV (f : Nat) (sm : Int) : Value := .agg #[.int .u64 f, .int .i64 2, .int .i64 4, .int .i64 1, .int .i64 0, .int .u32 sm]
theorem iindex (f : Nat) (sm : Int) (w : World) : Calls Tryz.prog 308 #[nilS, kV f sm] w fun e w' => e = .returned (.int .i64 (-1)) ∧ Below w.heap.size w w' := by
  go_enter Tryz.func308, Tryz.ntmps308
  go_wp2_with fail
  refine wp_loop_once ?_
  go_wp2_with fail
  go_ret
  exact ⟨rfl, bel1 _ _⟩
theorem icontains (f : Nat) (sm : Int) (w : World) : Calls Tryz.prog 299 #[nilS, kV f sm] w fun e w' => e = .returned (.bool false) ∧ Below w.heap.size w w' := by
  go_enter Tryz.func299, Tryz.ntmps299
  go_wp2_with fail
  refine (iindex f sm _).mono ?_
  rintro e w1 ⟨rfl, hb⟩
  go_wp2_with fail
  go_ret
  exact ⟨rfl, bel1' hb⟩
theorem Tryz.info353 : (Tryz.prog.info? 353).map (fun i => (i.zero, i.size, i.bytes)) = some (some (.agg #[.int .u64 0, .int .i64 0, .int .i64 0, .int .i64 0, .int .i64 0, .int .u32 0]), 6, 48) := by kernel_rfl
set_option maxRecDepth 100000 in
theorem iadd (k base : Nat) (sm : Int) (bs : List UInt8) (bv : Value) (w : World) (h : w.heap[k]? = some (.cells #[nilS, .int .i64 0] 310 (0, 0))) (hbk : base ≤ k) (hb : SlB w w.heap.size bv bs) (hlen : bs.length ≤ 1000000000) :
    Calls Tryz.prog 285 #[dp k, bv, eV sm] w fun e w' => e = .returned (.tuple #[]) ∧ Kept w w' (· ≠ k) ∧ Below base w w' := by
  have hlt := blk_lt h
  have hS := BL.new (BL.cons h (BL.nil _)) #[.int .i64 2, .int .i64 4, .int .i64 1, .int .i64 0, .int .u32 sm] 187
  have hB := bel1 w (.cells #[.int .i64 2, .int .i64 4, .int .i64 1, .int .i64 0, .int .u32 sm] 187)
  have HF : Hid (∀ W, Below w.heap.size w W → Calls Tryz.prog 282 #[bv] W fun e w' => e = .returned (.int .u64 (Go.Crc.finger bs).toNat) ∧ w' = W) := hid fun W hW => (Kx.finger_any bs bv W ((hb.below hW (Nat.le_refl _)).mono hW.size) hlen).mono fun e w' he => ⟨he.1, he.2.symm⟩
  obtain ⟨oa, nn, c, rfl⟩ := slB_shape hb
  obtain ⟨f, hf⟩ : ∃ f, f = (Go.Crc.finger bs).toNat := ⟨_, rfl⟩
  rw [← hf] at HF
  clear h hb hf
  have HK := hid (And.intro hlt hbk)
  go_enter Tryz.func285, Tryz.ntmps285
  go_wp2_with fail
  generalize w.alloc (.cells #[.int .i64 2, .int .i64 4, .int .i64 1, .int .i64 0, .int .u32 sm] 187) = w1 at *
  have k5 : ∀ W, Below w1.heap.size w1 W → ∀ j, W.cell? ⟨w.heap.size, j, none⟩ = (#[.int .i64 2, .int .i64 4, .int .i64 1, .int .i64 0, .int .u32 sm] : Array Value)[j]? := fun W hW j => cell_of (hS.below hW).head j
  go_cut [6] from 13 (fun s6 wx => ∃ a6 : Nat, s6 = .pointer (some ⟨a6, 0, none⟩) ∧ Hid (wx.heap[a6]? = some (.cells #[.int .u64 f, .int .i64 2, .int .i64 4, .int .i64 1, .int .i64 0, .int .u32 sm] 353 (0, 0)) ∧ Below w1.heap.size w1 wx ∧ w1.heap.size ≤ a6))
  case first =>
    go_region_held (fun W => Below w1.heap.size w1 W) (first | with_reducible assumption | (solve | (repeat (first | with_reducible exact Below.refl _ _ | with_reducible assumption | with_reducible apply Below.drew | with_reducible refine Below.alloc ?_ ?_ _ | with_reducible refine Below.setCell ?_ ?_ _ | with_reducible exact Nat.le_refl _ | (simp; done) | exact Below.size (by assumption))))) (first
      | (go_at_call 282; refine (HF.out _ (hB.trans ((by first | with_reducible assumption | exact (Below.refl _ _).drew : Below w1.heap.size w1 _).mono hB.size))).mono ?_; rintro e w9 ⟨rfl, rfl⟩))
    all_goals
      go_wp2_with fail
      go_meet
    case rel => exact ⟨_, rfl, hid ⟨alloc_new _ _, (bel1 _ _).drew, Nat.le_refl _⟩⟩
    case rel => exact ⟨_, rfl, hid ⟨alloc_new _ _, (bel1 _ _).drew, Nat.le_refl _⟩⟩
  case rest =>
    obtain ⟨a6, rfl, hA⟩ := hcut
    have HC := hid (And.intro (BL.cons hA.out.1 (hS.below hA.out.2.1).tail) (And.intro (hB.trans (hA.out.2.1.mono hB.size)) (show k < a6 by have := HK.out.1; have := hB.size; have := hA.out.2.2; omega)))
    clear hA hS hB k5 HF
    have Y6 : ∀ W, Below wc.heap.size wc W → ∀ j, W.cell? ⟨a6, j, none⟩ = (#[.int .u64 f, .int .i64 2, .int .i64 4, .int .i64 1, .int .i64 0, .int .u32 sm] : Array Value)[j]? := fun W hW j => cell_of (HC.out.1.below hW).head j
    have Yk : ∀ W, Below wc.heap.size wc W → W.cell? ⟨k, 0, none⟩ = some nilS := fun W hW => cell_of (HC.out.1.below hW).tail.head 0
    go_wp2_with fail
    go_region_held3 (fun W => Below wc.heap.size wc W) (first | with_reducible assumption | with_reducible exact (Below.refl _ _).drew | with_reducible exact Below.drew (by with_reducible assumption)) (first
      | (go_at_call 299; refine (icontains f sm _).mono ?_; rintro e w9 ⟨rfl, hb9⟩; have hb9' := belT (by first | with_reducible assumption | exact (Below.refl _ _).drew : Below wc.heap.size wc _) hb9))
    clear Y6 Yk
    have HC9 := hid (And.intro (HC.out.1.below hb9') (And.intro (HC.out.2.1.trans (hb9'.mono HC.out.2.1.size)) HC.out.2.2))
    have y6 := fun j => cell_of HC9.out.1.head j
    have yk := cell_of HC9.out.1.tail.head 0
    go_wp2_with fail
    clear yk
    obtain ⟨nv, hnv⟩ : ∃ x : Value, x = nilS := ⟨_, rfl⟩
    have hown : ∀ W, OwnG W w9.heap.size 353 6 nv [] := fun W => by rw [hnv]; exact OwnG.nil _ _ _ _
    have HB9 := hid hb9'
    have yk1 : ∀ A : Obj, (w9.alloc A).cell? ⟨k, 0, none⟩ = some nv := fun A => by rw [hnv]; exact cell_of (HC9.out.1.below (bel1 _ A)).tail.head 0
    have yk : w9.cell? ⟨k, 0, none⟩ = some nv := by rw [hnv]; exact cell_of HC9.out.1.tail.head 0
    have hcell : ∀ j u, [Value.int .u64 f, .int .i64 2, .int .i64 4, .int .i64 1, .int .i64 0, .int .u32 sm][j]? = some u → (w9.alloc (.cells #[.int .u64 f, .int .i64 2, .int .i64 4, .int .i64 1, .int .i64 0, .int .u32 sm] 353)).drew.cell? ⟨w9.heap.size, j, none⟩ = some u := fun j u hj => by rw [cell_of (alloc_drew w9 _) j]; simpa using hj
    have hone : ∀ u ∈ [Value.int .u64 f, .int .i64 2, .int .i64 4, .int .i64 1, .int .i64 0, .int .u32 sm], u.oneCell' = true := by simp [Value.oneCell']
    have hbA : w9.heap.size ≤ (w9.alloc (.cells #[.int .u64 f, .int .i64 2, .int .i64 4, .int .i64 1, .int .i64 0, .int .u32 sm] 353)).drew.heap.size := by show _ ≤ (w9.alloc _).heap.size; simp
    have HNV := hid hnv
    clear hnv hb9' hb9
    go_region_law (refine step_append_gn _ (by rfl) (.tmp 44) (.tmp 46) 308 353 _ 6 48 rfl Tryz.underlying308 Tryz.info353 rfl (by decide) w9.heap.size _ [] (by rfl) (hown _) w9.heap.size 1 [.int .u64 f, .int .i64 2, .int .i64 4, .int .i64 1, .int .i64 0, .int .u32 sm] (by rfl) rfl hcell hone (by decide) (by decide) hbA ?_; intro v' w7 ho7 hg7 hb7 hbk7; obtain ⟨oa', n', c', rfl⟩ := ho7.sliceOf; have hb97 := (bel1 w9 _).drew.trans hb7; have hS7 := HC9.out.1.below hb97; have g7 := cell_of hS7.tail.head 0; have z7 := fz_of hS7.tail.head 0)
    all_goals
      have HL := hid (HC9.out.2.1.trans (hb97.mono HC9.out.2.1.size))
      clear hS7 g7 z7 ho7 hg7 hb7 hbk7 hb97
      go_end0
      exact ⟨rfl, (Kept.of_below HL.out fun _ h _ => h).trans (Kept.set _ k 0 _ fun h => h rfl), (HL.out.mono (by have := HK.out; omega)).setCell (p := ⟨k, 0, none⟩) HK.out.2 _⟩
open Go.RowKit Go.Mx Go.Proofs.YtmcllcepoiakeaaGreat.Dx Go.Dk
/-- a disk of which a sector is told, too -/
def HC (w : World) (base p m room : Nat) (fl : FL) (L : Nat) (i : Nat) (nm : List UInt8) (l k : Nat) (s : Sec) : Prop :=
  ∃ d fs lv x, DK w base p d fs m lv x (fun _ _ => True) ∧ G room fl L d ∧ ∃ f, fs[i]? = some f ∧ f.fm.name = nm ∧ f.fm.now.length = l ∧ f.fm.now.getD k [] = s
section
variable {w w' : World} {base p m room L i l k : Nat} {fl : FL} {nm : List UInt8} {s : Sec}
theorem HC.hg (h : HC w base p m room fl L i nm l k s) : HG w base p m room fl L := by obtain ⟨d, fs, lv, x, h, g, _⟩ := h; exact ⟨d, fs, lv, x, h, g⟩
theorem HC.at (h : HC w base p m room fl L i nm l k s) : fl[i]? = some (nm, l) := by
  obtain ⟨d, fs, lv, x, h, g, f, h1, rfl, rfl, _⟩ := h
  rw [← g.fl, h.files]; unfold flOf; rw [List.map_map, List.getElem?_map, h1]; rfl
theorem HC.below (h : HC w base p m room fl L i nm l k s) (hb : Below w.heap.size w w') : HC w' base p m room fl L i nm l k s := by
  obtain ⟨d, fs, lv, x, h, g, r⟩ := h; exact ⟨d, fs, lv, x, h.below hb, g, r⟩
theorem HC.kept (h : HC w base p m room fl L i nm l k s) {N : Nat → Prop} (hk : Kept w w' N) (hN : ∀ k, ¬ Foreign m w k → N k) : HC w' base p m room fl L i nm l k s := by
  obtain ⟨d, fs, lv, x, h, g, r⟩ := h
  refine ⟨d, fs, lv, x, h.keep hk (hN _ (not_foreign h.dk (by simp))) (hN _ fun hf => hf.1 rfl) (fun k hk' => ?_) (fun j f hj => hN _ (not_foreign (h.fc j f hj).1 (by simp))) fun j f b hj _ k hk' => ?_, g, r⟩
  · obtain ⟨c, fr, hc⟩ := h.lg.type hk'; exact hN _ (not_foreign hc (by simp))
  · obtain ⟨c, fr, hc⟩ := (h.ow j f b hj trivial).type hk'; exact hN _ (not_foreign hc (by simp))
theorem write_C (h : HG w base p m room fl L) (hi : fl[i]? = some (nm, l)) (hnl : nm.length ≤ maxLen) (bv : Value) (hst : ∀ w', Fr base m w w' → SlB w' w'.heap.size bv s)
    (hss : s.length = 16) (hk : k + 1 ≤ 65536) (hur : (fl.map (·.2)).sum ≤ room) (hroom : room ≤ 1048576) (hL : L + 1 ≤ 1000000) (hfit : k + 1 + (fl.map (·.2)).sum ≤ room + l) :
    Calls Tryz.prog 127 #[dp p, nmv nm, .int .i64 k, bv] w fun e w' => Fr base m w w' ∧ e = .returned (.int .i64 0) ∧ HC w' base p m room (fl.set i (nm, max l (k + 1))) (L + 1) i nm (max l (k + 1)) k s := by
  have hnd := h.nodup
  obtain ⟨d, fs, lv, x, h, g⟩ := h
  obtain ⟨f, hf, rfl, rfl⟩ := HG.at h g hi
  have hu : Dk.used d.files = (fl.map (·.2)).sum := by rw [used_fl, g.fl]
  refine (write_any h g.small g.off hf hnl k [s] bv (by simpa using hst) (by simpa using hss) (by simpa using hk) (by simp) (by rw [hu, g.room]; exact hur) (by rw [g.room]; exact hroom) (by rw [g.left]; omega) (by have := g.len; simp; omega)).mono fun e w' ⟨hfr, hr⟩ => ⟨hfr, ?_⟩
  unfold WRes fits at hr
  rw [hu, g.room] at hr
  rcases hr with ⟨h1, he, fs', lv', x', hd⟩ | ⟨h1, he, hd⟩
  · have hg' := G.one g hnd hi k (by omega) s hss hL
    have hmany : (Dk.many d f.fm.name k [s]) = ((Dk.one d f.fm.name k s).1, true) := by
      unfold Dk.many
      have := hg'.2
      generalize Dk.one d f.fm.name k s = q at *
      obtain ⟨q1, q2⟩ := q
      simp only at this; subst this
      rfl
    rw [hmany] at he hd
    refine ⟨he, _, _, _, _, hd, hg'.1, ?_⟩
    have hfiles := hd.files
    have hone : (Dk.one d f.fm.name k s).1.files = setF d.files f.fm.name fun f => { f with now := put f.now k s } := by
      unfold Dk.one; rw [if_neg (by rw [g.left]; decide)]
    rw [hone, h.files] at hfiles
    have h2 := congrArg (fun l => l[i]?) hfiles
    unfold setF at h2
    simp only [List.getElem?_map, hf, Option.map_some, beq_self_eq_true, if_true] at h2
    obtain ⟨f', hf', he'⟩ := Option.map_eq_some_iff.1 h2.symm
    refine ⟨f', hf', by rw [he'], by rw [he']; exact put_len _ _ _, ?_⟩
    rw [he']
    show (put f.fm.now k s).getD k [] = s
    have hl := put_len f.fm.now k s
    unfold put at hl ⊢
    rw [List.getD_eq_getElem?_getD, List.getElem?_set_self (by rw [List.length_set] at hl; omega)]; rfl
  · exact absurd (.inr (by simpa using hfit)) h1
theorem read_C (h : HC w base p m room fl L i nm l k s) (hnl : nm.length ≤ maxLen) (hk : k < l) :
    Calls Tryz.prog 26 #[dp p, nmv nm, .int .i64 k, .int .i64 1] w fun e w' => ∃ v, e = .returned (.tuple #[v, .int .i64 0]) ∧ OwnB w' w.heap.size 5 v s ∧ Below w.heap.size w w' := by
  obtain ⟨d, fs, lv, x, h, g, f, hf, rfl, rfl, rfl⟩ := h
  have := read_any h g.small g.off hf hnl k 1 (by omega)
  have e : secs f.fm.now k 1 = f.fm.now.getD k [] := by
    have := secs_succ f.fm.now k 0 (by omega)
    simpa [secs] using this
  rw [e] at this
  exact this
end
end Go.Proofs.YtmcllcepoiakeaaGreat
namespace Go.Lz
def lenGo : List UInt8 → Nat → Option (Nat × Nat)
  | [], _ => none
  | y :: r, m => if y = 255 then (lenGo r (m+255)).map (fun p => (p.1, p.2+1)) else some (m + y.toNat, 1)
def lenM (rest : List UInt8) (n : Nat) : Option (Nat × Nat) := if n < 15 then some (n, 0) else lenGo rest n
abbrev Res := Except Nat (List UInt8)
def lit (room : Nat) : Nat → List UInt8 → List UInt8 → Except Nat (List UInt8 × List UInt8)
  | 0, rest, out => .ok (rest, out)
  | _+1, [], _ => .error 3
  | n+1, x :: rest, out => if out.length = room then .error 2 else lit room n rest (out ++ [x])
def mat (room d : Nat) : Nat → List UInt8 → Res
  | 0, out => .ok out
  | n+1, out => if out.length = room then .error 2 else mat room d n (out ++ [out.getD (out.length - d) 0])
def unpE (K : List UInt8 → List UInt8 → Res) (rest out : List UInt8) : Res := if rest = [] then .ok out else K rest out
def unpD (room : Nat) (K : List UInt8 → List UInt8 → Res) (d m : Nat) (rest out : List UInt8) : Res :=
  match mat room d m out with
  | .error e => .error e
  | .ok o => unpE K rest o
def unpC (room : Nat) (K : List UInt8 → List UInt8 → Res) (tok : UInt8) : List UInt8 → List UInt8 → Res
  | [], out => .ok out
  | [_], _ => .error 3
  | lo :: hi :: rest, out =>
    if lo.toNat + 256 * hi.toNat = 0 ∨ out.length < lo.toNat + 256 * hi.toNat then .error 3 else
    match lenM rest (tok.toNat % 16) with
    | none => .error 3
    | some (m, c) => unpD room K (lo.toNat + 256 * hi.toNat) (m + 4) (rest.drop c) out
def unpB (room : Nat) (K : List UInt8 → List UInt8 → Res) (tok : UInt8) (n : Nat) (rest out : List UInt8) : Res :=
  match lit room n rest out with
  | .error e => .error e
  | .ok (r, o) => unpC room K tok r o
def unp (room : Nat) : Nat → List UInt8 → List UInt8 → Res
  | 0, _, _ => .error 3
  | _+1, [], _ => .error 3
  | f+1, t :: r, out =>
    match lenM r (t.toNat / 16) with
    | none => .error 3
    | some (n, c) => unpB room (unp room f) t n (r.drop c) out
/-- what packed bytes tell -/
def unpack (bs : List UInt8) (room : Int) : Res :=
  if room < 0 ∨ 1048576 < room then .error 1 else unp room.toNat (bs.length + 1) bs []
theorem unpB_zero (room K tok rest out) : unpB room K tok 0 rest out = unpC room K tok rest out := rfl
theorem unpB_end (room K tok n out) : unpB room K tok (n+1) [] out = .error 3 := rfl
theorem unpB_full (room K tok n x rest) (out : List UInt8) (h : out.length = room) : unpB room K tok (n+1) (x :: rest) out = .error 2 := by
  unfold unpB; rw [lit, if_pos h]
theorem unpB_step (room K tok n x rest) (out : List UInt8) (h : ¬ out.length = room) : unpB room K tok (n+1) (x :: rest) out = unpB room K tok n rest (out ++ [x]) := by
  unfold unpB; rw [lit, if_neg h]
theorem unpD_zero (room K d rest out) : unpD room K d 0 rest out = unpE K rest out := rfl
theorem unpD_full (room K d n rest) (out : List UInt8) (h : out.length = room) : unpD room K d (n+1) rest out = .error 2 := by
  unfold unpD; rw [mat, if_pos h]
theorem unpD_step (room K d n rest) (out : List UInt8) (h : ¬ out.length = room) : unpD room K d (n+1) rest out = unpD room K d n rest (out ++ [out.getD (out.length - d) 0]) := by
  unfold unpD; rw [mat, if_neg h]
theorem lenGo_bd : ∀ (l : List UInt8) (m n c : Nat), lenGo l m = some (n, c) → c ≤ l.length ∧ n ≤ m + 255 * c
  | [], m, n, c, h => by simp [lenGo] at h
  | y :: r, m, n, c, h => by
    rw [lenGo] at h
    split at h
    · cases hg : lenGo r (m + 255) with
      | none => rw [hg] at h; cases h
      | some p =>
        rw [hg] at h
        simp at h
        have := lenGo_bd r (m+255) p.1 p.2 hg
        simp
        omega
    · simp at h
      have := UInt8.toNat_lt y
      simp
      omega
theorem lenM_bd (l : List UInt8) (m n c : Nat) (hm : m ≤ 15) (h : lenM l m = some (n, c)) : c ≤ l.length ∧ n ≤ 15 + 255 * c := by
  unfold lenM at h
  split at h
  · simp at h; omega
  · have := lenGo_bd l m n c h; omega
end Go.Lz
