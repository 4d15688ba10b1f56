import Derived.Test.YtbklhhmcigangaaL7
import Derived.Test.YtbklhhmcigangaaV2
import Derived.BigQuiet
namespace Go.Proofs.Ytbklhhmcigangaa
open Go.RowKit Go.Mx Go.Lr Go.Maps
set_option linter.unusedVariables false
set_option linter.unusedSimpArgs false
theorem put_W {w : World} {base p : Nat} {c : CM} (h : HC w base p c) (ok : OkC c) (k : Int) (hk : isI k) (v : Value) (b : List UInt8) (B : Nat) (hb : SlB w B v b) (hB : B ≤ w.heap.size) (hl : b.length ≤ 1000000) (d : Bool) (hu : c.uses ≤ 100000000) (hus : ∀ e ∈ c.all, e.pg.used ≤ c.uses) (hr : c.all.length ≤ c.room) (hr2 : c.room ≤ 1999) :
    Calls Try.prog 13 #[cp p, .int .i64 k, v, .bool d] w fun e w' => ∃ v out c', e = .returned v ∧ PutR c k b d c' out ∧ HC w' base p c' ∧ Below base w w' ∧ KT w w' ∧ OwnI w' w.heap.size v out := by
  obtain ⟨m, fs, h⟩ := h
  exact (put_gen h ok k hk v b B hb hB hl d hu hus hr hr2).mono fun e w' ⟨v, out, c', fs', he, hp, hc, hs, ho, _⟩ => ⟨v, out, c', he, hp, ⟨m, fs', hc⟩, hs.bel, KT.of_stp h hs, ho⟩
theorem wi_ok {n t K : Nat} {c : CM} (h : WI n t K c) (hn : n ≤ 1999) (hK : K ≤ 100000) : OkC c where
  is := fun e he y hy => by rw [h.na e he] at hy; cases hy
  sm := fun e he => by rw [h.na e he]; exact Nat.zero_le _
  len := by have := h.len; omega
  ks := fun e he => by have := h.rng e he; unfold isI; omega
/-- eight Booleans -/
def Arr (w : World) (b : Nat) (f : Int → Bool) : Prop := w.heap[b]? = some (.cells ((List.range 8).map fun (y : Nat) => Value.bool (f y)).toArray 36 (0, 0))
theorem Arr.cell {w : World} {b : Nat} {f : Int → Bool} (h : Arr w b f) {y : Nat} (hy : y < 8) : w.cell? ⟨b, y, none⟩ = some (.bool (f y)) := by
  unfold Arr at h
  simp [World.cell?, h, hy]
theorem Arr.fz {w : World} {b : Nat} {f : Int → Bool} (h : Arr w b f) (y : Nat) : w.frozen? ⟨b, y, none⟩ = false := by
  unfold Arr at h
  simp [World.frozen?, h]
theorem Arr.set {w : World} {b : Nat} {f g : Int → Bool} (h : Arr w b f) {y : Nat} (hy : y < 8) {v : Bool} (hv : v = g y) (hg : ∀ x : Nat, x < 8 → x ≠ y → g x = f x) : Arr (w.setCell ⟨b, y, none⟩ (.bool v)) b g := by
  unfold Arr at h ⊢
  rw [heap_setCell_at' w b y _ _ _ _ h]
  congr 1
  congr 1
  apply Array.ext'
  simp only [Array.toList_setIfInBounds]
  apply List.ext_getElem?
  intro j
  rw [List.getElem?_set]
  by_cases e : y = j
  · subst e
    rw [if_pos rfl, if_pos (by simpa using hy)]
    rw [List.getElem?_map, List.getElem?_range hy, hv]; rfl
  · rw [if_neg e]
    by_cases hj : j < 8
    · rw [List.getElem?_map, List.getElem?_map, List.getElem?_range hj]
      simp only [Option.map_some]
      rw [hg j hj (Ne.symm e)]
    · rw [List.getElem?_eq_none (by simp; omega), List.getElem?_eq_none (by simp; omega)]
theorem Arr.out {w : World} {b : Nat} {f : Int → Bool} (h : Arr w b f) : Out w b := ⟨_, _, _, h, by decide, by decide, by decide⟩
theorem Arr.kt {w w' : World} {b : Nat} {f : Int → Bool} (h : Arr w b f) (hk : KT w w') : Arr w' b f := (hk.block b (blk_lt h) h.out).trans h
theorem Arr.hc {w : World} {b : Nat} {f : Int → Bool} (h : Arr w b f) {base p : Nat} {c : CM} (hc : HC w base p c) (y : Nat) (v : Value) : HC (w.setCell ⟨b, y, none⟩ v) base p c :=
  hc.keepT (N := fun q => q ≠ b) (Kept.set w b y v (by simp)) fun k hk hm e => by
    subst e
    rcases hm _ _ _ h with h | h | h | h <;> exact absurd h (by decide)
theorem eq36 (w : World) : (binOp .eql 36 (.agg #[.bool false, .bool false, .bool false, .bool false, .bool false, .bool false, .bool false, .bool false]) (.agg #[.bool false, .bool false, .bool false, .bool false, .bool false, .bool false, .bool false, .bool false])).run Try.prog w = .ok (.bool true) w := by kernel_rfl
theorem size5' (w : World) : (sizeOf 5).run Try.prog w = .ok 1 w := by kernel_rfl
theorem size4 (w : World) : (sizeOf 4).run Try.prog w = .ok 1 w := by kernel_rfl
set_option maxRecDepth 100000 in
set_option maxHeartbeats 1000000 in
theorem writes_any (n : Int) (bs : List UInt8) (v : Value) (w : World) (hn : 0 ≤ n ∧ n ≤ 255) (hb : SlB w w.heap.size v bs) : Calls Try.prog 4 #[.int .u8 n, v] w fun e w' => e = .returned (.bool true) ∧ Below w.heap.size w w' := by
  obtain ⟨n, rfl⟩ := Int.eq_ofNat_of_zero_le hn.1
  have hn1 : IntKind.i64.wrap (n : Int) = (n : Int) := IntWalk.i64_in _ (by omega)
  obtain ⟨m, hm, hmq⟩ : ∃ k : Nat, k < 6 ∧ ((n : Nat) : Int).tmod 6 = (k : Int) := ⟨n % 6, Nat.mod_lt _ (by omega), by rw [Int.tmod_eq_emod_of_nonneg (by omega)]; rfl⟩
  obtain ⟨R, hR⟩ : ∃ R : Nat, R = m + 1 := ⟨_, rfl⟩
  have hR1 : IntKind.i64.wrap (1 + (m : Int)) = (R : Int) := by rw [IntWalk.i64_in _ (by omega)]; omega
  have hRb : 1 ≤ R ∧ R ≤ 6 := by omega
  have hlen := fun w' => hb.len (P := Try.prog) Try.underlying22 (ty := 3) w'
  obtain ⟨oa, nn, cc, rfl⟩ := slB_shape hb
  have HS := hid hb
  clear hb hR hm hn
  go_enter Try.func4, Try.ntmps4
  go_wp2_with fail
  refine (new_H R w (by omega) (by omega)).mono ?_
  rintro e w1 ⟨rfl, hc1, hb1⟩
  have H1 := hid (And.intro hc1 hb1)
  clear hc1 hb1
  go_wp2_with fail
  refine (num_any 0 _).mono ?_
  rintro e w' ⟨rfl, rfl⟩
  by_cases hL : bs.length ≤ 100
  · have hL1 : ¬ (100 : Int) < (bs.length : Int) := by omega
    have hL2 : ¬ 100 < bs.length := by omega
    go_wp2_with fail
    go_loopw [9] (fun s9 wr => ∃ (i : Nat) (c : CM), s9 = .int .i64 i ∧ i ≤ bs.length ∧ WI R i 8 c ∧ HC wr w.heap.size (w.heap.size + 1) c ∧ Arr wr w1.heap.size (dirtyAt c.all) ∧ Below w.heap.size w wr) (fun s9 _ => 200 - (intOf s9).toNat)
    case atStart =>
      have hbA : Below w1.heap.size w1 (w1.alloc (.cells #[.bool false, .bool false, .bool false, .bool false, .bool false, .bool false, .bool false, .bool false] 36)) := (Below.refl _ _).alloc (Nat.le_refl _) _
      exact ⟨0, ⟨R, [], 0⟩, rfl, by omega, ⟨rfl, rfl, by simp, by simp, by simp, by simp [NoAft], by simp⟩, H1.out.1.below hbA, alloc_new _ _, H1.out.2.trans (hbA.mono H1.out.2.size)⟩
    case round =>
      obtain ⟨i, c, rfl, hi, hW, hc, hA, hb⟩ := hrel
      by_cases hlt : i < bs.length
      · obtain ⟨b1, o1, hb1, hi1, g1⟩ := (HS.out.below hb (Nat.le_refl _)).addr (P := Try.prog) Try.underlying22 size5' i hlt
        obtain ⟨X, hX⟩ : ∃ X : Nat, X = (bs.getD i 0).toNat := ⟨_, rfl⟩
        have hX8 : X < 256 := by rw [hX]; exact UInt8.toNat_lt _
        rw [show Mx.u8 (bs.getD i 0) = .int .u8 (X : Int) by rw [hX]] at g1
        have hXw : IntKind.i64.wrap (X : Int) = (X : Int) := IntWalk.i64_in _ (by omega)
        obtain ⟨K, hK, hKq⟩ : ∃ k : Nat, k < 8 ∧ ((X : Nat) : Int).tmod 8 = (k : Int) := ⟨X % 8, Nat.mod_lt _ (by omega), by rw [Int.tmod_eq_emod_of_nonneg (by omega)]; rfl⟩
        obtain ⟨M, hM⟩ : ∃ M, decide ((128 : Int) ≤ (X : Int)) = M := ⟨_, rfl⟩
        have hp := put_W hc (wi_ok hW (by omega) (by omega)) (K : Int) (by unfold isI; omega) (.slice none 0 0) [] 0 (SlB.nil _ _) (Nat.zero_le _) (by simp) M (by rw [hW.uses]; omega) (by rw [hW.uses]; exact hW.us) (by rw [hW.room]; exact hW.len) (by rw [hW.room]; omega)
        have HP := hid hp
        have HO := hid (And.intro hW (And.intro hA (And.intro hb hK)))
        clear hX hX8 hW hc hA hb hb1 hp
        go_wp2_with fail
        refine HP.out.mono ?_
        rintro e w2 ⟨lv, out, c', rfl, hPR, hc2, hb2, hk2, ho2⟩
        obtain ⟨hWI, hnd, hout, hdi⟩ := HO.out.1.put hRb.1 (k := (K : Int)) (by omega) hPR
        have hA2 := HO.out.2.1.kt hk2
        have cK := hA2.cell hK
        have fK := hA2.fz K
        obtain ⟨DK, hDK⟩ : ∃ D, D = dirtyAt c.all (K : Int) := ⟨_, rfl⟩
        obtain ⟨f1, hf1⟩ : ∃ f, f = dirtyAt (Lr.lay c (K : Int) [] M).all := ⟨_, rfl⟩
        rw [← hf1] at hdi hout
        have hA3 : ∀ V, V = (DK || M) → Arr (w2.setCell ⟨w1.heap.size, K, none⟩ (.bool V)) w1.heap.size f1 := fun V hV => by
          refine hA2.set hK (by rw [hf1, lay_dirtyAt, if_pos rfl, hV, hDK]) fun x hx hxk => ?_
          rw [hf1, lay_dirtyAt, if_neg (by omega)]
        rw [← hDK] at cK
        have hwO : w1.heap.size < wr.heap.size := blk_lt HO.out.2.1
        have hc3 : ∀ V, HC (w2.setCell ⟨w1.heap.size, K, none⟩ (.bool V)) w.heap.size (w.heap.size + 1) c' := fun V => hA2.hc hc2 K _
        have ho3 : ∀ V, OwnI (w2.setCell ⟨w1.heap.size, K, none⟩ (.bool V)) wr.heap.size lv out := fun V => ownI_kept ho2 (N := fun q => q ≠ w1.heap.size) (Kept.set w2 _ K _ (by simp)) fun q e e2 => by
          have h9 := (World.ownsRow.lt ho2 q e).1
          omega
        have hb3 : ∀ V, Below w.heap.size w (w2.setCell ⟨w1.heap.size, K, none⟩ (.bool V)) := fun V => (HO.out.2.2.1.trans hb2).setCell (p := ⟨w1.heap.size, K, none⟩) H1.out.2.size _
        have hol : out.length ≤ 200 := by
          rcases hPR with ⟨_, _, rfl⟩ | ⟨_, x, hx, he⟩
          · simp
          · have := (evict_na (HO.out.1.na.lay (K : Int) [] M) x []).2
            rw [he] at this
            simp only at this
            rw [this]; split <;> simp
        obtain ⟨la, ln, lc, rfl⟩ := ownG_shape (ownI_G ho2)
        have hlenL := fun w' => ho2.slI.len (P := Try.prog) Try.underlying29 (ty := 3) w'
        have HW := hid (And.intro hWI (And.intro hnd hout))
        have HWI := hid hWI
        have HDI := hid hdi
        have HW0 := hid hwO
        have HL9 := hid hol
        have H3 := hid (And.intro ho3 (And.intro hA3 (And.intro hc3 hb3)))
        obtain ⟨wO, hwO2⟩ : ∃ x, x = wr := ⟨_, rfl⟩
        subst hwO2
        clear ho3 hA3 hc3 hb3 hPR hc2 hb2 hk2 ho2 hWI hnd hout hdi hA2 hDK hf1 hwO hol HP
        cases DK
        · obtain ⟨ho3, hA3, hc3, hb3⟩ := H3.out
          replace ho3 := ho3 M
          replace hA3 := hA3 M rfl
          replace hc3 := hc3 M
          replace hb3 := hb3 M
          have HQ := hid (And.intro ho3 (And.intro hA3 (And.intro hc3 hb3)))
          clear ho3 hA3 hc3 hb3
          go_wp2_with fail
          go_loopw [13] (fun s wq => ∃ j : Nat, s = .int .i64 j ∧ j ≤ out.length ∧ OwnI wq wO.heap.size (.slice la ln lc) out ∧ Arr wq w1.heap.size (fun y => f1 y && !decide (y ∈ out.take j)) ∧ HC wq w.heap.size (w.heap.size + 1) c' ∧ Below w.heap.size w wq) (fun s _ => 300 - (intOf s).toNat)
          case atStart => exact ⟨0, rfl, Nat.zero_le _, HQ.out.1, by simpa using HQ.out.2.1, HQ.out.2.2.1, HQ.out.2.2.2⟩
          case round =>
            obtain ⟨j, rfl, hj, ho, hA, hc, hb⟩ := hrel
            by_cases hlt2 : j < out.length
            · obtain ⟨bb, bo, hbb, hia, hcell⟩ := ho.slI.addr (P := Try.prog) Try.underlying29 size3 j hlt2
              have hmem : out.getD j 0 ∈ out := by rw [List.getD_eq_getElem?_getD, List.getElem?_eq_getElem hlt2]; exact List.getElem_mem _
              have hgx : out[j]? = some (out.getD j 0) := by rw [List.getD_eq_getElem?_getD, List.getElem?_eq_getElem hlt2]; rfl
              obtain ⟨y, hy⟩ : ∃ y, y = out.getD j 0 := ⟨_, rfl⟩
              rw [← hy] at hcell hmem hgx
              have hall := HW.out.2.2 y hmem
              obtain ⟨⟨hy0, hy8⟩, hyd, hyk⟩ := hall
              obtain ⟨Y, rfl⟩ := Int.eq_ofNat_of_zero_le hy0
              have ht : out.take (j + 1) = out.take j ++ [(Y : Int)] := by rw [List.take_add_one, hgx]; rfl
              have hni : (Y : Int) ∉ out.take j := by
                have h9 : (out.take (j + 1)).Nodup := HW.out.2.1.sublist (List.take_sublist _ _)
                rw [ht, List.nodup_append] at h9
                exact fun h => h9.2.2 _ h _ (by simp) rfl
              have hY8 : Y < 8 := by omega
              have ca := hA.cell hY8
              try simp only at ca
              rw [hyd, decide_eq_false hni] at ca
              replace ca : wr.cell? ⟨w1.heap.size, Y, none⟩ = some (.bool true) := ca
              have hfz := hA.fz Y
              have hA' : Arr (wr.setCell ⟨w1.heap.size, Y, none⟩ (.bool false)) w1.heap.size (fun y => f1 y && !decide (y ∈ out.take (j + 1))) := hA.set hY8 (by simp [ht]) fun x hx hxy => by
                have e9 : ((x : Int) ∈ out.take (j + 1)) ↔ ((x : Int) ∈ out.take j) := by
                  rw [ht, List.mem_append]
                  constructor
                  · rintro (h | h)
                    · exact h
                    · simp at h; omega
                  · exact .inl
                have e8 : decide ((x : Int) ∈ out.take (j + 1)) = decide ((x : Int) ∈ out.take j) := decide_eq_decide.2 e9
                simp only [e8]
              have hc' := hA.hc hc Y (.bool false)
              have ho' : OwnI (wr.setCell ⟨w1.heap.size, Y, none⟩ (.bool false)) wO.heap.size (.slice la ln lc) out := ownI_kept ho (N := fun q => q ≠ w1.heap.size) (Kept.set wr _ Y _ (by simp)) fun q e e2 => by
                have h9 := (World.ownsRow.lt ho q e).1
                have h8 := HW0.out
                omega
              have hb' : Below w.heap.size w (wr.setCell ⟨w1.heap.size, Y, none⟩ (.bool false)) := hb.setCell (p := ⟨w1.heap.size, Y, none⟩) H1.out.2.size _
              have h70 : ¬ (7 : Int) < (Y : Int) := by omega
              have h71 : ¬ 7 < Y := by omega
              have h72 : ¬ (Y : Int) < 0 := by omega
              have hYk : ((Y : Int) == (K : Int)) = false := by rw [beq_eq_false_iff_ne]; exact hyk
              have HB := hid (And.intro ho' (And.intro hA' (And.intro hc' hb')))
              have hj9 : out.length ≤ 200 := HL9.out
              obtain ⟨J, hJ⟩ : ∃ J : Nat, J = j + 1 := ⟨_, rfl⟩
              have hJ1 : IntKind.i64.wrap ((j : Int) + 1) = (J : Int) := by rw [IntWalk.i64_in _ (by omega)]; omega
              rw [← hJ] at HB
              have HJ := hid hJ
              clear hA' hc' ho' hb' hA hc ho hb hyd hyk hni ht hgx hmem hbb hy hJ
              go_wp2_with fail
              have hJ := HJ.out
              exact ⟨⟨J, rfl, by omega, HB.out⟩, by simp [intOf]; omega⟩
            · obtain rfl : j = out.length := by omega
              rw [List.take_length] at hA
              have hfe : (fun y => f1 y && !decide (y ∈ out)) = dirtyAt c'.all := funext fun y => (HDI.out y).symm
              rw [hfe] at hA
              have HB := hid (And.intro hA (And.intro hc hb))
              clear hA hc hb ho hfe
              go_wp2_with fail
              exact ⟨⟨i + 1, c', by go_num, by omega, HWI.out, HB.out.2.1, HB.out.1, HB.out.2.2⟩, by simp [intOf]; omega⟩
        · obtain ⟨ho3, hA3, hc3, hb3⟩ := H3.out
          replace ho3 := ho3 true
          replace hA3 := hA3 true rfl
          replace hc3 := hc3 true
          replace hb3 := hb3 true
          have HQ := hid (And.intro ho3 (And.intro hA3 (And.intro hc3 hb3)))
          clear ho3 hA3 hc3 hb3
          go_wp2_with fail
          go_loopw [13] (fun s wq => ∃ j : Nat, s = .int .i64 j ∧ j ≤ out.length ∧ OwnI wq wO.heap.size (.slice la ln lc) out ∧ Arr wq w1.heap.size (fun y => f1 y && !decide (y ∈ out.take j)) ∧ HC wq w.heap.size (w.heap.size + 1) c' ∧ Below w.heap.size w wq) (fun s _ => 300 - (intOf s).toNat)
          case atStart => exact ⟨0, rfl, Nat.zero_le _, HQ.out.1, by simpa using HQ.out.2.1, HQ.out.2.2.1, HQ.out.2.2.2⟩
          case round =>
            obtain ⟨j, rfl, hj, ho, hA, hc, hb⟩ := hrel
            by_cases hlt2 : j < out.length
            · obtain ⟨bb, bo, hbb, hia, hcell⟩ := ho.slI.addr (P := Try.prog) Try.underlying29 size3 j hlt2
              have hmem : out.getD j 0 ∈ out := by rw [List.getD_eq_getElem?_getD, List.getElem?_eq_getElem hlt2]; exact List.getElem_mem _
              have hgx : out[j]? = some (out.getD j 0) := by rw [List.getD_eq_getElem?_getD, List.getElem?_eq_getElem hlt2]; rfl
              obtain ⟨y, hy⟩ : ∃ y, y = out.getD j 0 := ⟨_, rfl⟩
              rw [← hy] at hcell hmem hgx
              have hall := HW.out.2.2 y hmem
              obtain ⟨⟨hy0, hy8⟩, hyd, hyk⟩ := hall
              obtain ⟨Y, rfl⟩ := Int.eq_ofNat_of_zero_le hy0
              have ht : out.take (j + 1) = out.take j ++ [(Y : Int)] := by rw [List.take_add_one, hgx]; rfl
              have hni : (Y : Int) ∉ out.take j := by
                have h9 : (out.take (j + 1)).Nodup := HW.out.2.1.sublist (List.take_sublist _ _)
                rw [ht, List.nodup_append] at h9
                exact fun h => h9.2.2 _ h _ (by simp) rfl
              have hY8 : Y < 8 := by omega
              have ca := hA.cell hY8
              try simp only at ca
              rw [hyd, decide_eq_false hni] at ca
              replace ca : wr.cell? ⟨w1.heap.size, Y, none⟩ = some (.bool true) := ca
              have hfz := hA.fz Y
              have hA' : Arr (wr.setCell ⟨w1.heap.size, Y, none⟩ (.bool false)) w1.heap.size (fun y => f1 y && !decide (y ∈ out.take (j + 1))) := hA.set hY8 (by simp [ht]) fun x hx hxy => by
                have e9 : ((x : Int) ∈ out.take (j + 1)) ↔ ((x : Int) ∈ out.take j) := by
                  rw [ht, List.mem_append]
                  constructor
                  · rintro (h | h)
                    · exact h
                    · simp at h; omega
                  · exact .inl
                have e8 : decide ((x : Int) ∈ out.take (j + 1)) = decide ((x : Int) ∈ out.take j) := decide_eq_decide.2 e9
                simp only [e8]
              have hc' := hA.hc hc Y (.bool false)
              have ho' : OwnI (wr.setCell ⟨w1.heap.size, Y, none⟩ (.bool false)) wO.heap.size (.slice la ln lc) out := ownI_kept ho (N := fun q => q ≠ w1.heap.size) (Kept.set wr _ Y _ (by simp)) fun q e e2 => by
                have h9 := (World.ownsRow.lt ho q e).1
                have h8 := HW0.out
                omega
              have hb' : Below w.heap.size w (wr.setCell ⟨w1.heap.size, Y, none⟩ (.bool false)) := hb.setCell (p := ⟨w1.heap.size, Y, none⟩) H1.out.2.size _
              have h70 : ¬ (7 : Int) < (Y : Int) := by omega
              have h71 : ¬ 7 < Y := by omega
              have h72 : ¬ (Y : Int) < 0 := by omega
              have hYk : ((Y : Int) == (K : Int)) = false := by rw [beq_eq_false_iff_ne]; exact hyk
              have HB := hid (And.intro ho' (And.intro hA' (And.intro hc' hb')))
              have hj9 : out.length ≤ 200 := HL9.out
              obtain ⟨J, hJ⟩ : ∃ J : Nat, J = j + 1 := ⟨_, rfl⟩
              have hJ1 : IntKind.i64.wrap ((j : Int) + 1) = (J : Int) := by rw [IntWalk.i64_in _ (by omega)]; omega
              rw [← hJ] at HB
              have HJ := hid hJ
              clear hA' hc' ho' hb' hA hc ho hb hyd hyk hni ht hgx hmem hbb hy hJ
              go_wp2_with fail
              have hJ := HJ.out
              exact ⟨⟨J, rfl, by omega, HB.out⟩, by simp [intOf]; omega⟩
            · obtain rfl : j = out.length := by omega
              rw [List.take_length] at hA
              have hfe : (fun y => f1 y && !decide (y ∈ out)) = dirtyAt c'.all := funext fun y => (HDI.out y).symm
              rw [hfe] at hA
              have HB := hid (And.intro hA (And.intro hc hb))
              clear hA hc hb ho hfe
              go_wp2_with fail
              exact ⟨⟨i + 1, c', by go_num, by omega, HWI.out, HB.out.2.1, HB.out.1, HB.out.2.2⟩, by simp [intOf]; omega⟩
      · obtain rfl : i = bs.length := by omega
        have hok := wi_ok hW (by omega) (by omega)
        have HF := hid (flush_K hc hok)
        obtain ⟨f1, hf1⟩ : ∃ f, f = dirtyAt c.all := ⟨_, rfl⟩
        obtain ⟨hFl, hmm, _, _, _⟩ := flush_spec hW.na.acyc
        have hkey : ∀ x, f1 x = true → 0 ≤ x ∧ x < ((8 : Nat) : Int) := fun x hx => by
          rw [hf1] at hx
          have hxk : x ∈ c.all.map (·.k) := Classical.byContradiction fun hn => by
            unfold dirtyAt at hx; rw [find_none.2 hn] at hx; cases hx
          obtain ⟨e, he, rfl⟩ := List.mem_map.1 hxk
          exact hW.rng e he
        have hol : (flushM c).2.length ≤ 200 := by
          have h8 : (flushM c).2 ⊆ (List.range 8).map fun (y : Nat) => (y : Int) := fun x hx => by
            have := hkey x (by rw [hf1]; exact (hmm x).1 hx)
            exact List.mem_map.2 ⟨x.toNat, by simp; omega, by omega⟩
          have := hFl.nd.length_le_of_subset h8
          simp at this; omega
        have HO := hid (And.intro hA hb)
        obtain ⟨out, hout⟩ : ∃ o, o = (flushM c).2 := ⟨_, rfl⟩
        obtain ⟨c', hc'⟩ : ∃ o, o = (flushM c).1 := ⟨_, rfl⟩
        have hnd := hFl.nd
        rw [← hout, ← hc'] at HF
        rw [← hout] at hmm hol hnd
        rw [← hf1] at hmm HO
        have HW0 := hid (blk_lt hA)
        have HW := hid (And.intro trivial (And.intro hnd (fun x (hx : x ∈ out) => And.intro (hkey x ((hmm x).1 hx)) ((hmm x).1 hx))))
        have HMM := hid (And.intro hmm hkey)
        have HL9 := hid hol
        clear hc hok hFl hmm hkey hol hA hb hW hout hc' hf1 hnd hi hlt
        go_wp2_with fail
        refine HF.out.mono ?_
        rintro e w2 ⟨lv, rfl, ho2, hc2, hb2, hk2⟩
        have hlenL := fun w' => ho2.slI.len (P := Try.prog) Try.underlying29 (ty := 3) w'
        have hA2 := HO.out.1.kt hk2
        obtain ⟨la, ln, lc, rfl⟩ := ownG_shape (ownI_G ho2)
        have HQ := hid (And.intro ho2 (And.intro hA2 (And.intro hc2 (HO.out.2.trans hb2))))
        obtain ⟨wO, hwO2⟩ : ∃ x, x = wr := ⟨_, rfl⟩
        subst hwO2
        clear ho2 hc2 hb2 hk2 hA2 HF
        go_wp2_with fail
        go_loopw [15] (fun s wq => ∃ j : Nat, s = .int .i64 j ∧ j ≤ out.length ∧ OwnI wq wO.heap.size (.slice la ln lc) out ∧ Arr wq w1.heap.size (fun y => f1 y && !decide (y ∈ out.take j)) ∧ HC wq w.heap.size (w.heap.size + 1) c' ∧ Below w.heap.size w wq) (fun s _ => 300 - (intOf s).toNat)
        case atStart => exact ⟨0, rfl, Nat.zero_le _, HQ.out.1, by simpa using HQ.out.2.1, HQ.out.2.2.1, HQ.out.2.2.2⟩
        case round =>
          obtain ⟨j, rfl, hj, ho, hA, hc, hb⟩ := hrel
          by_cases hlt2 : j < out.length
          · obtain ⟨bb, bo, hbb, hia, hcell⟩ := ho.slI.addr (P := Try.prog) Try.underlying29 size3 j hlt2
            have hmem : out.getD j 0 ∈ out := by rw [List.getD_eq_getElem?_getD, List.getElem?_eq_getElem hlt2]; exact List.getElem_mem _
            have hgx : out[j]? = some (out.getD j 0) := by rw [List.getD_eq_getElem?_getD, List.getElem?_eq_getElem hlt2]; rfl
            obtain ⟨y, hy⟩ : ∃ y, y = out.getD j 0 := ⟨_, rfl⟩
            rw [← hy] at hcell hmem hgx
            have hall := HW.out.2.2 y hmem
            obtain ⟨⟨hy0, hy8⟩, hyd⟩ := hall
            obtain ⟨Y, rfl⟩ := Int.eq_ofNat_of_zero_le hy0
            have ht : out.take (j + 1) = out.take j ++ [(Y : Int)] := by rw [List.take_add_one, hgx]; rfl
            have hni : (Y : Int) ∉ out.take j := by
              have h9 : (out.take (j + 1)).Nodup := HW.out.2.1.sublist (List.take_sublist _ _)
              rw [ht, List.nodup_append] at h9
              exact fun h => h9.2.2 _ h _ (by simp) rfl
            have hY8 : Y < 8 := by omega
            have ca := hA.cell hY8
            try simp only at ca
            rw [hyd, decide_eq_false hni] at ca
            replace ca : wr.cell? ⟨w1.heap.size, Y, none⟩ = some (.bool true) := ca
            have hfz := hA.fz Y
            have hA' : Arr (wr.setCell ⟨w1.heap.size, Y, none⟩ (.bool false)) w1.heap.size (fun y => f1 y && !decide (y ∈ out.take (j + 1))) := hA.set hY8 (by simp [ht]) fun x hx hxy => by
              have e9 : ((x : Int) ∈ out.take (j + 1)) ↔ ((x : Int) ∈ out.take j) := by
                rw [ht, List.mem_append]
                constructor
                · rintro (h | h)
                  · exact h
                  · simp at h; omega
                · exact .inl
              have e8 : decide ((x : Int) ∈ out.take (j + 1)) = decide ((x : Int) ∈ out.take j) := decide_eq_decide.2 e9
              simp only [e8]
            have hc' := hA.hc hc Y (.bool false)
            have ho' : OwnI (wr.setCell ⟨w1.heap.size, Y, none⟩ (.bool false)) wO.heap.size (.slice la ln lc) out := ownI_kept ho (N := fun q => q ≠ w1.heap.size) (Kept.set wr _ Y _ (by simp)) fun q e e2 => by
              have h9 := (World.ownsRow.lt ho q e).1
              have h8 := HW0.out
              omega
            have hb' : Below w.heap.size w (wr.setCell ⟨w1.heap.size, Y, none⟩ (.bool false)) := hb.setCell (p := ⟨w1.heap.size, Y, none⟩) H1.out.2.size _
            have h70 : ¬ (7 : Int) < (Y : Int) := by omega
            have h71 : ¬ 7 < Y := by omega
            have h72 : ¬ (Y : Int) < 0 := by omega
            have HB := hid (And.intro ho' (And.intro hA' (And.intro hc' hb')))
            have hj9 : out.length ≤ 200 := HL9.out
            obtain ⟨J, hJ⟩ : ∃ J : Nat, J = j + 1 := ⟨_, rfl⟩
            have hJ1 : IntKind.i64.wrap ((j : Int) + 1) = (J : Int) := by rw [IntWalk.i64_in _ (by omega)]; omega
            rw [← hJ] at HB
            have HJ := hid hJ
            clear hA' hc' ho' hb' hA hc ho hb hyd hni ht hgx hmem hbb hy hJ
            go_wp2_with fail
            have hJ := HJ.out
            exact ⟨⟨J, rfl, by omega, HB.out⟩, by simp [intOf]; omega⟩
          · obtain rfl : j = out.length := by omega
            rw [List.take_length] at hA
            have hz : ∀ y : Nat, y < 8 → wr.cell? ⟨w1.heap.size, y, none⟩ = some (.bool false) := fun y hy => by
              have h1 := hA.cell hy
              have h2 : (f1 (y : Int) && !decide ((y : Int) ∈ out)) = false := by
                cases hf : f1 (y : Int)
                · rfl
                · rw [decide_eq_true ((HMM.out.1 _).2 hf)]; rfl
              try simp only at h1
              rw [h2] at h1; exact h1
            have z0 := hz 0 (by omega)
            have z1 := hz 1 (by omega)
            have z2 := hz 2 (by omega)
            have z3 := hz 3 (by omega)
            have z4 := hz 4 (by omega)
            have z5 := hz 5 (by omega)
            have z6 := hz 6 (by omega)
            have z7 := hz 7 (by omega)
            have HB := hid hb
            have heq := eq36
            clear hA hc hb ho hz
            go_wp2_with fail
            refine (awake_any _).mono ?_
            rintro e w9 ⟨rfl, hb9⟩
            have HB9 := hid hb9
            clear hb9
            go_wp2_with fail
            go_ret
            exact ⟨rfl, HB.out.trans (HB9.out.mono HB.out.size)⟩
  · have hL1 : (100 : Int) < (bs.length : Int) := by omega
    have hL2 : 100 < bs.length := by omega
    go_wp2_with fail
    refine (num_any 0 _).mono ?_
    rintro e w' ⟨rfl, rfl⟩
    go_wp2_with fail
    refine (awake_any _).mono ?_
    rintro e w9 ⟨rfl, hb9⟩
    have HB9 := hid hb9
    clear hb9
    go_wp2_with fail
    go_ret
    exact ⟨rfl, H1.out.2.trans (HB9.out.mono H1.out.2.size)⟩
end Go.Proofs.Ytbklhhmcigangaa
