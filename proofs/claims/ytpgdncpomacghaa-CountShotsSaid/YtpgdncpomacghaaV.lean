import Derived.Test.YtpgdncpomacghaaU
namespace Go.Proofs.Ytpgdncpomacghaa
open Go.RowKit Go.Mx Go.Cnt Go.Shelf

def LeafP (l : List Ent) : Prop := ∀ k, k < l.length → MayP (l.getD k .zero)
def TabP (t : Tab) : Prop := ∀ i, i < t.length → LeafP (t.getD i [])
def TabW (t : Tab) : Prop := ∀ i, i < t.length → ∀ k, k < (t.getD i []).length → WfE ((t.getD i []).getD k .zero)

set_option maxRecDepth 100000 in
set_option maxHeartbeats 4000000 in
theorem tableRight_any (t : Tab) (tv : Value) (n c : Int) (w : World) (ht : IsTab w w.heap.size tv t) (hw : TabW t) (hn : -9223372036854775808 ≤ n ∧ n ≤ 9223372036854775807) (hc : -9223372036854775808 ≤ c ∧ c ≤ 9223372036854775807) :
    Calls Try.prog 25 #[.agg #[tv], .int .i64 n, .int .i64 c] w (RB (TabP t) w) := by
  obtain ⟨hn1, hn2⟩ := hn
  obtain ⟨hc1, hc2⟩ := hc
  have hlen := fun w' => ht.len w' (ty := 3)
  have hle := ht.le
  have hb : Below w.heap.size w (w.alloc (.cells #[tv] 24)) := (Below.refl _ _).alloc (Nat.le_refl _) _
  have HB := hid hb
  have hbx := hid (World.alloc_heap_new w (.cells #[tv] 24))
  clear hb
  by_cases h1 : n < 0
  · go_enter Try.func25, Try.ntmps25
    go_wp2
    go_ret
    exact RB.mk (fun h => by cases h) HB.out
  by_cases h2 : 4096 < n
  · go_enter Try.func25, Try.ntmps25
    go_wp2
    go_ret
    exact RB.mk (fun h => by cases h) HB.out
  by_cases h3 : c < 0
  · go_enter Try.func25, Try.ntmps25
    go_wp2
    go_ret
    exact RB.mk (fun h => by cases h) HB.out
  by_cases h4 : 6 < c
  · go_enter Try.func25, Try.ntmps25
    go_wp2
    go_ret
    exact RB.mk (fun h => by cases h) HB.out
  by_cases h0 : t.length = 0
  · have hT : TabP t := fun i hi => by omega
    have HT := hid hT
    have hz : ((0 : Nat) : Int) = 0 := rfl
    rw [h0] at hlen
    have hlen' : ∀ (w' : World), (Builtin.len_ #[22] 3 #[tv]).run Try.prog w' = .ok (.int .i64 0) w' := hlen
    clear hT hlen h0
    go_enter Try.func25, Try.ntmps25
    go_wp2
    refine wp_loop_once ?_
    go_wp2
    go_ret
    exact RB.mk (fun _ => HT.out) HB.out
  obtain ⟨bL, oL, lvL, hbL, hiaL, hcL, hlvL⟩ := ht.leaf (t.length - 1) (by omega)
  rw [show ((t.length - 1 : Nat) : Int) = (t.length : Int) - 1 by omega] at hiaL
  have hllL := fun w' => hlvL.len w' (ty := 3)
  have hleL := hlvL.le
  obtain ⟨lfL, hlfL⟩ : ∃ lf, lf = t.getD (t.length - 1) [] := ⟨_, rfl⟩
  rw [← hlfL] at hllL hleL
  clear hlfL hlvL
  by_cases h5 : lfL.length = 0
  · rw [h5] at hllL
    have hll' : ∀ (w' : World), (Builtin.len_ #[76] 3 #[lvL]).run Try.prog w' = .ok (.int .i64 0) w' := hllL
    clear hllL
    go_enter Try.func25, Try.ntmps25
    go_wp2
    go_ret
    exact RB.mk (fun h => by cases h) HB.out
  have he5 : ((lfL.length : Int) == 0) = false := by rw [beq_eq_false_iff_ne]; omega
  by_cases h6 : 512 < t.length
  · go_enter Try.func25, Try.ntmps25
    go_wp2
    go_ret
    exact RB.mk (fun h => by cases h) HB.out
  have HW := hid hw
  clear hw h5
  go_enter Try.func25, Try.ntmps25
  go_wp2_with fail
  clear hiaL hcL hllL
  go_loopw [7] (fun i wr => ∃ k : Nat, k ≤ t.length ∧ i = .int .i64 k ∧ Below w.heap.size w wr ∧ wr.heap[w.heap.size]? = some (.cells #[tv] 24 (0, 0)) ∧ Hid (∀ j, j < k → LeafP (t.getD j [])))
    (fun i _ => t.length - (intOf i).toNat)
  case atStart => exact ⟨0, by omega, rfl, HB.out, hbx.out, fun j hj => absurd hj (by omega)⟩
  case round =>
    obtain ⟨k, hk, rfl, hbel, hbx2, HP⟩ := hrel
    have hz := hbel.size
    have hcx : wr.cell? ⟨w.heap.size, 0, none⟩ = some tv := by simp [World.cell?, hbx2]
    have hzb : w.heap.size < wr.heap.size := (Array.getElem?_eq_some_iff.1 hbx2).1
    have HBX := hid hbx2
    clear hbx2 HB hbx
    by_cases hlt : k < t.length
    · obtain ⟨b, o, lv, hbb, hia, hcw, hlv⟩ := ht.leaf k hlt
      have hc : wr.cell? ⟨b, o, none⟩ = some lv := (hbel.cell (p := ⟨b, o, none⟩) hbb).trans hcw
      have HCW := hid hcw
      clear hcw
      have hll := fun w' => hlv.len w' (ty := 3)
      have hwk := HW.out k hlt
      have HLeaf := hid (fun (h : LeafP (t.getD k [])) (j : Nat) (hj : j < k + 1) => (show LeafP (t.getD j []) from if e : j = k then e ▸ h else HP.out j (by omega)))
      obtain ⟨lf, hlf⟩ : ∃ lf, lf = t.getD k [] := ⟨_, rfl⟩
      rw [← hlf] at hlv hll hwk HLeaf
      clear hlf
      have HWK := hid hwk
      have HLV := hid hlv
      clear hwk hlv
      by_cases hl0 : lf.length = 0
      · have hL : LeafP lf := fun q hq => by omega
        have HL2 := hid (HLeaf.out hL)
        have hll' : ∀ (w' : World), (Builtin.len_ #[76] 3 #[lv]).run Try.prog w' = .ok (.int .i64 0) w' := by rw [hl0] at hll; exact hll
        clear hll hL hl0
        go_wp2
        go_roundw
        case rel => exact ⟨k + 1, by omega, by go_num, hbel, HBX.out, HL2⟩
        case measure => simp [intOf]; omega
      by_cases hl8 : lf.length = 8
      · have hll' : ∀ (w' : World), (Builtin.len_ #[76] 3 #[lv]).run Try.prog w' = .ok (.int .i64 8) w' := by rw [hl8] at hll; exact hll
        have he1 : ((8 : Int) == 0) = false := rfl
        clear hll hl0
        obtain ⟨wA, rfl⟩ : ∃ wA : World, wA = wr := ⟨_, rfl⟩
        go_wp2_with fail
        go_loopw [8, 9] (fun s q wq => ∃ (j : Nat) (sb : Bool), j ≤ 8 ∧ q = .int .i64 j ∧ s = .bool sb ∧ Below w.heap.size w wq ∧ wq.heap[w.heap.size]? = some (.cells #[tv] 24 (0, 0)) ∧ Hid (∀ q, q < j → MayP (lf.getD q .zero)))
          (fun _ q _ => 8 - (intOf q).toNat)
        case atStart => exact ⟨0, false, by omega, rfl, rfl, hbel, HBX.out, fun q hq => absurd hq (by omega)⟩
        case round =>
          obtain ⟨j, sb, hj, rfl, rfl, hbel2, hbx3, HM⟩ := hrel
          clear hc hcx HBX
          have hz2 := hbel2.size
          have hcx : wr.cell? ⟨w.heap.size, 0, none⟩ = some tv := by simp [World.cell?, hbx3]
          have hzb2 : w.heap.size < wr.heap.size := (Array.getElem?_eq_some_iff.1 hbx3).1
          have hc : wr.cell? ⟨b, o, none⟩ = some lv := (hbel2.cell (p := ⟨b, o, none⟩) hbb).trans HCW.out
          have HBX := hid hbx3
          clear hbx3
          by_cases hj8 : j < 8
          · have hlv2 : SlE wr w.heap.size lv lf := SlG.below HLV.out hbel2 (Nat.le_refl _)
            obtain ⟨b2, o2, hb2, hia2, d0, d1, d2, d3, d4⟩ := hlv2.at j (by omega)
            have hwe := HWK.out j (by omega)
            have HMM := hid (fun (h : MayP (lf.getD j .zero)) (q : Nat) (hq : q < j + 1) => (show MayP (lf.getD q .zero) from if e : q = j then e ▸ h else HM.out q (by omega)))
            obtain ⟨E, hE⟩ : ∃ E, E = lf.getD j .zero := ⟨_, rfl⟩
            rw [← hE] at d0 d1 d2 d3 d4 hwe HMM
            clear hE hlv2
            have HMA := hid (fun w' => may_any E c w' hwe ⟨hc1, hc2⟩)
            have hbA : Below wr.heap.size wr (wr.alloc (.cells #[.int .i64 E.kind, .int .i64 E.start, .int .i64 E.count, .int .i64 E.size, .int .u32 E.sum] 39)) := (Below.refl _ _).alloc (Nat.le_refl _) _
            have hzA := hbA.size
            have hk39 := World.alloc_heap_new wr (.cells #[.int .i64 E.kind, .int .i64 E.start, .int .i64 E.count, .int .i64 E.size, .int .u32 E.sum] 39)
            have HBA := hid (And.intro hbA hk39)
            clear hbA hwe hk39
            have hms : (wr.alloc (.cells #[.int .i64 E.kind, .int .i64 E.start, .int .i64 E.count, .int .i64 E.size, .int .u32 E.sum] 39)).heap.size = wr.heap.size + 1 := World.size_alloc _ _
            have HMS := hid hms
            clear hms
            go_wp2_with fail
            refine (HMA.out _).mono ?_
            rintro e w5 ⟨bb, rfl, hPb, hb5⟩
            have hb6 : Below wr.heap.size wr w5 := HBA.out.1.trans (hb5.mono hzA)
            have hk5 : w5.heap[wr.heap.size]? = some (.cells #[.int .i64 E.kind, .int .i64 E.start, .int .i64 E.count, .int .i64 E.size, .int .u32 E.sum] 39 (0, 0)) := (hb5.block wr.heap.size (by rw [HMS.out]; omega)).trans HBA.out.2
            have q0 : w5.cell? ⟨wr.heap.size, 0, none⟩ = some (.int .i64 E.kind) := by simp [World.cell?, hk5]
            have hb7 := hbel2.trans (hb6.mono hz2)
            have hbx7 : w5.heap[w.heap.size]? = some (.cells #[tv] 24 (0, 0)) := (hb6.block w.heap.size hzb2).trans HBX.out
            have HBE := hid (And.intro hb7 hbx7)
            have HPB := hid hPb
            clear hPb hb7 hbx7 hb6 hb5 hk5 hia hia2 d0 d1 d2 d3 d4 hc hcx HBA HMA
            cases bb
            · go_wp2
              go_ret
              exact RB.mk (fun h => by cases h) HBE.out.1
            · have HMM2 := hid (HMM.out (HPB.out rfl))
              cases sb
              · go_wp2
                all_goals first | (go_ret; exact RB.mk (fun h => by cases h) HBE.out.1) | (go_roundw; (case rel => exact ⟨j + 1, _, by omega, by go_num, rfl, HBE.out.1, HBE.out.2, HMM2⟩); (case measure => (simp [intOf]; omega)))
              · go_wp2
                all_goals first | (go_ret; exact RB.mk (fun h => by cases h) HBE.out.1) | (go_roundw; (case rel => exact ⟨j + 1, _, by omega, by go_num, rfl, HBE.out.1, HBE.out.2, HMM2⟩); (case measure => (simp [intOf]; omega)))
          · obtain rfl : j = 8 := by omega
            have HL2 := hid (HLeaf.out (fun q hq => HM.out q (by omega)))
            clear hia hc
            cases sb
            · go_wp2
              go_ret
              exact RB.mk (fun h => by cases h) hbel2
            · go_wp2
              go_roundw
              case rel => exact ⟨k + 1, by omega, by go_num, hbel2, HBX.out, HL2⟩
              case measure => simp [intOf]; omega
      · have he1 : ((lf.length : Int) == 0) = false := by rw [beq_eq_false_iff_ne]; omega
        have he2 : ((lf.length : Int) != 8) = true := by rw [bne_iff_ne]; omega
        clear hl0 hl8
        go_wp2
        go_ret
        exact RB.mk (fun h => by cases h) hbel
    · obtain rfl : k = t.length := by omega
      go_wp2
      go_ret
      exact RB.mk (fun _ => fun i hi => HP.out i hi) hbel
end Go.Proofs.Ytpgdncpomacghaa
