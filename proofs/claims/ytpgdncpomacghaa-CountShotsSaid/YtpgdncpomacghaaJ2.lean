import Derived.Test.YtpgdncpomacghaaJ
import Derived.Test.YtpgdncpomacghaaO2
namespace Go.Proofs.Ytpgdncpomacghaa
open Go.RowKit Go.Mx Go.Cnt Go.Shelf

theorem sizeB (w : World) : (sizeOf 5).run Try.prog w = .ok 1 w := by kernel_rfl

def m3 (b : UInt8) : Int := (b.toNat : Int) % 3

theorem slB_addr {w : World} {B : Nat} {v : Value} {bs : List UInt8} {P : Program} {t e : TypeId} (h : SlB w B v bs) (ht : P.underlying t = some (.slice e)) (hs : ∀ w, (sizeOf e).run P w = .ok 1 w) (i : Nat) (hi : i < bs.length) :
    ∃ b o, b < B ∧ (∀ w' (k : IntKind), (Instr.indexAt t v (.int k (i : Int))).run P w' = .ok (.pointer (some ⟨b, o, none⟩)) w') ∧ w.cell? ⟨b, o, none⟩ = some (u8 (bs.getD i 0)) := by
  obtain ⟨oa', cap', rfl, hc, hm, hr⟩ := id h
  have ht' : P.underlying t = some (.slice (P.elem t)) := by rw [ht]; simp [Program.elem, ht]
  have hel : P.elem t = e := by simp [Program.elem, ht]
  obtain ⟨bb, bo, rfl, hlb, hrd⟩ := hr (by rintro rfl; simp at hi)
  refine ⟨bb, bo + i, hlb, fun w' k => ?_, hrd.at hi⟩
  rw [run_indexAt_slice (h := ht'), if_pos (by omega), hel, hs]
  simp [Result.andThen, Addr.add]

set_option maxRecDepth 100000 in
set_option maxHeartbeats 2000000 in
theorem countRooms_walk (bs : List UInt8) (bv : Value) (n f : Int) (w : World) (hb : SlB w w.heap.size bv bs) (hn : 0 ≤ n ∧ n ≤ 255) (hf : 0 ≤ f ∧ f ≤ 255) :
    Calls Try.prog 7 #[bv, .int .u8 n, .int .u8 f] w fun e w' => e = .returned (.bool true) ∧ Below w.heap.size w w' := by
  obtain ⟨hn0, hn1⟩ := hn
  obtain ⟨hf0, hf1⟩ := hf
  have hlen := fun w' => (show (Builtin.len_ #[45] 3 #[bv]).run Try.prog w' = .ok (.int .i64 bs.length) w' from len_sl Try.underlying45 hb.choose_spec.choose_spec.1 w')
  by_cases h1 : 500 < bs.length
  · go_enter Try.func7, Try.ntmps7
    go_wp2_with (go_at_call 13; refine (awake_any _).mono ?_; rintro e w' ⟨rfl, hbel⟩)
    go_ret
    exact ⟨rfl, hbel⟩
  go_enter Try.func7, Try.ntmps7
  go_wp2_with fail
  go_loopw [7, 8] (fun v i wr => ∃ j : Nat, j ≤ bs.length ∧ i = .int .i64 j ∧ OwnI wr w.heap.size v ((bs.take j).map m3) ∧ Below w.heap.size w wr)
    (fun _ i _ => bs.length - (intOf i).toNat)
  case atStart => exact ⟨0, by omega, rfl, OwnV.nil _ _ _, Below.refl _ _⟩
  case round =>
    obtain ⟨j, hj, rfl, ho, hbel⟩ := hrel
    have hz := hbel.size
    by_cases hlt : j < bs.length
    · obtain ⟨b, o, hbb, hia, hc⟩ := slB_addr (hb.below hbel (Nat.le_refl _)) (P := Try.prog) Try.underlying45 sizeB j hlt
      have hsn : ((bs.take (j + 1)).map m3) = (bs.take j).map m3 ++ [m3 (bs.getD j 0)] := by
        rw [List.take_succ_eq_append_getElem hlt, List.map_append, List.getD_eq_getElem?_getD, List.getElem?_eq_getElem hlt]; rfl
      have HS := hid hsn
      have hbd := (bs.getD j 0).toNat_lt
      obtain ⟨x, hx⟩ : ∃ x, x = bs.getD j 0 := ⟨_, rfl⟩
      rw [← hx] at hc hbd HS
      clear hx hsn
      have hl2 : ((bs.take j).map m3).length ≤ 500 := by simp; omega
      go_wp2_with (at_builtin; refine append_int _ rfl _ _ 27 rfl Try.underlying27 Try.info3 w.heap.size _ _ (m3 x) rfl (World.ownsRow.alloc ho _) wr.heap.size 1 rfl ?_ ?_ ?_ ?_)
      · exact World.cell?_alloc_at _ _ _ _ rfl
      · omega
      · rw [World.size_alloc]; omega
      intro v' w1 ho1 hb1
      have hb2 := hbel.trans (((Below.refl w.heap.size wr).alloc hz _).trans hb1)
      clear hb1 hia hc ho hbel
      go_wp2
      go_roundw
      case rel => exact ⟨j + 1, by omega, by go_num, by rw [HS.out, List.map_take]; exact ho1, hb2⟩
      case measure => simp [intOf]; omega
    · obtain rfl : j = bs.length := by omega
      rw [List.take_length] at ho
      have hlu : (bs.map m3).length ≤ 500 := by simp; omega
      have hu := ho.slI
      generalize bs.map m3 = us at *
      clear ho hlt hj
      obtain ⟨k, hk⟩ : ∃ k : Nat, 1 + n % 9 = (k : Int) := Int.eq_ofNat_of_zero_le (by omega)
      have hk1 : 1 ≤ k := by omega
      have hk2 : k ≤ 9 := by omega
      obtain ⟨F, rfl⟩ := Int.eq_ofNat_of_zero_le hf0
      have hl2 := fun w' => hu.len (P := Try.prog) (ty := 3) Try.underlying27 w'
      have hge := le_first us k F
      have hle := first_max us k F
      have HIS := hid (first_is us k F)
      have HNOT := hid (fun p => first_not us k _ F p rfl)
      obtain ⟨s, hs⟩ : ∃ s, s = first us k F := ⟨_, rfl⟩
      have F1 : freeM us k F 2000 = ((s : Int), true) := by
        unfold freeM
        rw [if_neg (by omega), Int.toNat_natCast, Int.toNat_natCast, ← hs, if_neg (by omega)]
      rw [← hs] at hge hle HIS HNOT
      have hss : first us k s = s := first_free _ _ _ HIS.out
      have F2 : freeM us k s ((s : Int) + k - 1) = (0, false) := by
        unfold freeM
        by_cases h : s = 0
        · rw [if_pos (by omega)]
        · rw [if_neg (by omega), Int.toNat_natCast, Int.toNat_natCast, hss, if_pos (by omega)]
      have H1 := free_any us u7 k F 2000 wr hu (by omega) (by omega) (by omega) (by omega)
      have H2 := free_any us u7 k s ((s : Int) + k - 1) wr hu (by omega) (by omega) (by omega) (by omega)
      rw [F1] at H1
      rw [F2] at H2
      have HH1 := hid H1
      have HH2 := hid H2
      clear H1 H2 F1 F2 hss hs
      go_wp2_with fail
      refine HH1.out.mono ?_
      rintro e w' ⟨rfl, rfl⟩
      go_wp2_with fail
      clear hlen
      go_loop [12, 13, 14] (fun p _ _ => ∃ P : Nat, F ≤ P ∧ P ≤ s + 1 ∧ p = .int .i64 P)
        (fun p _ _ => s + 1 - (intOf p).toNat)
      case atStart => exact ⟨F, Nat.le_refl _, by omega, rfl⟩
      case round =>
        obtain ⟨P, hP1, hP2, rfl⟩ := hrel
        by_cases hPs : P ≤ s
        · go_wp2_with fail
          go_loop [13, 14] (fun ok i => ∃ j : Nat, P ≤ j ∧ j ≤ max P us.length ∧ j ≤ P + k ∧ i = .int .i64 j ∧ ok = .bool (freeB us P (j - P)))
            (fun _ i => us.length - (intOf i).toNat)
          case atStart => exact ⟨P, Nat.le_refl _, by omega, by omega, rfl, by rw [Nat.sub_self, freeB_zero]⟩
          case round =>
            obtain ⟨j, hsj, hj, hjk, rfl, rfl⟩ := hrel
            have hj2 : j ≤ 1000000 := by omega
            by_cases hend : j < P + k ∧ j < us.length
            · obtain ⟨hjn2, hjl⟩ := hend
              obtain ⟨b, o, hbb, hia, hc⟩ := hu.addr (P := Try.prog) Try.underlying27 sizeI j hjl
              have hsucc := freeB_succ us P (j - P) (by omega)
              rw [show P + (j - P) = j by omega] at hsucc
              obtain ⟨x, hx⟩ : ∃ x, x = us.getD j 0 := ⟨_, rfl⟩
              rw [← hx] at hc hsucc
              clear hx
              obtain ⟨bo, hbo⟩ : ∃ bo, bo = freeB us P (j - P) := ⟨_, rfl⟩
              rw [← hbo] at hsucc ⊢
              have HS := hid hsucc
              clear hbo hsucc
              cases bo
              · go_wp2_with fail
                go_round
                case rel => exact ⟨j + 1, by omega, by omega, by omega, by go_num, by rw [show j + 1 - P = j - P + 1 by omega, HS.out]; rfl⟩
                case measure => simp [intOf]; omega
              · go_wp2_with fail
                go_round
                case rel => exact ⟨j + 1, by omega, by omega, by omega, by go_num, by rw [show j + 1 - P = j - P + 1 by omega, HS.out]; simp⟩
                case measure => simp [intOf]; omega
            · have hz2 : freeB us P (j - P) = freeB us P k := by
                by_cases h : j < P + k
                · exact freeB_past _ _ _ _ (by omega) (by omega)
                · congr 1; omega
              have hfb : freeB us P (j - P) = decide (P = s) := by
                rw [hz2]
                by_cases h : P = s
                · subst h; rw [HIS.out]; simp
                · rw [HNOT.out P (by omega) (by omega)]; simp [h]
              rw [hfb]
              clear hfb hz2
              by_cases hPe : P = s
              · subst hPe
                have hbe : ((P : Int) == (P : Int)) = true := by simp
                simp only [decide_true]
                by_cases hj1 : j < P + k
                · have hj3 : us.length ≤ j := by omega
                  clear hend
                  go_wp2_with fail
                  go_round
                  case rel => exact ⟨P + 1, by omega, by omega, by go_num⟩
                  case measure => first | (simp [intOf]; omega) | simp [intOf]
                · clear hend
                  go_wp2_with fail
                  go_round
                  case rel => exact ⟨P + 1, by omega, by omega, by go_num⟩
                  case measure => first | (simp [intOf]; omega) | simp [intOf]
              · have hbe : ((P : Int) == (s : Int)) = false := by rw [beq_eq_false_iff_ne]; omega
                rw [decide_eq_false hPe]
                by_cases hj1 : j < P + k
                · have hj3 : us.length ≤ j := by omega
                  clear hend
                  go_wp2_with fail
                  go_round
                  case rel => exact ⟨P + 1, by omega, by omega, by go_num⟩
                  case measure => first | (simp [intOf]; omega) | simp [intOf]
                · clear hend
                  go_wp2_with fail
                  go_round
                  case rel => exact ⟨P + 1, by omega, by omega, by go_num⟩
                  case measure => first | (simp [intOf]; omega) | simp [intOf]
        · go_wp2_with fail
          refine HH2.out.mono ?_
          rintro e w' ⟨rfl, rfl⟩
          go_wp2_with (go_at_call 13; refine (awake_any _).mono ?_; rintro e w' ⟨rfl, hb13⟩)
          go_ret
          exact ⟨rfl, hbel.trans (hb13.mono hz)⟩
end Go.Proofs.Ytpgdncpomacghaa
