import Derived.Test.YtmbfcpdflhjfnaaD
import Derived.Deep.QuietTactic
import Derived.BigQuiet
namespace Go.Proofs.Ytmbfcpdflhjfnaa
open Go.RowKit Go.Mx Go.Lz

theorem and15 (x : Nat) (h : x < 256) : bits .and .i64 (x : Int) 15 = ((x % 16 : Nat) : Int) := by
  have e : ∀ n : Nat, n < 65536 → (BitVec.ofInt 64 (n:Int)).toNat = n := by
    intro n hn; simp [BitVec.toNat_ofInt]; omega
  have e3 : (BitVec.ofInt 64 (x:Int) &&& BitVec.ofInt 64 ((15 : Nat) : Int)).toNat = x % 16 := by
    rw [BitVec.toNat_and, e x (by omega), e 15 (by omega)]
    exact Nat.and_two_pow_sub_one_eq_mod x 4
  show IntKind.i64.wrap ((BitVec.ofInt 64 (x:Int) &&& BitVec.ofInt 64 ((15 : Nat) : Int)).toNat : Int) = _
  rw [e3]
  simp [IntKind.wrap, IntKind.bits, IntKind.signed]
  omega

structure RSt (w0 wr : World) (v : Value) (out : List UInt8) (room : Nat) : Prop where
  bel : Below w0.heap.size w0 wr
  own : OwnB wr w0.heap.size 5 v out
  ole : out.length ≤ room

theorem RSt.app {w0 wr wr' : World} {v v' : Value} {out out' : List UInt8} {room : Nat} (h : RSt w0 wr v out room)
    (hb : Below w0.heap.size wr wr') (ho : OwnB wr' w0.heap.size 5 v' out') (hl : out'.length ≤ room) : RSt w0 wr' v' out' room :=
  ⟨h.bel.trans hb, ho, hl⟩

theorem RSt.drewN {w0 wr : World} {v : Value} {out : List UInt8} {room : Nat} (h : RSt w0 wr v out room) (n : Nat) : RSt w0 (wr.drewN n) v out room :=
  ⟨below_drewN h.bel n, h.own, h.ole⟩

theorem UPost.ok' {w w' : World} {R : Res} {v : Value} {l : List UInt8} (h : R = .ok l) (hb : Below w.heap.size w w') (ho : OwnB w' w.heap.size 5 v l) : UPost w R (.returned (.tuple #[v, .int .i64 0])) w' := by
  subst h; exact ⟨hb, v, rfl, ho⟩

set_option maxRecDepth 100000 in
set_option maxHeartbeats 4000000 in
theorem runpack_some (bs : List UInt8) (bb bo cap room : Nat) (w : World) (hx : RdB w bb bo bs) (hbb : bb < w.heap.size) (hcap : bs.length ≤ cap) (hcm : cap ≤ maxLen) (hne : 0 < bs.length) (hlen : bs.length ≤ 1000000000000) (hroom : room ≤ 1048576) :
    Calls Try.prog 13 #[.slice (some ⟨bb, bo, none⟩) bs.length cap, .int .i64 room] w (UPost w (unp room (bs.length + 1) bs [])) := by
  obtain ⟨R, hR⟩ : ∃ R, R = unp room (bs.length + 1) bs [] := ⟨_, rfl⟩
  rw [← hR]
  have HR := hid hR
  clear hR
  have hcm' : bs.length ≤ 9223372036854775807 := by omega
  clear hcm
  have hlz : ((bs.length : Int) == 0) = false := by rw [beq_eq_false_iff_ne]; omega
  go_enter Try.func13, Try.ntmps13
  go_wp2
  go_loopw [6, 7] (fun v at_ wr => ∃ k f : Nat, ∃ out : List UInt8, RSt w wr v out room ∧ at_ = .int .i64 k ∧ k ≤ bs.length ∧ bs.length - k < f ∧ Hid (R = unpE (unp room f) (bs.drop k) out))
    (fun _ at_ _ => bs.length - (intOf at_).toNat)
  case atStart =>
    exact ⟨0, bs.length + 1, [], ⟨Below.refl _ _, OwnB.nil _ _ _, by simp⟩, rfl, by omega, by omega, by rw [HR.out, List.drop_zero]; unfold Hid unpE; rw [if_neg (by rintro rfl; simp at hne)]⟩
  case round =>
    obtain ⟨k, f, out, hst, rfl, hk, hf, HR'⟩ := hrel
    clear HR
    obtain ⟨f, rfl⟩ : ∃ f', f = f' + 1 := ⟨f - 1, by omega⟩
    by_cases hlt : k < bs.length
    · obtain ⟨tok, htok⟩ : ∃ tok, tok = bs.getD k 0 := ⟨_, rfl⟩
      have hR1 := HR'.out
      rw [unpE, if_neg (by rw [List.drop_eq_nil_iff]; omega), drop_getD bs k hlt, ← htok, unp] at hR1
      have HR1 := hid hR1
      have hcell := (hx.below hst.bel hbb).at hlt
      rw [← htok] at hcell
      have htl := UInt8.toNat_lt tok
      clear hR1 HR' htok
      go_wp2_with fail
      clear hcell
      rw [show ((tok.toNat : Int) / 16) = ((tok.toNat / 16 : Nat) : Int) from by omega]
      refine (rlength_any (k+1) (tok.toNat / 16) bb bo cap bs _ (hx.below hst.bel hbb) hcap (by omega) (by omega) hlen).mono ?_
      intro e w' hp
      obtain ⟨rfl, hp⟩ := hp
      cases hL : lenM (bs.drop (k+1)) (tok.toNat / 16) with
      | none =>
        rw [hL] at hp
        have hR2 := HR1.out
        rw [hL] at hR2
        have HR2 := hid hR2
        clear hR2 HR1 hL
        obtain rfl := hp
        go_wp2
        go_ret2
        exact UPost.err 3 HR2.out rfl hst.bel
      | some nc =>
        obtain ⟨n, c⟩ := nc
        rw [hL] at hp
        have hR2 := HR1.out
        rw [hL] at hR2
        simp only [List.drop_drop] at hR2
        have HR2 := hid hR2
        have hLb := lenM_bd _ _ _ _ (by omega) hL
        rw [List.length_drop] at hLb
        obtain ⟨hLc, hLn⟩ := hLb
        clear hR2 HR1 hL
        obtain rfl := hp
        go_wp2_with fail
        go_loopw [6, 7, 12] (fun v at_ i wq => ∃ j k3 : Nat, ∃ out3 : List UInt8, RSt w wq v out3 room ∧ at_ = .int .i64 k3 ∧ k3 ≤ bs.length ∧ j ≤ n ∧ i = .int .i64 j ∧ k < k3 ∧
            Hid (R = unpB room (unp room f) tok (n - j) (bs.drop k3) out3))
          (fun _ _ i _ => n - (intOf i).toNat)
        case atStart => exact ⟨0, k+1+c, out, hst, by go_num, by omega, by omega, rfl, by omega, HR2⟩
        case round =>
          obtain ⟨j, k3, out3, hst3, rfl, hk3l, hj, rfl, hk3, HR3⟩ := hrel
          have hnb : n ≤ 300000000000000 := by omega
          clear hst HR2 hLc hLn
          have hx3 := hx.below hst3.bel hbb
          by_cases hjn : j < n
          · by_cases hlt3 : k3 < bs.length
            · obtain ⟨x, hxx⟩ : ∃ x, x = bs.getD k3 0 := ⟨_, rfl⟩
              have hR4 := HR3.out
              rw [drop_getD bs k3 hlt3, ← hxx, show n - j = (n - (j+1)) + 1 by omega] at hR4
              have hcell := hx3.at hlt3
              rw [← hxx] at hcell
              clear hxx hx3
              have hol := hst3.ole
              have hlo := fun w => len_own Try.underlying22 (ty := 3) hst3.own w
              by_cases hfull : out3.length = room
              · rw [unpB_full _ _ _ _ _ _ _ hfull] at hR4
                have HR4 := hid hR4
                clear hR4 HR3
                have hge : room ≤ out3.length := by omega
                clear hfull
                go_wp2
                go_ret2
                exact UPost.err 2 HR4.out rfl hst3.bel
              · rw [unpB_step _ _ _ _ _ _ _ hfull] at hR4
                have HR4 := hid hR4
                clear hR4 HR3
                have hge : out3.length < room := by omega
                clear hfull hol
                go_wp2_with (at_builtin; refine append_byte _ rfl _ _ 22 5 rfl Try.underlying22 Try.info5 w.heap.size _ out3 x rfl (hst3.own.alloc _) wr.heap.size 1 rfl (cell_alloc1 _ _ _) ?_ ?_ ?_)
                · omega
                · have := hst3.bel.size; simp; omega
                intro v' w' ho hbl
                have hst5 := hst3.app (((Below.refl _ wr).alloc hst3.bel.size _).trans hbl) ho (by simp; omega)
                clear hbl ho hlo hst3 hcell
                go_wp2
                go_roundw
                case rel => exact ⟨j+1, k3+1, _, hst5, by go_num, by omega, by omega, by go_num, by omega, HR4⟩
                case measure => simp [intOf]; omega
            · have hR4 := HR3.out
              rw [List.drop_eq_nil_of_le (by omega), show n - j = (n - j - 1) + 1 by omega, unpB_end] at hR4
              have HR4 := hid hR4
              clear hR4 HR3 hx3
              go_wp2
              go_ret2
              exact UPost.err 3 HR4.out rfl hst3.bel
          · obtain rfl : n = j := by omega
            have hR4 := HR3.out
            rw [Nat.sub_self, unpB_zero] at hR4
            have HR4 := hid hR4
            clear hR4 HR3
            by_cases hk3e : k3 = bs.length
            · have hcm2 : ((k3 : Int) == (bs.length : Int)) = true := by simp [hk3e]
              have hR5 := HR4.out
              rw [List.drop_eq_nil_of_le (by omega), unpC] at hR5
              have HR5 := hid hR5
              clear hR5 HR4 hk3e hx3
              go_wp2
              go_ret2
              exact UPost.ok' HR5.out hst3.bel hst3.own
            · have hcm2 : ((k3 : Int) == (bs.length : Int)) = false := by simp; omega
              have hlt3 : k3 < bs.length := by omega
              obtain ⟨lo, hlo⟩ : ∃ x, x = bs.getD k3 0 := ⟨_, rfl⟩
              have hR5 := HR4.out
              rw [drop_getD bs k3 hlt3, ← hlo] at hR5
              have HR5 := hid hR5
              have hc1 := hx3.at hlt3
              rw [← hlo] at hc1
              clear hR5 HR4 hlo
              have hlol := UInt8.toNat_lt lo
              by_cases hlt4 : k3 + 1 < bs.length
              · obtain ⟨hi, hhi⟩ : ∃ x, x = bs.getD (k3+1) 0 := ⟨_, rfl⟩
                have hR6 := HR5.out
                rw [drop_getD bs (k3+1) hlt4, ← hhi, unpC] at hR6
                have hc2 := hx3.at hlt4
                rw [← hhi] at hc2
                clear HR5 hhi hx3
                have hhil := UInt8.toNat_lt hi
                have hlo := fun w => len_own Try.underlying22 (ty := 3) hst3.own w
                have hor := or_hi lo.toNat hi.toNat hlol hhil
                obtain ⟨d, hd⟩ : ∃ d, d = lo.toNat + 256 * hi.toNat := ⟨_, rfl⟩
                rw [← hd] at hor
                have hR7 := hR6
                rw [← hd] at hR7
                have hdb : d ≤ 65535 := by omega
                have HR7 := hid hR7
                clear hR6 hd hR7
                go_wp2
                go_quiet (fail)
                have hst4 := hst3.drewN nq
                obtain ⟨wq, hwq⟩ : ∃ wq, wq = wr.drewN nq := ⟨_, rfl⟩
                rw [← hwq] at hst4 ⊢
                clear hwq hst3 hlo hc1 hc2 hor
                have hst3 := hst4
                clear hst4
                have hlo := fun w => len_own Try.underlying22 (ty := 3) hst3.own w
                have hR7 := HR7.out
                clear HR7
                by_cases hd0 : d = 0 ∨ out3.length < d
                · rw [if_pos hd0] at hR7
                  have HR7 := hid hR7
                  clear hR7
                  by_cases hd1 : d = 0
                  · have hc3 : ((d : Int) == 0) = true := by simp [hd1]
                    clear hd0 hd1
                    go_wp2
                    go_ret2
                    exact UPost.err 3 HR7.out rfl hst3.bel
                  · have hc3 : ((d : Int) == 0) = false := by simp; omega
                    have hc4 : out3.length < d := by omega
                    clear hd0 hd1
                    go_wp2
                    go_ret2
                    exact UPost.err 3 HR7.out rfl hst3.bel
                · rw [if_neg hd0] at hR7
                  have HR7 := hid hR7
                  clear hR7
                  have hc3 : ((d : Int) == 0) = false := by simp; omega
                  have hc4 : d ≤ out3.length := by omega
                  have hc5 : 0 < d := by omega
                  clear hd0
                  go_wp2_with fail
                  clear hlo hnb hlol hhil
                  rw [and15 tok.toNat htl, show ((k3 : Int) + 2) = ((k3 + 1 + 1 : Nat) : Int) from by omega]
                  refine (rlength_any (k3+1+1) (tok.toNat % 16) bb bo cap bs _ (hx.below hst3.bel hbb) hcap (by omega) (by omega) hlen).mono ?_
                  intro e w' hp
                  obtain ⟨rfl, hp⟩ := hp
                  cases hL : lenM (bs.drop (k3+1+1)) (tok.toNat % 16) with
                  | none =>
                    rw [hL] at hp
                    have hR2 := HR7.out
                    rw [hL] at hR2
                    have HR2 := hid hR2
                    clear hR2 HR7 hL
                    obtain rfl := hp
                    go_wp2
                    go_ret2
                    exact UPost.err 3 HR2.out rfl hst3.bel
                  | some nc =>
                    obtain ⟨m, c⟩ := nc
                    rw [hL] at hp
                    have hR2 := HR7.out
                    rw [hL] at hR2
                    simp only [List.drop_drop] at hR2
                    have HR2 := hid hR2
                    have hLb := lenM_bd _ _ _ _ (by omega) hL
                    rw [List.length_drop] at hLb
                    obtain ⟨hLc, hLn⟩ := hLb
                    clear hR2 HR7 hL
                    obtain rfl := hp
                    have hmb : m ≤ 300000000000000 := by omega
                    go_wp2_with fail
                    go_loopw [6, 17] (fun v i wq => ∃ j : Nat, ∃ out4 : List UInt8, RSt w wq v out4 room ∧ j ≤ m + 4 ∧ i = .int .i64 j ∧ d ≤ out4.length ∧
                        Hid (R = unpD room (unp room f) d (m + 4 - j) (bs.drop (k3+1+1+c)) out4))
                      (fun _ i _ => m + 4 - (intOf i).toNat)
                    case atStart => exact ⟨0, out3, hst3, by omega, rfl, hc4, HR2⟩
                    case round =>
                      obtain ⟨j, out4, hst7, hj, rfl, hd4, HR3⟩ := hrel
                      clear hst3 HR2
                      have hol := hst7.ole
                      by_cases hjn : j < m + 4
                      · have hR4 := HR3.out
                        rw [show m + 4 - j = (m + 4 - (j+1)) + 1 by omega] at hR4
                        by_cases hfull : out4.length = room
                        · rw [unpD_full _ _ _ _ _ _ hfull] at hR4
                          have HR4 := hid hR4
                          clear hR4 HR3
                          have hlo := fun w => len_own Try.underlying22 (ty := 3) hst7.own w
                          have hge : room ≤ out4.length := by omega
                          clear hfull
                          go_wp2
                          go_ret2
                          exact UPost.err 2 HR4.out rfl hst7.bel
                        · rw [unpD_step _ _ _ _ _ _ hfull] at hR4
                          obtain ⟨y, hy⟩ : ∃ y, y = out4.getD (out4.length - d) 0 := ⟨_, rfl⟩
                          rw [← hy] at hR4
                          have HR4 := hid hR4
                          clear hR4 HR3
                          have hge : out4.length < room := by omega
                          obtain ⟨g, gc, rfl, hg1, hg2, hg3, hg4⟩ := hst7.own.at (out4.length - d) (by omega)
                          rw [← hy] at hg4
                          clear hy hfull
                          go_wp2_with (at_builtin; refine append_byte _ rfl _ _ 22 5 rfl Try.underlying22 Try.info5 w.heap.size _ out4 y rfl (hst7.own.alloc _) wr.heap.size 1 rfl (cell_alloc1 _ _ _) ?_ ?_ ?_)
                          · omega
                          · have := hst7.bel.size; simp; omega
                          intro v' w' ho hbl
                          have hst5 := hst7.app (((Below.refl _ wr).alloc hst7.bel.size _).trans hbl) ho (by simp; omega)
                          clear hbl ho hg4 hst7
                          go_wp2
                          go_roundw
                          case rel => exact ⟨j+1, _, hst5, by omega, by go_num, by simp; omega, HR4⟩
                          case measure => simp [intOf]; omega
                      · obtain rfl : j = m + 4 := by omega
                        have hR4 := HR3.out
                        rw [Nat.sub_self, unpD_zero] at hR4
                        have HR4 := hid hR4
                        clear hR4 HR3
                        go_wp2
                        go_roundw
                        case rel => exact ⟨k3+1+1+c, f, _, hst7, by go_num, by omega, by omega, HR4⟩
                        case measure => simp [intOf]; omega
              · have hR6 := HR5.out
                rw [List.drop_eq_nil_of_le (by omega), unpC] at hR6
                have HR6 := hid hR6
                clear hR6 HR5 hx3
                go_wp2
                go_ret2
                exact UPost.err 3 HR6.out rfl hst3.bel
    · have hR1 := HR'.out
      rw [unpE, if_pos (List.drop_eq_nil_of_le (by omega))] at hR1
      have HR1 := hid hR1
      clear hR1 HR'
      go_wp2
      go_ret2
      exact UPost.ok' HR1.out hst.bel hst.own
end Go.Proofs.Ytmbfcpdflhjfnaa
