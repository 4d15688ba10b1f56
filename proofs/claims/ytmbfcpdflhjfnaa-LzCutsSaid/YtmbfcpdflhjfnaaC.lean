import Derived.Test.YtmbfcpdflhjfnaaB
namespace Go.Proofs.Ytmbfcpdflhjfnaa
open Go.RowKit Go.Mx Go.Lz

theorem Try.info5 : (Try.prog.info? 5).map (fun i => (i.zero, i.size, i.bytes)) = some (some (.int .u8 0), 1, 1) := by kernel_rfl

structure USt (w0 wr : World) (bv : Value) (bs : List UInt8) (k : Nat) (v : Value) (out : List UInt8) (room : Nat) : Prop where
  bel : Below w0.heap.size w0 wr
  cbx : wr.cell? ⟨w0.heap.size, 0, none⟩ = some bv
  cat : wr.cell? ⟨w0.heap.size + 1, 0, none⟩ = some (.int .i64 k)
  fat : wr.frozen? ⟨w0.heap.size + 1, 0, none⟩ = false
  cnx : wr.cell? ⟨w0.heap.size + 1 + 1, 0, none⟩ = some (.func (.func 18) #[] #[.pointer (some ⟨w0.heap.size + 1, 0, none⟩), .pointer (some ⟨w0.heap.size, 0, none⟩)])
  sl : SlB wr w0.heap.size bv bs
  own : OwnB wr (w0.heap.size + 3) 5 v out
  sz : w0.heap.size + 3 ≤ wr.heap.size
  kle : k ≤ bs.length
  ole : out.length ≤ room

def UPost (w : World) (R : Res) (e : Ending) (w' : World) : Prop :=
  Below w.heap.size w w' ∧ match R with
  | .error n => e = .returned (.tuple #[.slice none 0 0, .int .i64 n])
  | .ok l => ∃ v, e = .returned (.tuple #[v, .int .i64 0]) ∧ OwnB w' w.heap.size 5 v l

theorem UPost.err {w w' : World} {R : Res} {m : Int} (n : Nat) (h : R = .error n) (hm : m = (n : Int)) (hb : Below w.heap.size w w') : UPost w R (.returned (.tuple #[.slice none 0 0, .int .i64 m])) w' := by
  subst h; subst hm; exact ⟨hb, rfl⟩

theorem USt.set {w0 wr : World} {bv : Value} {bs : List UInt8} {k : Nat} {v : Value} {out : List UInt8} {room : Nat} (h : USt w0 wr bv bs k v out room) {k' : Nat} (hk : k' ≤ bs.length) :
    USt w0 (wr.setCell ⟨w0.heap.size + 1, 0, none⟩ (.int .i64 k')) bv bs k' v out room where
  bel := h.bel.setCell (by simp) _
  cbx := by rw [cs_ne (by omega)]; exact h.cbx
  cat := cs_same h.cat
  fat := by rw [fz_set]; exact h.fat
  cnx := by rw [cs_ne (by omega)]; exact h.cnx
  sl := h.sl.setCell _ (by omega)
  own := h.own.setCell (by omega) _
  sz := by have := h.sz; simpa using this
  kle := hk
  ole := h.ole

theorem UPost.ok {w w' : World} {R : Res} {v : Value} {l : List UInt8} (h : R = .ok l) (hb : Below w.heap.size w w') (ho : OwnB w' (w.heap.size + 3) 5 v l) : UPost w R (.returned (.tuple #[v, .int .i64 0])) w' := by
  subst h; exact ⟨hb, v, rfl, ho.any_base (by omega)⟩

theorem USt.app {w0 wr wr' : World} {bv : Value} {bs : List UInt8} {k : Nat} {v v' : Value} {out out' : List UInt8} {room : Nat} (h : USt w0 wr bv bs k v out room)
    (hb : Below (w0.heap.size + 3) wr wr') (ho : OwnB wr' (w0.heap.size + 3) 5 v' out') (hl : out'.length ≤ room) :
    USt w0 wr' bv bs k v' out' room where
  bel := h.bel.trans (hb.mono (by omega))
  cbx := by rw [hb.cell (p := ⟨_, _, none⟩) (by simp)]; exact h.cbx
  cat := by rw [hb.cell (p := ⟨_, _, none⟩) (by simp)]; exact h.cat
  fat := by rw [hb.frozen (p := ⟨_, _, none⟩) (by simp)]; exact h.fat
  cnx := by rw [hb.cell (p := ⟨_, _, none⟩) (by simp)]; exact h.cnx
  sl := h.sl.below hb (by omega)
  own := ho
  sz := Nat.le_trans h.sz hb.size
  kle := h.kle
  ole := hl

set_option maxRecDepth 100000 in
set_option maxHeartbeats 4000000 in
theorem unpack_any (bs : List UInt8) (bv : Value) (room : Nat) (w : World) (hb : SlB w w.heap.size bv bs) (hlen : bs.length ≤ 1000000000000) (hroom : room ≤ 1048576) :
    Calls Try.prog 12 #[bv, .int .i64 room] w (UPost w (unp room (bs.length + 1) bs [])) := by
  obtain ⟨R, hR⟩ : ∃ R, R = unp room (bs.length + 1) bs [] := ⟨_, rfl⟩
  rw [← hR]
  have HR := hid hR
  clear hR
  obtain ⟨oa, cap, hbv, hb1, hb2, hb3⟩ := id hb
  have HB := hid hbv
  clear hb1 hb2 hb3 hbv
  go_enter Try.func12, Try.ntmps12
  go_wp2_with fail
  go_loopw [9] (fun v wr => ∃ k f : Nat, ∃ out : List UInt8, USt w wr bv bs k v out room ∧ bs.length - k < f ∧ Hid (R = unp room f (bs.drop k) out))
    (fun _ wr => bs.length - ((wr.cell? ⟨w.heap.size + 1, 0, none⟩).map (fun v => (intOf v).toNat)).getD 0)
  case atStart =>
    refine ⟨0, bs.length + 1, [], ?_, by omega, by rw [List.drop_zero]; exact HR⟩
    have hbl : Below w.heap.size w (((w.alloc (.cells #[bv] 22)).alloc (.cells #[.int .i64 0] 3)).alloc (.cells #[(.func (.func 18) #[] #[.pointer (some ⟨w.heap.size + 1, 0, none⟩), .pointer (some ⟨w.heap.size, 0, none⟩)])] 41)) :=
      (((Below.refl _ _).alloc (Nat.le_refl _) _).alloc (by simp) _).alloc (by simp; omega) _
    exact { bel := hbl, cbx := by go_simp, cat := by go_simp, fat := by go_simp, cnx := by go_simp, sl := hb.below hbl (Nat.le_refl _), own := OwnB.nil _ _ _, sz := by simp, kle := Nat.zero_le _, ole := Nat.zero_le _ }
  case round =>
    obtain ⟨k, f, out, hst, hf, HR'⟩ := hrel
    clear HR
    obtain ⟨f, rfl⟩ : ∃ f', f = f' + 1 := ⟨f - 1, by omega⟩
    have HC0 := hid hst.cat
    by_cases hlt : k < bs.length
    · have hnx := hst.cnx
      go_wp2_with fail
      clear hnx
      refine (next_any _ _ w.heap.size k bs bv _ hst.cat hst.fat hst.cbx hst.sl hlen (by omega) (by omega) hlt).mono ?_
      rintro e w' ⟨rfl, rfl⟩
      have hst1 := hst.set (k' := k+1) (by omega)
      obtain ⟨tok, htok⟩ : ∃ tok, tok = bs.getD k 0 := ⟨_, rfl⟩
      rw [← htok]
      have hR1 := HR'.out
      rw [drop_getD bs k hlt, ← htok, unp] at hR1
      have HR1 := hid hR1
      clear hR1 HR' htok
      generalize wr.setCell ⟨w.heap.size + 1, 0, none⟩ (.int .i64 (k + 1 : Nat)) = wr1 at *
      clear hst
      have hnx := hst1.cnx
      have htl := UInt8.toNat_lt tok
      go_wp2_with fail
      clear hnx

      rw [show ((tok.toNat : Int) / 16) = ((tok.toNat / 16 : Nat) : Int) from by omega]
      refine (length_any _ _ _ w.heap.size (k+1) (tok.toNat / 16) bs bv _ hst1.cnx hst1.cat hst1.fat hst1.cbx hst1.sl (by omega) (by omega) hlen (by omega) (by omega) (by omega)).mono ?_
      intro e w' hp
      cases hL : lenM (bs.drop (k+1)) (tok.toNat / 16) with
      | none =>
        rw [hL] at hp
        have hR2 := HR1.out
        rw [hL] at hR2
        have HR2 := hid hR2
        clear hR2 HR1 hL
        obtain ⟨rfl, k', rfl⟩ := hp
        go_wp2
        go_ret2
        exact UPost.err 3 HR2.out rfl (hst1.bel.setCell (by simp) _)
      | some nc =>
        obtain ⟨n, c⟩ := nc
        rw [hL] at hp
        have hR2 := HR1.out
        rw [hL] at hR2
        simp only [List.drop_drop] at hR2
        have HR2 := hid hR2
        have hLb := lenM_bd _ _ _ _ (by omega) hL
        rw [List.length_drop] at hLb
        obtain ⟨hLc, hLn⟩ := hLb
        clear hR2 HR1 hL
        obtain ⟨rfl, rfl⟩ := hp
        have hst2 := hst1.set (k' := k+1+c) (by omega)
        generalize wr1.setCell ⟨w.heap.size + 1, 0, none⟩ (.int .i64 (k + 1 + c : Nat)) = wr2 at *
        clear hst1
        go_wp2_with fail
        go_loopw [9, 45] (fun v i wq => ∃ j k3 : Nat, ∃ out3 : List UInt8, USt w wq bv bs k3 v out3 room ∧ j ≤ n ∧ i = .int .i64 j ∧ k < k3 ∧
            Hid (R = unpB room (unp room f) tok (n - j) (bs.drop k3) out3))
          (fun _ i _ => n - (intOf i).toNat)
        case atStart => exact ⟨0, k+1+c, out, hst2, by omega, rfl, by omega, HR2⟩
        case round =>
          obtain ⟨j, k3, out3, hst3, hj, rfl, hk3, HR3⟩ := hrel
          have hnb : n ≤ 300000000000000 := by omega
          clear hst2 HR2 hLc hLn
          by_cases hjn : j < n
          · have hnx := hst3.cnx
            go_wp2_with fail
            clear hnx
            by_cases hlt3 : k3 < bs.length
            · obtain ⟨x, hx⟩ : ∃ x, x = bs.getD k3 0 := ⟨_, rfl⟩
              have hR4 := HR3.out
              rw [drop_getD bs k3 hlt3, ← hx, show n - j = (n - (j+1)) + 1 by omega] at hR4
              refine (next_any _ _ w.heap.size k3 bs bv _ hst3.cat hst3.fat hst3.cbx hst3.sl hlen (by omega) (by omega) hlt3).mono ?_
              rintro e w' ⟨rfl, rfl⟩
              rw [← hx]
              clear hx
              have hst4 := hst3.set (k' := k3+1) (by omega)
              obtain ⟨wq2, hwq2⟩ : ∃ wq2, wq2 = wr.setCell ⟨w.heap.size + 1, 0, none⟩ (.int .i64 (k3 + 1 : Nat)) := ⟨_, rfl⟩
              rw [← hwq2] at hst4 ⊢
              clear hwq2
              have hol := hst4.ole
              by_cases hfull : out3.length = room
              · rw [unpB_full _ _ _ _ _ _ _ hfull] at hR4
                have HR4 := hid hR4
                clear hR4 HR3
                have hlo := fun w => len_own Try.underlying22 (ty := 3) hst4.own w
                have hcm : ((out3.length : Int) == (room : Int)) = true := by simp [hfull]
                clear hfull
                go_wp2
                go_ret2
                exact UPost.err 2 HR4.out rfl hst4.bel
              · rw [unpB_step _ _ _ _ _ _ _ hfull] at hR4
                have HR4 := hid hR4
                clear hR4 HR3
                have hlo := fun w => len_own Try.underlying22 (ty := 3) hst4.own w
                have hcm : ((out3.length : Int) == (room : Int)) = false := by simp; omega
                have hwz := hst4.sz
                go_wp2_with (at_builtin; refine append_byte _ rfl _ _ 22 5 rfl Try.underlying22 Try.info5 (w.heap.size + 3) _ out3 x rfl (hst4.own.alloc _) wq2.heap.size 1 rfl (cell_alloc1 _ _ _) ?_ ?_ ?_)
                · omega
                · simp; omega
                intro v' w' ho hbl
                have hst5 := hst4.app (((Below.refl _ wq2).alloc hwz _).trans hbl) ho (by simp; omega)
                clear hbl ho hlo hst4 hst3
                go_wp2
                go_roundw
                case rel => exact ⟨j+1, k3+1, _, hst5, by omega, by go_num, by omega, HR4⟩
                case measure => simp [intOf]; omega
            · refine (next_end _ _ w.heap.size k3 bs bv _ hst3.cat hst3.cbx hst3.sl hlt3).mono ?_
              rintro e w' ⟨rfl, rfl⟩
              have hR4 := HR3.out
              rw [List.drop_eq_nil_of_le (by omega), show n - j = (n - j - 1) + 1 by omega, unpB_end] at hR4
              have HR4 := hid hR4
              clear hR4 HR3
              go_wp2
              go_ret2
              exact UPost.err 3 HR4.out rfl hst3.bel
          · obtain rfl : n = j := by omega
            have hR4 := HR3.out
            rw [Nat.sub_self, unpB_zero] at hR4
            have HR4 := hid hR4
            clear hR4 HR3
            have hcat := hst3.cat
            have hcbx := hst3.cbx
            have hlb := fun w => len_sl Try.underlying22 (ty := 3) HB.out w
            by_cases hk3e : k3 = bs.length
            · have hcm : ((k3 : Int) == (bs.length : Int)) = true := by simp [hk3e]
              have hR5 := HR4.out
              rw [List.drop_eq_nil_of_le (by omega), unpC] at hR5
              have HR5 := hid hR5
              clear hR5 HR4 hk3e
              go_wp2
              go_ret2
              exact UPost.ok HR5.out hst3.bel hst3.own
            · have hcm : ((k3 : Int) == (bs.length : Int)) = false := by simp; omega
              have hkl := hst3.kle
              have hlt3 : k3 < bs.length := by omega
              have hnx := hst3.cnx
              go_wp2_with fail
              clear hcat hcbx hnx
              refine (next_any _ _ w.heap.size k3 bs bv _ hst3.cat hst3.fat hst3.cbx hst3.sl hlen (by omega) (by omega) hlt3).mono ?_
              rintro e w' ⟨rfl, rfl⟩
              have hst4 := hst3.set (k' := k3+1) (by omega)
              obtain ⟨wq2, hwq2⟩ : ∃ wq2, wq2 = wr.setCell ⟨w.heap.size + 1, 0, none⟩ (.int .i64 (k3 + 1 : Nat)) := ⟨_, rfl⟩
              rw [← hwq2] at hst4 ⊢
              clear hwq2
              obtain ⟨lo, hlo⟩ : ∃ x, x = bs.getD k3 0 := ⟨_, rfl⟩
              rw [← hlo]
              have hR5 := HR4.out
              rw [drop_getD bs k3 hlt3, ← hlo] at hR5
              have HR5 := hid hR5
              clear hR5 HR4 hlo
              have hnx := hst4.cnx
              go_wp2_with fail
              clear hnx
              have hlol := UInt8.toNat_lt lo
              by_cases hlt4 : k3 + 1 < bs.length
              · refine (next_any _ _ w.heap.size (k3+1) bs bv _ hst4.cat hst4.fat hst4.cbx hst4.sl hlen (by omega) (by omega) hlt4).mono ?_
                rintro e w' ⟨rfl, rfl⟩
                have hst5 := hst4.set (k' := k3+1+1) (by omega)
                obtain ⟨wq3, hwq3⟩ : ∃ wq3, wq3 = wq2.setCell ⟨w.heap.size + 1, 0, none⟩ (.int .i64 (k3 + 1 + 1 : Nat)) := ⟨_, rfl⟩
                rw [← hwq3] at hst5 ⊢
                clear hwq3
                obtain ⟨hi, hhi⟩ : ∃ x, x = bs.getD (k3+1) 0 := ⟨_, rfl⟩
                rw [← hhi]
                have hR6 := HR5.out
                rw [drop_getD bs (k3+1) hlt4, ← hhi, unpC] at hR6
                have HR6 := hid hR6
                clear hR6 HR5 hhi
                have hhil := UInt8.toNat_lt hi
                have hlo := fun w => len_own Try.underlying22 (ty := 3) hst5.own w
                clear hst3 hst4
                have hor := or_hi lo.toNat hi.toNat hlol hhil
                obtain ⟨d, hd⟩ : ∃ d, d = lo.toNat + 256 * hi.toNat := ⟨_, rfl⟩
                rw [← hd] at hor
                have hR7 := HR6.out
                rw [← hd] at hR7
                have hdb : d ≤ 65535 := by omega
                clear HR6 hd
                by_cases hd0 : d = 0 ∨ out3.length < d
                · rw [if_pos hd0] at hR7
                  have HR7 := hid hR7
                  clear hR7
                  by_cases hd1 : d = 0
                  · have hc1 : ((d : Int) == 0) = true := by simp [hd1]
                    clear hd0 hd1
                    go_wp2
                    go_ret2
                    exact UPost.err 3 HR7.out rfl hst5.bel
                  · have hc1 : ((d : Int) == 0) = false := by simp; omega
                    have hc2 : out3.length < d := by omega
                    clear hd0 hd1
                    go_wp2
                    go_ret2
                    exact UPost.err 3 HR7.out rfl hst5.bel
                · rw [if_neg hd0] at hR7
                  have HR7 := hid hR7
                  clear hR7
                  have hc1 : ((d : Int) == 0) = false := by simp; omega
                  have hc2 : d ≤ out3.length := by omega
                  have hc3 : 0 < d := by omega
                  clear hd0
                  go_wp2_with fail
                  rw [show ((tok.toNat : Int) % 16) = ((tok.toNat % 16 : Nat) : Int) from by omega]
                  refine (length_any _ _ _ w.heap.size (k3+1+1) (tok.toNat % 16) bs bv _ hst5.cnx hst5.cat hst5.fat hst5.cbx hst5.sl (by omega) (by omega) hlen (by omega) (by omega) (by omega)).mono ?_
                  intro e w' hp
                  clear hor hlo hnb hlol hhil
                  cases hL : lenM (bs.drop (k3+1+1)) (tok.toNat % 16) with
                  | none =>
                    rw [hL] at hp
                    have hR2 := HR7.out
                    rw [hL] at hR2
                    have HR2 := hid hR2
                    clear hR2 HR7 hL
                    obtain ⟨rfl, k', rfl⟩ := hp
                    go_wp2
                    go_ret2
                    exact UPost.err 3 HR2.out rfl (hst5.bel.setCell (by simp) _)
                  | some nc =>
                    obtain ⟨m, c⟩ := nc
                    rw [hL] at hp
                    have hR2 := HR7.out
                    rw [hL] at hR2
                    simp only [List.drop_drop] at hR2
                    have HR2 := hid hR2
                    have hLb := lenM_bd _ _ _ _ (by omega) hL
                    rw [List.length_drop] at hLb
                    obtain ⟨hLc, hLn⟩ := hLb
                    clear hR2 HR7 hL
                    obtain ⟨rfl, rfl⟩ := hp
                    have hst6 := hst5.set (k' := k3+1+1+c) (by omega)
                    generalize wq3.setCell ⟨w.heap.size + 1, 0, none⟩ (.int .i64 (k3 + 1 + 1 + c : Nat)) = wr2 at *
                    clear hst5
                    have hmb : m ≤ 300000000000000 := by omega
                    go_wp2_with fail
                    go_loopw [9, 110] (fun v i wq => ∃ j : Nat, ∃ out4 : List UInt8, USt w wq bv bs (k3+1+1+c) v out4 room ∧ j ≤ m + 4 ∧ i = .int .i64 j ∧ d ≤ out4.length ∧
                        Hid (R = unpD room (unp room f) d (m + 4 - j) (bs.drop (k3+1+1+c)) out4))
                      (fun _ i _ => m + 4 - (intOf i).toNat)
                    case atStart => exact ⟨0, out3, hst6, by omega, rfl, hc2, HR2⟩
                    case round =>
                      obtain ⟨j, out4, hst7, hj, rfl, hd4, HR3⟩ := hrel
                      clear hst6 HR2
                      have hol := hst7.ole
                      by_cases hjn : j < m + 4
                      · have hR4 := HR3.out
                        rw [show m + 4 - j = (m + 4 - (j+1)) + 1 by omega] at hR4
                        by_cases hfull : out4.length = room
                        · rw [unpD_full _ _ _ _ _ _ hfull] at hR4
                          have HR4 := hid hR4
                          clear hR4 HR3
                          have hlo := fun w => len_own Try.underlying22 (ty := 3) hst7.own w
                          have hcm : ((out4.length : Int) == (room : Int)) = true := by simp [hfull]
                          clear hfull
                          go_wp2
                          go_ret2
                          exact UPost.err 2 HR4.out rfl hst7.bel
                        · rw [unpD_step _ _ _ _ _ _ hfull] at hR4
                          obtain ⟨y, hy⟩ : ∃ y, y = out4.getD (out4.length - d) 0 := ⟨_, rfl⟩
                          rw [← hy] at hR4
                          have HR4 := hid hR4
                          clear hR4 HR3
                          have hcm : ((out4.length : Int) == (room : Int)) = false := by simp; omega
                          obtain ⟨g, gc, rfl, hg1, hg2, hg3, hg4⟩ := hst7.own.at (out4.length - d) (by omega)
                          rw [← hy] at hg4
                          have hwz := hst7.sz
                          clear hy
                          go_wp2_with (at_builtin; refine append_byte _ rfl _ _ 22 5 rfl Try.underlying22 Try.info5 (w.heap.size + 3) _ out4 y rfl (hst7.own.alloc _) wr.heap.size 1 rfl (cell_alloc1 _ _ _) ?_ ?_ ?_)
                          · omega
                          · simp; omega
                          intro v' w' ho hbl
                          have hst5 := hst7.app (((Below.refl _ wr).alloc hwz _).trans hbl) ho (by simp; omega)
                          clear hbl ho hg4 hst7
                          go_wp2
                          go_roundw
                          case rel => exact ⟨j+1, _, hst5, by omega, by go_num, by simp; omega, HR4⟩
                          case measure => simp [intOf]; omega
                      · obtain rfl : j = m + 4 := by omega
                        have hR4 := HR3.out
                        rw [Nat.sub_self, unpD_zero, unpE] at hR4
                        have hcat := hst7.cat
                        have hcbx := hst7.cbx
                        by_cases hend : k3+1+1+c = bs.length
                        · rw [if_pos (List.drop_eq_nil_of_le (by omega))] at hR4
                          have HR4 := hid hR4
                          have hcm : (((k3+1+1+c : Nat) : Int) == (bs.length : Int)) = true := by simp [hend]
                          have hkk : (((k3+1+1+c : Nat) : Int)) = (k3:Int)+1+1+c := by omega
                          rw [hkk] at hcat hcm
                          clear hR4 HR3 hend hkk
                          go_wp2
                          go_ret2
                          exact UPost.ok HR4.out hst7.bel hst7.own
                        · rw [if_neg (by rw [List.drop_eq_nil_iff]; omega)] at hR4
                          have HR4 := hid hR4
                          have hcm : (((k3+1+1+c : Nat) : Int) == (bs.length : Int)) = false := by simp; omega
                          have hkk : (((k3+1+1+c : Nat) : Int)) = (k3:Int)+1+1+c := by omega
                          have HKK := hid hst7.cat
                          rw [hkk] at hcat hcm
                          clear hR4 HR3 hend hkk
                          go_wp2
                          go_roundw
                          case rel => exact ⟨_, f, _, hst7, by omega, HR4⟩
                          case measure => rw [HKK.out, HC0.out]; simp [intOf]; omega
              · refine (next_end _ _ w.heap.size (k3+1) bs bv _ hst4.cat hst4.cbx hst4.sl hlt4).mono ?_
                rintro e w' ⟨rfl, rfl⟩
                have hR6 := HR5.out
                rw [List.drop_eq_nil_of_le (by omega), unpC] at hR6
                have HR6 := hid hR6
                clear hR6 HR5
                go_wp2
                go_ret2
                exact UPost.err 3 HR6.out rfl hst4.bel
    · have hnx := hst.cnx
      go_wp2_with fail
      clear hnx
      refine (next_end _ _ w.heap.size k bs bv _ hst.cat hst.cbx hst.sl hlt).mono ?_
      rintro e w' ⟨rfl, rfl⟩
      have hR1 := HR'.out
      rw [List.drop_eq_nil_of_le (by omega), unp] at hR1
      have HR1 := hid hR1
      clear hR1 HR'
      go_wp2
      go_ret2
      exact UPost.err 3 HR1.out rfl hst.bel
end Go.Proofs.Ytmbfcpdflhjfnaa
