import Derived.Test.YtoccgpddmhhlgaaT
namespace Go.Proofs.Ytoccgpddmhhlgaa
open Go.RowKit Go.Mx Go.Crc Go.Str

theorem getD_ext (a b : List Rec) (hl : a.length = b.length) (h : ∀ j, j < a.length → a.getD j default = b.getD j default) : a = b := by
  apply List.ext_getElem hl
  intro i h1 h2
  have := h i h1
  simpa [List.getD_eq_getElem?_getD, List.getElem?_eq_getElem h1, List.getElem?_eq_getElem h2] using this

set_option maxRecDepth 100000 in
set_option maxHeartbeats 2000000 in
theorem recs_eq (a b : List Rec) (av bv : Value) (w : World) (ha : SlR w w.heap.size av a) (hb : SlR w w.heap.size bv b) :
    Calls Try.prog 45 #[av, bv] w fun e w' => ∃ r, e = .returned (.bool r) ∧ Hid (r = true ↔ a = b) ∧ Below w.heap.size w w' := by
  have hla := fun w' => ha.len (ty := 3) w'
  have hlb := fun w' => hb.len (ty := 3) w'
  have hsa := ha.small
  have HA := hid (And.intro ha hb)
  clear ha hb
  by_cases hl : a.length = b.length
  rotate_left
  · have hne : ((a.length : Int) != (b.length : Int)) = true := by rw [bne_iff_ne]; omega
    have HN := hid hl
    clear hl
    go_enter Try.func45, Try.ntmps45
    go_wp2_with fail
    go_ret
    exact ⟨false, rfl, ⟨(fun h => absurd h (by simp)), fun h => absurd (congrArg List.length h) HN.out⟩, Below.refl _ _⟩
  have hne : ((a.length : Int) != (b.length : Int)) = false := by rw [bne_eq_false_iff_eq]; omega
  have HL := hid hl
  have hlb2 := hlb
  rw [← hl] at hlb2
  clear hl hlb hne
  go_enter Try.func45, Try.ntmps45
  go_wp2_with fail
  go_loopw [5] (fun i wr => ∃ k : Nat, k ≤ a.length ∧ i = .int .i64 k ∧ Hid (∀ j, j < k → a.getD j default = b.getD j default) ∧ Below w.heap.size w wr) (fun i _ => a.length - (intOf i).toNat)
  case atStart => exact ⟨0, by omega, rfl, fun j h => absurd h (Nat.not_lt_zero _), Below.refl _ _⟩
  case round =>
    obtain ⟨k, hk, rfl, HE, hbel⟩ := hrel
    by_cases hlt : k < a.length
    · obtain ⟨b1, o1, v1, hb1, hi1, c0, c1, hs1⟩ := (HA.out.1.below hbel (Nat.le_refl _)).at k hlt
      obtain ⟨b2, o2, v2, hb2, hi2, d0, d1, hs2⟩ := (HA.out.2.below hbel (Nat.le_refl _)).at k (by rw [← HL.out]; exact hlt)
      obtain ⟨x, hx⟩ : ∃ x, x = a.getD k default := ⟨_, rfl⟩
      obtain ⟨y, hy⟩ : ∃ y, y = b.getD k default := ⟨_, rfl⟩
      rw [← hx] at c0 hs1
      rw [← hy] at d0 hs2
      have HX := hid (And.intro hx hy)
      clear hx hy
      obtain ⟨xa, xd⟩ := x
      obtain ⟨ya, yd⟩ := y
      simp only at c0 d0 hs1 hs2
      have hz := hbel.size
      have hc1 : ∀ n, (convert 25 9 v1).run Try.prog (wr.drewN n) = .ok (.string ⟨xd.toArray⟩) (wr.drewN n) := fun n => conv_sl Try.underlying25 Try.underlying5 Try.underlying9 (hs1.below (below_drewN (Below.refl w.heap.size wr) n) (Nat.le_refl _))
      have hc2 : ∀ n, (convert 25 9 v2).run Try.prog (wr.drewN n) = .ok (.string ⟨yd.toArray⟩) (wr.drewN n) := fun n => conv_sl Try.underlying25 Try.underlying5 Try.underlying9 (hs2.below (below_drewN (Below.refl w.heap.size wr) n) (Nat.le_refl _))
      have hc10 : (convert 25 9 v1).run Try.prog wr = .ok (.string ⟨xd.toArray⟩) wr := hc1 0
      have hc20 : (convert 25 9 v2).run Try.prog wr = .ok (.string ⟨yd.toArray⟩) wr := hc2 0
      clear hs1 hs2
      by_cases hat : xa = ya
      · subst hat
        have e1 : (xa != xa) = false := by simp
        by_cases hd : xd = yd
        · subst hd
          have e2 : (xd == xd) = true := by simp
          go_wp2_with fail
          go_quiet (fail)
          rename_i nq
          have hbq : Below w.heap.size w (wr.drewN nq) := below_drewN hbel nq
          have HE' := hid (show ∀ j, j < k + 1 → a.getD j default = b.getD j default from fun j hj => by
            rcases Nat.lt_or_ge j k with h | h
            · exact HE.out j h
            · obtain rfl : j = k := by omega
              rw [← HX.out.1, ← HX.out.2])
          clear hc1 hc2 hc10 hc20 HE HX c0 c1 d0 d1
          go_wp2_with fail
          go_roundw
          case rel => exact ⟨k + 1, by omega, by go_num, HE', hbq⟩
          case measure => simp [intOf]; omega
        · have e2 : (xd == yd) = false := by rw [beq_eq_false_iff_ne]; exact hd
          have HD := hid hd
          clear hd
          go_wp2_with fail
          go_quiet (fail)
          rename_i nq
          have hbq : Below w.heap.size w (wr.drewN nq) := below_drewN hbel nq
          clear hc1 hc2 hc10 hc20
          go_wp2_with fail
          go_ret
          refine ⟨false, rfl, ⟨(fun h => absurd h (by simp)), fun h => absurd ?_ HD.out⟩, hbq⟩
          have h1 := HX.out.1
          rw [h, ← HX.out.2] at h1
          exact (Rec.mk.inj h1).2
      · have e1 : (xa != ya) = true := by rw [bne_iff_ne]; exact hat
        have HD := hid hat
        clear hat
        go_wp2_with fail
        go_quiet (fail)
        rename_i nq
        have hbq : Below w.heap.size w (wr.drewN nq) := below_drewN hbel nq
        clear hc1 hc2 hc10 hc20
        go_wp2_with fail
        go_ret
        refine ⟨false, rfl, ⟨(fun h => absurd h (by simp)), fun h => absurd ?_ HD.out⟩, hbq⟩
        have h1 := HX.out.1
        rw [h, ← HX.out.2] at h1
        exact (Rec.mk.inj h1).1
    · obtain rfl : k = a.length := by omega
      have HAB := hid (getD_ext a b HL.out HE.out)
      go_wp2_with fail
      go_ret
      exact ⟨true, rfl, ⟨fun _ => HAB.out, fun _ => rfl⟩, hbel⟩

set_option maxRecDepth 100000 in
set_option maxHeartbeats 2000000 in
theorem same_any (s t : Strm) (sv tv : Value) (w : World) (hs : SlR w w.heap.size sv s.recs) (ht : SlR w w.heap.size tv t.recs) :
    Calls Try.prog 27 #[strmV s sv, strmV t tv] w fun e w' => ∃ r, e = .returned (.bool r) ∧ Hid (r = true ↔ s = t) ∧ Below w.heap.size w w' := by
  obtain ⟨f, z, l⟩ := s
  obtain ⟨f', z', l'⟩ := t
  simp only at hs ht
  have hb0 : Below w.heap.size w ((w.alloc (.cells #[.bool f, .int .i64 z, sv] 39)).alloc (.cells #[.bool f', .int .i64 z', tv] 39)) := ((Below.refl _ _).alloc (Nat.le_refl _) _).alloc (by simp) _
  have h1 := (hs.below hb0 (Nat.le_refl _)).mono hb0.size
  have h2 := (ht.below hb0 (Nat.le_refl _)).mono hb0.size
  have HC := hid (recs_eq l l' sv tv _ h1 h2)
  have HB := hid hb0
  clear hs ht hb0 h1 h2
  unfold strmV
  by_cases hf : f = f'
  rotate_left
  · have e1 : (f == f') = false := by rw [beq_eq_false_iff_ne]; exact hf
    have HN := hid hf
    clear hf
    go_enter Try.func27, Try.ntmps27
    go_wp2_with fail
    go_ret
    exact ⟨false, rfl, ⟨(fun h => absurd h (by simp)), fun h => absurd (Strm.mk.inj h).1 HN.out⟩, HB.out⟩
  subst hf
  by_cases hz : z = z'
  rotate_left
  · have e1 : (z == z') = false := by rw [beq_eq_false_iff_ne]; exact hz
    have HN := hid hz
    clear hz
    go_enter Try.func27, Try.ntmps27
    go_wp2_with fail
    go_ret
    exact ⟨false, rfl, ⟨(fun h => absurd h (by simp)), fun h => absurd (Strm.mk.inj h).2.1 HN.out⟩, HB.out⟩
  subst hz
  have e0 : (f == f) = true := by simp
  have e1 : (z == z) = true := by simp
  go_enter Try.func27, Try.ntmps27
  go_wp2_with fail
  refine HC.out.mono ?_
  rintro e w' ⟨r, rfl, hr, hb⟩
  go_wp2_with fail
  go_ret
  exact ⟨r, rfl, ⟨fun h => by rw [hr.out.1 h], fun h => hr.out.2 (Strm.mk.inj h).2.2⟩, HB.out.trans (hb.mono HB.out.size)⟩
end Go.Proofs.Ytoccgpddmhhlgaa
