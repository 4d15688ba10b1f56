import Derived.Test.YtbklhhmcigangaaT
namespace Go.Lr
theorem risen_of {l : List En} (h : (l.map (·.k)).Pairwise fun a b => a ≤ b) : risen l = l.map (·.k) := by
  unfold risen
  exact List.mergeSort_of_pairwise (h.imp fun h => by simpa using h)
def aw0 : CM := ⟨5, [], 0⟩
def aw1 : CM := ⟨5, [⟨1, ⟨[], true, 1, []⟩⟩], 1⟩
def aw2 : CM := ⟨5, [⟨1, ⟨[], true, 1, []⟩⟩, ⟨2, ⟨[], true, 2, []⟩⟩], 2⟩
def aw3 : CM := ⟨5, [⟨1, ⟨[], true, 1, [2]⟩⟩, ⟨2, ⟨[], true, 2, []⟩⟩], 2⟩
theorem aw1_lay : lay aw0 1 [] true = aw1 := rfl
theorem aw2_lay : lay aw1 2 [] true = aw2 := rfl
theorem aw3_after : afterM aw2 1 2 = (aw3, 0) := by
  have h1 : ¬ (dirtyAt aw2.all 1 = false ∨ dirtyAt aw2.all 2 = false) := by decide
  have h2 : ¬ Reach aw2.all 2 1 := by
    have key : ∀ x y, Reach aw2.all x y → x = 2 → y = 2 := by
      intro x y h
      induction h with
      | refl _ => exact id
      | step hm _ ih =>
        rintro rfl
        have : aft aw2.all 2 = [] := rfl
        rw [this] at hm; cases hm
    intro h
    have := key _ _ h rfl
    omega
  unfold afterM
  rw [if_neg h1, if_neg h2]
  rfl
theorem aw3_dirty : dirtyL aw3.all = [1, 2] := by
  unfold dirtyL
  rw [risen_of (by decide)]
  rfl
theorem aw3_flush : (flushM aw3).2 = [2, 1] := by
  unfold flushM
  rw [aw3_dirty]
  rfl
end Go.Lr
namespace Go.Proofs.Ytbklhhmcigangaa
open Go.RowKit Go.Mx Go.Lr Go.Maps
set_option linter.unusedVariables false
set_option linter.unusedSimpArgs false
section
variable {w w' : World} {base p m : Nat} {c : CM} {fs : List PR}
theorem wf_i64 {n : Int} (h : (Lit.int .i64 n).wf = true) : isI n := by
  simp [Lit.wf, IntKind.min, IntKind.max, IntKind.bits, IntKind.signed] at h
  exact h
/-- a Put where there is room -/
theorem put_room (h : CK w base p m c fs All) (k : Int) (hk : isI k) (v : Value) (b : List UInt8) (B : Nat) (hb : SlB w B v b) (hB : B ≤ w.heap.size) (hl : b.length ≤ 1000000) (dirty : Bool) (hu : c.uses ≤ 1000000000) (hr : (Lr.lay c k b dirty).all.length ≤ c.room) (hr2 : c.room ≤ 1000000) :
    Calls Try.prog 13 #[cp p, .int .i64 k, v, .bool dirty] w fun e w' => e = .returned (.slice none 0 0) ∧ PutP base p m c fs w k b dirty w' := by
  rcases h.who k with ⟨h1, h2⟩ | ⟨i, f, hi, hfk, h1, h2⟩
  · have hno := find_none.1 h2
    refine put_new h k hk hno v b B hb hB hl dirty hu ?_ hr2
    unfold Lr.lay at hr
    rw [h2] at hr
    simp at hr
    rw [h.lenAll] at hr
    exact hr
  · subst hfk
    refine put_old h hi hk v b B hb hB hl dirty hu ?_
    unfold Lr.lay at hr
    rw [h2] at hr
    simp [setE] at hr
    rw [h.lenAll] at hr
    exact hr
theorem aw_ok2 : OkC aw2 := ⟨by intro e he; simp [aw2] at he; rcases he with rfl | rfl <;> simp, by intro e he; simp [aw2] at he; rcases he with rfl | rfl <;> simp, by simp [aw2], by intro e he; simp [aw2] at he; rcases he with rfl | rfl <;> simp [isI]⟩
theorem aw_ok3 : OkC aw3 := ⟨by intro e he; simp [aw3] at he; rcases he with rfl | rfl <;> simp [isI], by intro e he; simp [aw3] at he; rcases he with rfl | rfl <;> simp, by simp [aw3], by intro e he; simp [aw3] at he; rcases he with rfl | rfl <;> simp [isI]⟩
set_option maxRecDepth 100000 in
set_option maxHeartbeats 1000000 in
theorem awake_any (w : World) : Calls Try.prog 12 #[] w fun e w' => e = .returned (.bool true) ∧ Below w.heap.size w w' := by
  have HN := hid (new_any 5 w (by omega) (by omega))
  have hnum : ∀ (n : Int) w, Calls Try.prog 11 #[.int .i64 n] w fun e w' => e = .returned (.int .i64 n) ∧ w = w' := num_any
  have i1 : isI 1 := by simp [isI]
  have i2 : isI 2 := by simp [isI]
  go_enter Try.func12, Try.ntmps12
  go_wp2_with fail
  refine HN.out.mono ?_
  rintro e w1 ⟨rfl, hc1, hb1⟩
  have hP1 := put_room hc1 1 i1 (.slice none 0 0) [] 0 (SlB.nil _ _) (Nat.zero_le _) (by simp) true (by simp) (by decide) (by simp)
  have HP1 := hid hP1
  have HB1 := hid hb1
  clear hP1 HN hc1 hb1
  go_wp2_with fail
  refine (hnum 0 _).mono ?_
  rintro e w2 ⟨rfl, rfl⟩
  go_wp2_with fail
  refine HP1.out.mono ?_
  rintro e w2 ⟨rfl, fs2, hc2, hs2⟩
  have hP2 := put_room hc2 2 i2 (.slice none 0 0) [] 0 (SlB.nil _ _) (Nat.zero_le _) (by simp) true (by decide) (by decide) (by decide)
  have HP2 := hid hP2
  have HB2 := hid (HB1.out.trans hs2.bel)
  clear hP2 hc2 hs2 HP1
  go_wp2_with fail
  refine HP2.out.mono ?_
  rintro e w3 ⟨rfl, fs3, hc3, hs3⟩
  have hc3 : CK w3 w.heap.size (w.heap.size + 1) w.heap.size aw2 fs3 All := hc3
  have hA := after_any hc3 1 2 i1 i2 aw_ok2.sm aw_ok2.is aw_ok2.wgt
  have HA := hid hA
  have HB3 := hid (HB2.out.trans hs3.bel)
  clear hA hc3 hs3 HP2
  go_wp2_with fail
  refine HA.out.mono ?_
  rintro e w4 ⟨fs4, rfl, hc4, hp4, hs4⟩
  rw [aw3_after] at hc4 ⊢
  have hF := flush_any hc4 aw_ok3
  have HF := hid hF
  have HB4 := hid (HB3.out.trans hs4.bel)
  clear hF hc4 hp4 hs4 HA
  go_wp2_with fail
  refine HF.out.mono ?_
  rintro e w5 ⟨fs5, v, rfl, hc5, hp5, hs5, ho5, hf5⟩
  have ho5' : OwnI w5 w4.heap.size v (flushM aw3).2 := ho5
  rw [aw3_flush] at ho5'
  have hlen := fun w' => ho5'.slI.len (P := Try.prog) Try.underlying29 (ty := 3) w'
  obtain ⟨b0, o0, hb0, hi0, hc0⟩ := ho5'.slI.addr (P := Try.prog) Try.underlying29 size3 0 (by decide)
  obtain ⟨b1, o1, hb1, hi1, hc1⟩ := ho5'.slI.addr (P := Try.prog) Try.underlying29 size3 1 (by decide)
  replace hc0 : w5.cell? ⟨b0, o0, none⟩ = some (.int .i64 2) := hc0
  replace hc1 : w5.cell? ⟨b1, o1, none⟩ = some (.int .i64 1) := hc1
  replace hi0 : ∀ w' (k : IntKind), (Instr.indexAt 29 v (.int k 0)).run Try.prog w' = .ok (.pointer (some ⟨b0, o0, none⟩)) w' := hi0
  replace hi1 : ∀ w' (k : IntKind), (Instr.indexAt 29 v (.int k 1)).run Try.prog w' = .ok (.pointer (some ⟨b1, o1, none⟩)) w' := hi1
  replace hlen : ∀ w', (Builtin.len_ #[29] 3 #[v]).run Try.prog w' = .ok (.int .i64 2) w' := hlen
  obtain ⟨oa, on, oc, rfl⟩ := ownG_shape (ownI_G ho5')
  have HB5 := hid (HB4.out.trans hs5.bel)
  clear hc5 hp5 hs5 ho5 hf5 ho5' HF hb0 hb1
  go_wp2_with fail
  refine (hnum 0 _).mono ?_
  rintro e w6 ⟨rfl, rfl⟩
  go_wp2_with fail
  go_ret
  exact ⟨rfl, HB5.out⟩
end
end Go.Proofs.Ytbklhhmcigangaa
