import Derived.Test.YtgkabcaodnofnaaGreatDO
set_option linter.unusedSimpArgs false
set_option linter.unusedVariables false

namespace Go.Md
/-- CmdRead -/
def readF (M : MM) (c : Cm) : MM × Rp × Nat := match fnd M.all c.name with
  | none => (M, failR 4, 0)
  | some i => if withinI i.size c.a c.n then (M, { data := secs (secIn M.all 8 i i.size i.own) c.a.toNat c.n.toNat }, 0) else (M, failR 6, 0)
/-- CmdWrite -/
def writeF (M : MM) (c : Cm) : MM × Rp × Nat := match fnd M.all c.name with
  | none => (M, failR 4, 0)
  | some i => if Go.Proofs.YtgkabcaodnofnaaGreat.aboveN M.all c.name ≠ 0 then (M, failR 14, 0) else if c.data.length % 16 ≠ 0 then (M, failR 1, 0)
    else if withinI i.size c.a (c.data.length / 16 : Nat) then ({ M with all := setI M.all c.name (writeI M.all 8 i c.a.toNat c.data) }, {}, 0) else (M, failR 6, 0)
end Go.Md
namespace Go.Proofs.YtgkabcaodnofnaaGreat
open Go.RowKit Go.Mx Go.Md
set_option linter.unusedVariables false
set_option linter.unusedSimpArgs false
variable {w w' : World} {base mb am : Nat} {S : IL} {xs : List XI} {M : MM} {X : MX}
theorem AM.len (h : AM w base am S xs) : xs.length = S.length := by have := h.p.length_eq; simpa using this
set_option maxRecDepth 100000 in
set_option maxHeartbeats 1000000 in
/-- function 80 -/
theorem turned_any (hm : Mod0 w mb am) (hA : AM w base am S xs) (hl : S.length ≤ 100) {x : XI} (hx : x ∈ xs) :
    Calls Tryz.prog 80 #[pt mb, str x.n] w fun e w' => e = .returned (.tuple #[pt x.ib, .bool (decide (aboveN S x.n = 0))]) ∧ Below w.heap.size w w' := by
  have c0 : ∀ w', Below w.heap.size w w' → w'.cell? ⟨mb, 0, none⟩ = some (.map (some am)) := fun w' hB => (hm.below hB).cell
  have lk : ∀ w', Below w.heap.size w w' → (Instr.lookup 57 (.map (some am)) (str x.n) false).run Tryz.prog w' = .ok (pt x.ib) w' := fun w' hB => (hA.below hB).atx hx
  have HC := hid (fun w' (hB : Below w.heap.size w w') => above_any (hm.below hB) (hA.below hB) (by rw [hA.len]; omega) x.n)
  have hab : aboveN S x.n ≤ 100 := Nat.le_trans (List.length_filter_le _ _) hl
  obtain ⟨A, hAe⟩ : ∃ A, A = aboveN S x.n := ⟨_, rfl⟩
  rw [← hAe] at HC hab ⊢
  clear hm hA hAe
  have hlen : ∀ oa cc w', (Builtin.len_ #[31] 3 #[.slice oa A cc]).run Tryz.prog w' = .ok (.int .i64 A) w' := fun oa cc w' => len_sl Tryz.underlying31 rfl w'
  have d0 := c0 w (Below.refl _ _)
  cases hz : decide (A = 0)
  · have hz2 : (((A : Nat) : Int) == 0) = false := by simp at hz; simpa using hz
    clear hz
    go_enter Tryz.func80, Tryz.ntmps80
    go_upto_region 1 with (fail)
    go_region_held (fun w' => Below w.heap.size w w') (first | exact (Below.refl _ _).drew | assumption | exact Below.drew (by assumption)) (first
      | (go_at_call 78; refine (HC.out _ (by assumption)).mono ?_; rintro e w5 ⟨oa, cc, rfl, hb5c⟩; have hb5 : Below w.heap.size w w5 := Below.trans (by assumption) (hb5c.mono (Below.size (by assumption)))))
    all_goals (go_wp2_with fail; go_ret2)
    all_goals exact ⟨by simp_all, hb5⟩
  · have hz2 : (((A : Nat) : Int) == 0) = true := by simp at hz; simpa using hz
    clear hz
    go_enter Tryz.func80, Tryz.ntmps80
    go_upto_region 1 with (fail)
    go_region_held (fun w' => Below w.heap.size w w') (first | exact (Below.refl _ _).drew | assumption | exact Below.drew (by assumption)) (first
      | (go_at_call 78; refine (HC.out _ (by assumption)).mono ?_; rintro e w5 ⟨oa, cc, rfl, hb5c⟩; have hb5 : Below w.heap.size w w5 := Below.trans (by assumption) (hb5c.mono (Below.size (by assumption)))))
    all_goals (go_wp2_with fail; go_ret2)
    all_goals exact ⟨by simp_all, hb5⟩
end Go.Proofs.YtgkabcaodnofnaaGreat
