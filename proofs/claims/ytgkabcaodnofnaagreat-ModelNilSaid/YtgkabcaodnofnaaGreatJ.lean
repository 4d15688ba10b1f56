import Derived.Test.YtgkabcaodnofnaaGreatL2
import Derived.Deep.RegionHeld
import Derived.Deep.Cut
import Derived.Deep.RegionLaw
namespace Go.Proofs.YtgkabcaodnofnaaGreat
open Go.RowKit Go.Mx Go.Md
set_option linter.unusedVariables false
set_option linter.unusedSimpArgs false
theorem info5 : (Tryz.prog.info? 5).map (fun i => (i.zero, i.size, i.bytes)) = some (some (.int .u8 0), 1, 1) := by kernel_rfl
theorem size5 : (Tryz.prog.info? 5).map (·.size) = some 1 := by kernel_rfl
theorem size5' (w : World) : (sizeOf 5).run Tryz.prog w = .ok 1 w := by kernel_rfl
/-- a model's block, as far as its images' map -/
def Mod0 (w : World) (mb am : Nat) : Prop := ∃ c, w.heap[mb]? = some (.cells c 73 (0, 0)) ∧ c[0]? = some (.map (some am))
theorem Mod0.cell {w : World} {mb am : Nat} (h : Mod0 w mb am) : w.cell? ⟨mb, 0, none⟩ = some (.map (some am)) := by
  obtain ⟨c, h1, h2⟩ := h
  simp [World.cell?, h1, h2]
theorem Mod0.below {w w' : World} {mb am : Nat} (h : Mod0 w mb am) (hb : Below w.heap.size w w') : Mod0 w' mb am := by
  obtain ⟨c, h1, h2⟩ := h
  exact ⟨c, (hb.block mb (blk_lt h1)).trans h1, h2⟩
/-- an image's block, as far as its width and what it stands upon -/
def IC (w : World) (ib : Nat) (i : IM) : Prop := ∃ c, w.heap[ib]? = some (.cells c 87 (0, 0)) ∧ c[0]? = some (.int .i64 i.cl) ∧ c[2]? = some (str i.back)
theorem IC.c0 {w : World} {ib : Nat} {i : IM} (h : IC w ib i) : w.cell? ⟨ib, 0, none⟩ = some (.int .i64 i.cl) := by
  obtain ⟨c, h1, h2, _⟩ := h
  simp [World.cell?, h1, h2]
theorem IC.c2 {w : World} {ib : Nat} {i : IM} (h : IC w ib i) : w.cell? ⟨ib, 2, none⟩ = some (str i.back) := by
  obtain ⟨c, h1, _, h2⟩ := h
  simp [World.cell?, h1, h2]
theorem IC.below {w w' : World} {ib : Nat} {i : IM} (h : IC w ib i) (hb : Below w.heap.size w w') : IC w' ib i := by
  obtain ⟨c, h1, h2⟩ := h
  exact ⟨c, (hb.block ib (blk_lt h1)).trans h1, h2⟩
theorem II.ic {w : World} {base ib : Nat} {i : IM} {x : IX} (h : II w base ib i x) : IC w ib i := ⟨_, h.ck, rfl, rfl⟩
/-- bytes of the call's own, without room behind them -/
structure FullB (w : World) (base : Nat) (v : Value) (l : Bs) : Prop where
  o : OwnB w base 5 v l
  f : ∃ g, v = .slice (some ⟨g, 0, none⟩) l.length l.length
theorem FullB.any_base {w : World} {b b' : Nat} {v : Value} {l : Bs} (h : FullB w b v l) (hb : b' ≤ b) : FullB w b' v l := ⟨h.o.any_base hb, h.f⟩
/-- function 65, at a depth -/
def UndP (d : Nat) : Prop := ∀ (w : World) (base mb am : Nat) (S : IL) (xs : List XI) (n : Bs) (a c : Nat), Mod0 w mb am → AM w base am S xs → dep S d n → n.length ≤ 100 → a ≤ 4096 → c ≤ 4096 →
  Calls Tryz.prog 65 #[pt mb, str n, .int .i64 a, .int .i64 c] w fun e w' => ∃ v, e = .returned v ∧ FullB w' w.heap.size v (secs (secOf S d n) a c) ∧ Below w.heap.size w w'
/-- function 27, at a depth -/
def ShoP (d : Nat) : Prop := ∀ (w : World) (base mb am : Nat) (S : IL) (xs : List XI) (i : IM) (ib b2 om size nc : Nat) (own : Nat → Option Bs) (ol : ML Int) (a c : Nat), Mod0 w mb am → AM w base am S xs → IC w ib i → OM w b2 om own ol → OwnOk i.cl nc own →
  i.cl ≤ 6 → i.back.length ≤ 100 → dep S d i.back → size ≤ 4096 → a ≤ 4096 → c ≤ 4096 →
  Calls Tryz.prog 27 #[pt mb, pt ib, .int .i64 size, .map (some om), .int .i64 a, .int .i64 c] w fun e w' => ∃ v, e = .returned v ∧ FullB w' w.heap.size v (secs (secIn S d i size own) a c) ∧ Below w.heap.size w w'
theorem AM.oks {w : World} {base am : Nat} {S : IL} {xs : List XI} (h : AM w base am S xs) : ∀ n i, fnd S n = some i → IOk i := by
  intro n i hf
  have h1 := h.p.mem_iff.2 (fnd_mem hf)
  obtain ⟨x, hx, he⟩ := List.mem_map.1 h1
  simp only [Prod.mk.injEq] at he
  rw [← he.2]; exact h.ok x hx
theorem secOf_find {S : IL} {n : Bs} {i : IM} (h : fnd S n = some i) (d : Nat) : secOf S (d + 1) n = secIn S d i i.size i.own := by
  funext s; simp only [secOf, h, secIn]
theorem secOf_none {S : IL} {n : Bs} (h : fnd S n = none) : ∀ d, secOf S d n = fun _ => zer 16
  | 0 => by funext s; simp only [secOf]
  | d + 1 => by funext s; simp only [secOf, h]
set_option maxRecDepth 100000 in
set_option maxHeartbeats 1000000 in
theorem und_any (d : Nat) (HS : ∀ d', d = d' + 1 → ShoP d') : UndP d := by
  intro w base mb am S xs n a c hm hA hd hn ha hc
  have hcm := hm.cell
  have hnm : n.length ≤ maxLen := by unfold maxLen; omega
  rcases hA.at n hnm with ⟨hf, hl⟩ | ⟨x, hx, hxn, hf, hl⟩
  · have hz : secs (secOf S d n) a c = zer (16 * c) := secs_zer c a fun s _ _ => by rw [secOf_none hf]
    rw [hz, Nat.mul_comm 16 c]
    have hmul : IntKind.i64.wrap ((c : Int) * 16) = ((c * 16 : Nat) : Int) := by rw [IntWalk.i64_in _ (by omega)]; omega
    clear hA hd hm hz
    go_enter Tryz.func65, Tryz.ntmps65
    go_wp2_with (at_make; refine make_bytes _ rfl _ _ 23 5 rfl Tryz.underlying23 info5 w.heap.size _ _ _ _ (c * 16) rfl rfl ?_ ?_ ?_ ?_ ?_)
    · omega
    · omega
    · omega
    · exact Nat.le_refl _
    · intro v w' ho hb hv
      subst hv
      go_wp2
      go_ret
      refine ⟨_, rfl, ?_, hb⟩
      exact ⟨ho, w.heap.size, by rw [zer_len]; rfl⟩
  · obtain ⟨d', rfl⟩ : ∃ d', d = d' + 1 := by
      cases d with
      | zero => have hd : fnd S n = none := hd; rw [hf] at hd; cases hd
      | succ d' => exact ⟨d', rfl⟩
    have hd' : dep S d' x.i.back := by unfold dep at hd; rw [hf] at hd; exact hd
    have hII := hA.i x hx
    have hok := hA.ok x hx
    rw [secOf_find hf]
    obtain ⟨k0, k1, k2, k3, k4, k5, kf⟩ := hII.cells
    have hB : Below w.heap.size w w := Below.refl _ _
    have F1 : ∀ w', Below w.heap.size w w' → w'.cell? ⟨x.ib, 1, none⟩ = some (.int .i64 x.i.size) := fun w' h => (hII.below h).cells.2.1
    have F3 : ∀ w', Below w.heap.size w w' → w'.cell? ⟨x.ib, 3, none⟩ = some (.map (some x.x.om)) := fun w' h => (hII.below h).cells.2.2.2.1
    have HX := hid (HS d' rfl)
    have HM := hid (And.intro hm (And.intro hA (And.intro hII (And.intro hok hd'))))
    clear hm hA hII hok hd' hd HS k0 k1 k2 k3 k4 k5 kf hf
    go_enter Tryz.func65, Tryz.ntmps65
    go_wp2_with fail
    go_region_held (fun w' => Below w.heap.size w w') (first | exact (Below.refl _ _).drew | assumption | exact Below.drew (by assumption)) (first
      | (go_at_call 27; refine (HX.out _ base mb am S xs x.i x.ib base x.x.om x.i.size _ x.i.own x.x.ol a c (HM.out.1.below (by assumption)) (HM.out.2.1.below (by assumption)) (HM.out.2.2.1.below (by assumption)).ic (HM.out.2.2.1.below (by assumption)).own HM.out.2.2.2.1.own HM.out.2.2.2.1.cl HM.out.2.2.2.1.nb HM.out.2.2.2.2 HM.out.2.2.2.1.size ha hc).mono ?_; rintro e w5 ⟨v5, rfl, ho5, hb5⟩; have hs5 : FullB w5 w.heap.size v5 (secs (secIn S d' x.i x.i.size x.i.own) a c) := ho5.any_base (Below.size (by assumption)); have hb5' : Below w.heap.size w w5 := Below.trans (by assumption) (hb5.mono (Below.size (by assumption)))))
    go_wp2_with fail
    go_ret
    exact ⟨_, rfl, hs5, hb5'⟩
end Go.Proofs.YtgkabcaodnofnaaGreat
