import Derived.Test.YtgkabcaodnofnaaGreatSM
set_option linter.unusedSimpArgs false
set_option linter.unusedVariables false
namespace Go.Md
/-- may an image stand where it does? seen: those on the way -/
def stn (B : Bs → Option Bs) : Nat → List Bs → Bs → Int
  | 0, _, _ => 10
  | k + 1, seen, a => if a = [] then 0 else match B a with
    | none => 4
    | some b => if a ∈ seen then 11 else if 8 < seen.length + 1 then 10 else stn B k (a :: seen) b
def standsM (B : Bs → Option Bs) (n : Bs) : Int := stn B 9 [] n
end Go.Md
namespace Go.Proofs.YtgkabcaodnofnaaGreat
open Go.RowKit Go.Mx Go.Md
set_option linter.unusedVariables false
set_option linter.unusedSimpArgs false
variable {w w' : World} {base mb am : Nat} {S : IL} {xs : List XI}
theorem zero9 (w : World) : (zeroValue 9).run Tryz.prog w = .ok (.string ⟨#[]⟩) w := by kernel_rfl
theorem zero3 (w : World) : (zeroValue 3).run Tryz.prog w = .ok (.int .i64 0) w := by kernel_rfl
theorem zero4 (w : World) : (zeroValue 4).run Tryz.prog w = .ok (.bool false) w := by kernel_rfl
set_option maxRecDepth 100000 in
set_option maxHeartbeats 1000000 in
/-- function 74 -/
theorem backs_any (hm : Mod0 w mb am) (hA : AM w base am S xs) (hl : xs.length ≤ 1000) :
    Calls Tryz.prog 74 #[pt mb] w fun e w' => e = .returned (.map (some w.heap.size)) ∧ ∃ l, GM ES Tryz.prog 9 w' w.heap.size l ∧ l.Perm (xs.map fun x => (x.n, str x.i.back)) ∧ Below w.heap.size w w' := by
  obtain ⟨w1, hw1⟩ : ∃ w1, w1 = w.alloc (.map #[] 0) := ⟨_, rfl⟩
  have hb1 : Below w.heap.size w w1 := by rw [hw1]; exact (Below.refl _ _).alloc (Nat.le_refl _) _
  have hg1 : GM ES Tryz.prog 9 w1 w.heap.size [] := by rw [hw1]; exact GM.made ES Tryz.prog 9 w
  have hs1 : w1.heap.size = w.heap.size + 1 := by rw [hw1]; simp
  have hmp := (hA.below hb1).g
  have hmc := (hm.below hb1).cell
  have H := hid (And.intro hA (And.intro hb1 (And.intro hg1 hs1)))
  have HW := hid hw1
  have hmm := @run_makeMap Tryz.prog
  clear hA hb1 hg1 hw1 hm
  go_enter Tryz.func74, Tryz.ntmps74
  go_upto_region 2 with (fail)
  rw [← HW.out]
  go_wp2_with (first
    | (at_range; refine range_gm _ rfl _ rfl K9 Tryz.underlying57 rfl hmp ?_; intro w0 hrg0 hg0 hs0)
    | go_in)
  rw [hs1] at hrg0 ⊢
  go_frame
  go_loopw [4] (fun _ wr => ∃ (left : Bs → Bool) (cnt : Nat) (l : ML Bs), RG ES Tryz.prog 9 wr am (w.heap.size + 1) (xs.map fun x => (x.n, pt x.ib)) left cnt ∧ Hid (GM ES Tryz.prog 9 wr w.heap.size l ∧ l.Perm ((xs.filter fun x => !left x.n).map fun x => (x.n, str x.i.back)) ∧ Below w.heap.size w wr)) (fun _ wr => wr.rangeLeft am (w.heap.size + 1))
  case atStart =>
    have hb0 : Below (w.heap.size + 1) w1 w0 := (Below.refl _ _).grown hg0 (by omega) (by simp)
    refine ⟨_, _, [], hrg0, hid ⟨H.out.2.2.1.block (hb0.block _ (by omega)), ?_, H.out.2.1.trans (hb0.mono (by omega))⟩⟩
    have e : xs.filter (fun x => !(Mx.look (xs.map fun x => (x.n, pt x.ib)) x.n).isSome) = [] := by
      rw [List.filter_eq_nil_iff]
      intro x hx
      rw [look_xi_some hx]; simp
    rw [e]; exact List.Perm.refl _
  case round =>
    obtain ⟨left, cnt, l, hrg, hC⟩ := hrel
    clear hrg0 hg0 hs0 hmp
    obtain ⟨wO, hwO⟩ : ∃ x, x = wr := ⟨_, rfl⟩
    subst hwO
    go_wp2_with (first
      | (at_next; refine next_gm _ rfl _ rfl K9 (w.heap.size + 1) _ _ rfl hrg ?_ ?_)
      | go_in)
    · intro hl0
      clear hrg
      go_wp2_with fail
      go_ret
      have e : xs.filter (fun x => !left x.n) = xs := List.filter_eq_self.2 fun x _ => by rw [hl0]; rfl
      have h1 := hC.out.2.1
      rw [e] at h1
      exact ⟨rfl, l, hC.out.1, h1, hC.out.2.2⟩
    · intro s b w3 cnt1 hlk hls hrg1 hlt hg1 hs3 hen
      obtain ⟨x, hx, rfl, rfl⟩ := look_xi hlk
      have hen' : (Instr.entry (.pointer (some ⟨w.heap.size + 1, 0, none⟩))).run Tryz.prog w3 = .ok (.tuple #[str x.n, pt x.ib]) w3 := hen
      have hb3 : Below (w.heap.size + 1) wO w3 := (Below.refl (w.heap.size + 1) wO).grown hg1 (by have := hC.out.1.lt; have := hrg.lt; omega) (fun k hk => by cases hk; exact Nat.le_refl _)
      have hnm3 : GM ES Tryz.prog 9 w3 w.heap.size l := hC.out.1.block (hb3.block _ (by omega))
      have hbw3 : Below w.heap.size w w3 := hC.out.2.2.trans (hb3.mono (by omega))
      have c2 := ((H.out.1.i x hx).below hbw3).cells.2.2.1
      have hnot : Mx.look l x.n = none := by
        rw [look_none, (hC.out.2.1.map (·.1)).mem_iff, List.map_map]
        intro hm'
        obtain ⟨z, hz, e⟩ := List.mem_map.1 hm'
        have h2 : (!left z.n) = true := (List.mem_filter.1 hz).2
        have e' : z.n = x.n := e
        rw [e', hls] at h2; cases h2
      have hll : l.length < maxLen := by
        have h1 := hC.out.2.1.length_eq
        simp only [List.length_map] at h1
        have h2 := List.length_filter_le (fun x : XI => !left x.n) xs
        rw [h1]; unfold maxLen; omega
      obtain ⟨w6, hrun, hg6, hgr6, hs6, hf6⟩ := hnm3.upd K9 (t := 127) Tryz.underlying127 x.n (Nat.le_trans (H.out.1.nl x hx) (by unfold maxLen; omega)) (str x.i.back) rfl hll
      have hrun' : (Instr.mapUpdate 127 (.map (some w.heap.size)) (str x.n) (str x.i.back)).run Tryz.prog w3 = .ok () w6 := hrun
      have hup : Mx.upd l x.n (str x.i.back) = l ++ [(x.n, str x.i.back)] := by unfold Mx.upd; rw [hnot]; rfl
      rw [hup] at hg6
      have hp := (filt_step (·.n) left xs H.out.1.names x hx hls).map (fun x : XI => (x.n, str x.i.back))
      rw [List.map_append] at hp
      have ham : am < w.heap.size := H.out.1.g.lt
      have hne1 : w.heap.size ≠ am := by omega
      have hrg6 := hrg1.blocks (hgr6.block _ hrg1.gm.lt (fun e => hne1 (Option.some.inj e).symm)) (hgr6.block _ hrg1.lt (fun e => by have := Option.some.inj e; omega))
      have hb6 : Below w.heap.size w w6 := hbw3.grown hgr6 hbw3.size fun k hk => by cases hk; exact Nat.le_refl _
      have HP := hid (And.intro hg6 (And.intro hp (And.intro hrg6 (And.intro hb6 (And.intro hC.out.2.1 (And.intro hrg hlt))))))
      clear hg6 hp hrg6 hb6 hrg hlt hnm3 hbw3 hb3 hg1 hs3 hrg1 hlk hls hgr6 hs6 hf6 hen hrun hup hnot hll hC
      go_wp2_with fail
      go_roundw
      case rel => exact ⟨_, cnt1, _, HP.out.2.2.1, hid ⟨HP.out.1, (HP.out.2.2.2.2.1.append_right _).trans HP.out.2.1.symm, HP.out.2.2.2.1⟩⟩
      case measure => rw [HP.out.2.2.1.left_eq, HP.out.2.2.2.2.2.1.left_eq]; exact HP.out.2.2.2.2.2.2
end Go.Proofs.YtgkabcaodnofnaaGreat
