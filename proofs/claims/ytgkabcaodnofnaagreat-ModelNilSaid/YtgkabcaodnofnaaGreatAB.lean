import Derived.Test.YtgkabcaodnofnaaGreatLY
import Derived.Test.YtgkabcaodnofnaaGreatAP
import Derived.Sort.OwnSorted

namespace Go.Proofs.YtgkabcaodnofnaaGreat
open Go.RowKit Go.Mx Go.Md Go.Sort
set_option linter.unusedVariables false
set_option linter.unusedSimpArgs false
theorem info9 : (Tryz.prog.info? 9).map (fun i => (i.zero, i.size, i.bytes)) = some (some (.string ⟨#[]⟩), 1, 16) := by kernel_rfl
abbrev strR (l : List Bs) : List (List Value) := l.map fun s => [str s]
/-- how many stand upon an image -/
def aboveN (S : IL) (n : Bs) : Nat := (S.filter fun p => decide (p.2.back = n)).length
theorem own_str {w : World} {base g n c : Nat} {l : List Bs} (h : OwnG w base 9 1 (.slice (some ⟨g, 0, none⟩) n c) (strR l)) : n = l.length ∧ ∃ cur : Array Value, w.heap[g]? = some (.cells cur 9 (0, 0)) ∧ cur.toList.take l.length = l.map encStr := by
  obtain ⟨h1, h2, h3, h4, cur, h5, h6, h7⟩ := h.parts
  rw [List.length_map] at h1 h7
  have e : (strR l).flatten = l.map encStr := by
    clear h h1 h3 h7
    induction l with
    | nil => rfl
    | cons a r ih =>
      show [str a] ++ (strR r).flatten = encStr a :: r.map encStr
      rw [ih]; rfl
  rw [e, Nat.mul_one] at h7
  exact ⟨h1, cur, h5, h7⟩
/-- function 58, for what it leaves -/
theorem sort58_any (v : Value) (l : List Bs) (base : Nat) (w : World) (h : OwnG w base 9 1 v (strR l)) (hl : l.length ≤ 1000000) : Calls Tryz.prog 58 #[v] w fun e w' => e = .returned (.tuple #[]) ∧ w.grownBy w' v.ownBlock := by
  rcases h.shape with ⟨rfl, he⟩ | ⟨g, c, rfl, hg, hlt⟩
  · refine Calls.mono (AnyM.slices_Sort_string_none sortS none 0 w) ?_
    rintro e w' ⟨rfl, rfl⟩
    exact ⟨rfl, ⟨rfl, rfl, rfl, Nat.le_refl _, fun _ _ _ => rfl⟩⟩
  · obtain ⟨hn, cur, hc, ht⟩ := own_str h
    have := AnyM.slices_Sort_string sortS g 0 c l w (holds_of_block hc ht) hlt (by omega)
    rw [← hn] at this
    refine Calls.mono this ?_
    rintro e w' ⟨rfl, n, os, rfl⟩
    exact ⟨rfl, grownBy_sorted _⟩
variable {w w' : World} {base mb am : Nat} {S : IL} {xs : List XI}
set_option maxRecDepth 100000 in
set_option maxHeartbeats 1000000 in
/-- function 78 -/
theorem above_any (hm : Mod0 w mb am) (hA : AM w base am S xs) (hl : xs.length ≤ 1000) (n : Bs) :
    Calls Tryz.prog 78 #[pt mb, str n] w fun e w' => ∃ oa c, e = .returned (.slice oa (aboveN S n) c) ∧ Below w.heap.size w w' := by
  have hmp := hA.g
  have hmc := hm.cell
  have HA := hid hA
  have HN := hid (show aboveN S n = (xs.filter fun x => decide (x.i.back = n)).length by
    unfold aboveN
    have h1 := (hA.p.filter (fun p => decide (p.2.back = n))).length_eq
    rw [← h1, List.filter_map, List.length_map]; rfl)
  clear hA
  go_enter Tryz.func78, Tryz.ntmps78
  go_wp2_with (first
    | (at_range; refine range_gm _ rfl _ rfl K9 Tryz.underlying57 rfl hmp ?_; intro w0 hrg0 hg0 hs0)
    | go_in)
  go_frame
  go_loopw [5] (fun s5 wr => ∃ (left : Bs → Bool) (cnt : Nat) (ls : List Bs), RG ES Tryz.prog 9 wr am w.heap.size (xs.map fun x => (x.n, pt x.ib)) left cnt ∧ Hid (OwnG wr w.heap.size 9 1 s5 (strR ls) ∧ ls.length = ((xs.filter fun x => !left x.n).filter fun x => decide (x.i.back = n)).length ∧ Below w.heap.size w wr)) (fun _ wr => wr.rangeLeft am w.heap.size)
  case atStart =>
    refine ⟨_, _, [], hrg0, hid ⟨OwnG.nil _ _ _ _, ?_, (Below.refl _ _).grown hg0 (Nat.le_refl _) (by simp)⟩⟩
    have e : xs.filter (fun x => !(Mx.look (xs.map fun x => (x.n, pt x.ib)) x.n).isSome) = [] := by
      rw [List.filter_eq_nil_iff]
      intro x hx
      rw [look_xi_some hx]; simp
    rw [e]; rfl
  case round =>
    obtain ⟨left, cnt, ls, hrg, hR⟩ := hrel
    clear hrg0 hg0 hs0 hmp
    obtain ⟨wO, hwO⟩ : ∃ x, x = wr := ⟨_, rfl⟩
    subst hwO
    obtain ⟨oa, vn, vc, rfl⟩ := ownG_sh hR.out.1
    go_wp2_with (first
      | (at_next; refine next_gm _ rfl _ rfl K9 w.heap.size _ _ rfl hrg ?_ ?_)
      | go_in)
    · intro hl0
      have e : xs.filter (fun x => !left x.n) = xs := List.filter_eq_self.2 fun x _ => by rw [hl0]; rfl
      have h1 := hR.out.2.1
      rw [e, ← HN.out] at h1
      have hxl : ls.length ≤ 1000 := by
        rw [h1, HN.out]
        exact Nat.le_trans (List.length_filter_le _ _) hl
      have hvn : vn = aboveN S n := by
        rcases hR.out.1.shape with ⟨he, h2⟩ | ⟨g, c, he, _⟩
        · cases he; have := congrArg List.length h2; simp at this; rw [← h1]; simp [this]
        · cases he; rw [List.length_map]; exact h1
      have HS := hid (sort58_any _ ls w.heap.size wO hR.out.1 (by omega))
      have HV := hid hvn
      clear hrg hl0 h1 hxl hvn e
      go_wp2_with (go_at_call 58; refine HS.out.mono ?_; rintro e w5 ⟨rfl, hg5⟩)
      go_ret
      rw [← HV.out]
      exact ⟨_, _, rfl, hR.out.2.2.grown hg5 hR.out.2.2.size (fun k hk => hR.out.1.ge k hk)⟩
    · intro s b w3 cnt1 hlk hls hrg1 hlt hg1 hs1 hen
      obtain ⟨x, hx, rfl, rfl⟩ := look_xi hlk
      have hb3 : Below w.heap.size wO w3 := (Below.refl w.heap.size wO).grown hg1 hR.out.2.2.size (fun k hk => by cases hk; exact Nat.le_refl _)
      have hbw3 : Below w.heap.size w w3 := hR.out.2.2.trans hb3
      have c2 := ((HA.out.i x hx).below hbw3).cells.2.2.1
      have ho3 : OwnG w3 w.heap.size 9 1 (.slice oa vn vc) (strR ls) := hR.out.1.kept (N := fun q => q ≠ w.heap.size) (Kept.grown hg1 fun k hk => by cases hk; simp) fun q hq e => by
        obtain ⟨c9, f9, h9⟩ := ownG_type hR.out.1 q hq
        obtain ⟨ia, ib', ic, hit⟩ := hrg.iter
        rw [e, hit] at h9; cases h9
      have hp := (filt_step (·.n) left xs HA.out.names x hx hls).filter fun x => decide (x.i.back = n)
      have hpl := hp.length_eq
      rw [List.filter_append, List.length_append, ← hR.out.2.1] at hpl
      have hen' : (Instr.entry (.pointer (some ⟨w.heap.size, 0, none⟩))).run Tryz.prog w3 = .ok (.tuple #[str x.n, pt x.ib]) w3 := hen
      cases hbn : (x.i.back == n)
      · have hne : ¬ x.i.back = n := by simpa using hbn
        have hpl' : ls.length = ((xs.filter fun t => !(left t.n && !decide (t.n = x.n))).filter fun x => decide (x.i.back = n)).length := by rw [hpl]; simp [hne]
        have HP := hid (And.intro hrg1 (And.intro hlt (And.intro hbw3 (And.intro ho3 (And.intro hpl' hrg)))))
        clear hrg1 hlt hbw3 ho3 hpl hrg hp hb3 hg1 hs1 hlk hls hen hne hpl'
        go_wp2_with fail
        go_roundw
        case rel => exact ⟨_, cnt1, ls, HP.out.1, hid ⟨HP.out.2.2.2.1, HP.out.2.2.2.2.1, HP.out.2.2.1⟩⟩
        case measure => rw [HP.out.1.left_eq, HP.out.2.2.2.2.2.left_eq]; exact HP.out.2.1
      · have he : x.i.back = n := by simpa using hbn
        have hpl' : (ls ++ [x.n]).length = ((xs.filter fun t => !(left t.n && !decide (t.n = x.n))).filter fun x => decide (x.i.back = n)).length := by rw [hpl]; simp [he]
        have hll : ls.length ≤ 1000 := by
          rw [hR.out.2.1]
          exact Nat.le_trans (List.length_filter_le _ _) (Nat.le_trans (List.length_filter_le _ _) hl)
        have hbA : Below w.heap.size w3 (w3.alloc (.cells #[str x.n] 9)) := (Below.refl _ _).alloc hbw3.size _
        have hoA : OwnG (w3.alloc (.cells #[str x.n] 9)) w.heap.size 9 1 (.slice oa vn vc) (strR ls) := ho3.below ((Below.refl _ _).alloc (Nat.le_refl _) _) (Nat.le_refl _)
        have hsz : w.heap.size ≤ (w3.alloc (.cells #[str x.n] 9)).heap.size := Nat.le_trans hbw3.size hbA.size
        have hrA : RG ES Tryz.prog 9 (w3.alloc (.cells #[str x.n] 9)) am w.heap.size (xs.map fun x => (x.n, pt x.ib)) (fun t => left t && !decide (t = x.n)) cnt1 := hrg1.blocks (((Below.refl w3.heap.size w3).alloc (Nat.le_refl _) _).block _ hrg1.gm.lt) (((Below.refl w3.heap.size w3).alloc (Nat.le_refl _) _).block _ hrg1.lt)
        have hnr : ∀ q, (Value.slice oa vn vc).ownBlock = some q → q ≠ w.heap.size ∧ q ≠ am := fun q hq => by
          obtain ⟨c9, f9, h9⟩ := ownG_type ho3 q hq
          refine ⟨fun e => ?_, fun e => ?_⟩
          · obtain ⟨ia, ib', ic, hit⟩ := hrg1.iter; rw [e, hit] at h9; cases h9
          · obtain ⟨es, k, h1⟩ := hrg1.gm.isMap; rw [e, h1] at h9; cases h9
        have hl1 : ((strR ls).length + 1) * 16 ≤ 140737488355328 := by rw [List.length_map]; omega
        have hl2 : (strR ls).length + 1 ≤ 140737488355328 := by rw [List.length_map]; omega
        have HP := hid (And.intro hrA (And.intro hlt (And.intro hbw3 (And.intro hoA (And.intro hpl' (And.intro hrg (And.intro hsz (And.intro hnr (And.intro hl1 (And.intro hl2 hbA))))))))))
        clear hrg1 hlt hbw3 ho3 hpl hrg hp hb3 hg1 hs1 hlk hls hen hpl' hll hbA hoA hsz hrA hnr hl1 hl2
        go_wp2_with (at_builtin; refine append_g _ rfl _ _ 31 9 _ 1 16 rfl Tryz.underlying31 info9 rfl (by decide) w.heap.size _ (strR ls) rfl HP.out.2.2.2.1 w3.heap.size 1 [str x.n] rfl rfl (fun j u hj => row_cells w3 [str x.n] 9 j u hj) (by simp [Value.oneCell']) HP.out.2.2.2.2.2.2.2.2.1 HP.out.2.2.2.2.2.2.2.2.2.1 HP.out.2.2.2.2.2.2.1 ?_; intro v9 w9 ho9 hg9 hb9; obtain ⟨ga, gn, gc, rfl⟩ := ownG_sh ho9; have hg9' : (w3.alloc (.cells #[str x.n] 9)).grownBy w9 (Value.slice oa vn vc).ownBlock := hg9)
        go_roundw
        case rel =>
          refine ⟨_, cnt1, ls ++ [x.n], HP.out.1.blocks (hg9'.block _ HP.out.1.gm.lt fun e => (HP.out.2.2.2.2.2.2.2.1 am e.symm).2 rfl) (hg9'.block _ HP.out.1.lt fun e => (HP.out.2.2.2.2.2.2.2.1 _ e.symm).1 rfl), hid ⟨?_, HP.out.2.2.2.2.1, (HP.out.2.2.1.trans HP.out.2.2.2.2.2.2.2.2.2.2).trans hb9⟩⟩
          have e1 : strR (ls ++ [x.n]) = strR ls ++ [[str x.n]] := by simp
          rw [e1]; exact ho9
        case measure =>
          have h9 := HP.out.1.blocks (hg9'.block _ HP.out.1.gm.lt fun e => (HP.out.2.2.2.2.2.2.2.1 am e.symm).2 rfl) (hg9'.block _ HP.out.1.lt fun e => (HP.out.2.2.2.2.2.2.2.1 _ e.symm).1 rfl)
          rw [h9.left_eq, HP.out.2.2.2.2.2.1.left_eq]; exact HP.out.2.1
end Go.Proofs.YtgkabcaodnofnaaGreat
