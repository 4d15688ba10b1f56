import Derived.Test.YtgkabcaodnofnaaGreatCM

namespace Go.Proofs.YtgkabcaodnofnaaGreat
open Go.RowKit Go.Mx Go.Md
set_option linter.unusedVariables false
set_option linter.unusedSimpArgs false
theorem filt_step {α : Type} [DecidableEq α] (f : XI → α) (left : α → Bool) : ∀ (xs : List XI), (xs.map f).Nodup → ∀ x ∈ xs, left (f x) = true → (xs.filter fun t => !(left (f t) && !decide (f t = f x))).Perm (xs.filter (fun t => !left (f t)) ++ [x])
  | [], _, x, hx, _ => by cases hx
  | a :: r, hn, x, hx, hl => by
    rw [List.map_cons, List.nodup_cons] at hn
    rcases List.mem_cons.1 hx with rfl | hx'
    · have e : r.filter (fun t => !(left (f t) && !decide (f t = f x))) = r.filter (fun t => !left (f t)) := by
        apply List.filter_congr
        intro t ht
        have : f t ≠ f x := fun e => hn.1 (e ▸ List.mem_map.2 ⟨t, ht, rfl⟩)
        simp [this]
      rw [List.filter_cons, List.filter_cons, if_pos (by simp), e, if_neg (by simp [hl])]
      exact (List.perm_append_singleton x _).symm
    · have hne : f a ≠ f x := fun e => hn.1 (e ▸ List.mem_map.2 ⟨x, hx', rfl⟩)
      have ih := filt_step f left r hn.2 x hx' hl
      rw [List.filter_cons, List.filter_cons]
      cases hla : left (f a)
      · simp only [Bool.false_and, Bool.not_false, if_true, List.cons_append]
        exact ih.cons a
      · simp only [Bool.true_and, Bool.not_true, Bool.not_not, Bool.false_eq_true, if_false, hne, decide_false]
        exact ih
theorem look_xi {xs : List XI} {s : Bs} {b : Value} (h : Mx.look (xs.map fun x => (x.n, pt x.ib)) s = some b) : ∃ x ∈ xs, x.n = s ∧ b = pt x.ib := by
  have h1 := look_mem h
  obtain ⟨x, hx, he⟩ := List.mem_map.1 h1
  simp only [Prod.mk.injEq] at he
  exact ⟨x, hx, he.1, he.2.symm⟩
theorem look_xi_some {xs : List XI} {x : XI} (hx : x ∈ xs) : (Mx.look (xs.map fun x => (x.n, pt x.ib)) x.n).isSome = true := by
  cases h : Mx.look (xs.map fun x => (x.n, pt x.ib)) x.n with
  | some b => rfl
  | none => rw [look_none, List.map_map] at h; exact absurd (List.mem_map.2 ⟨x, hx, rfl⟩) h
theorem II.lt {w : World} {base ib : Nat} {i : IM} {x : IX} (h : II w base ib i x) : ∀ b ∈ x.fp ib, b < w.heap.size := by
  intro b hb
  unfold IX.fp at hb
  simp only [List.mem_cons, List.mem_append, List.mem_map, Option.mem_toList] at hb
  rcases hb with rfl | rfl | ⟨s, hs, rfl⟩ | e
  · exact blk_lt h.ck
  · exact h.own.g.lt
  · exact (h.sm s hs).g.lt
  · exact h.so.lt _ e
/-- images being cloned: those so far -/
structure CLs (w wr : World) (base nm : Nat) (xs ys : List XI) (q : Bs → Bool) : Prop where
  g : GM ES Tryz.prog 9 wr nm (ys.map fun x => (x.n, pt x.ib))
  p : (ys.map fun x => (x.n, x.i)).Perm ((xs.filter fun x => q x.n).map fun x => (x.n, x.i))
  i : ∀ y ∈ ys, II wr base y.ib y.i y.x
  nd : (ys.flatMap fun y => y.x.fp y.ib).Nodup
  ge : ∀ b ∈ ys.flatMap (fun y => y.x.fp y.ib), nm + 1 < b ∧ b < wr.heap.size
  b : Below nm w wr
variable {w w' : World} {base am : Nat} {S : IL} {xs : List XI}
set_option maxRecDepth 100000 in
set_option maxHeartbeats 1000000 in
/-- function 28 -/
theorem cloned_any (hA : AM w base am S xs) (hbase : base ≤ w.heap.size) (hl : xs.length ≤ 1000) :
    Calls Tryz.prog 28 #[.map (some am)] w fun e w' => e = .returned (.map (some w.heap.size)) ∧ ∃ ys, AM w' base w.heap.size S ys ∧ (fpA w.heap.size ys).Nodup ∧ (∀ b ∈ fpA w.heap.size ys, w.heap.size ≤ b) ∧ Below w.heap.size w w' := by
  obtain ⟨w1, hw1⟩ : ∃ w1, w1 = w.alloc (.map #[] 0) := ⟨_, rfl⟩
  have hb1 : Below w.heap.size w w1 := by rw [hw1]; exact (Below.refl _ _).alloc (Nat.le_refl _) _
  have hg1 : GM ES Tryz.prog 9 w1 w.heap.size [] := by rw [hw1]; exact GM.made ES Tryz.prog 9 w
  have hs1 : w1.heap.size = w.heap.size + 1 := by rw [hw1]; simp
  have hmp := (hA.below hb1).g
  have H := hid (And.intro hA (And.intro hb1 (And.intro hg1 hs1)))
  have HW := hid hw1
  have hmm := @run_makeMap Tryz.prog
  clear hA hb1 hg1 hw1
  go_enter Tryz.func28, Tryz.ntmps28
  go_upto_region 2 with (fail)
  rw [← HW.out]
  go_wp2_with (first
    | (at_range; refine range_gm _ rfl _ rfl K9 Tryz.underlying57 rfl hmp ?_; intro w0 hrg0 hg0 hs0)
    | go_in)
  rw [hs1] at hrg0 ⊢
  go_frame
  go_loopw [4] (fun _ wr => ∃ (left : Bs → Bool) (cnt : Nat) (ys : List XI), RG ES Tryz.prog 9 wr am (w.heap.size + 1) (xs.map fun x => (x.n, pt x.ib)) left cnt ∧ CLs w wr base w.heap.size xs ys (fun s => !left s)) (fun _ wr => wr.rangeLeft am (w.heap.size + 1))
  case atStart =>
    have hb0 : Below (w.heap.size + 1) w1 w0 := (Below.refl _ _).grown hg0 (by omega) (by simp)
    refine ⟨_, _, [], hrg0, ?_, ?_, by simp, by simp, by simp, H.out.2.1.trans (hb0.mono (by omega))⟩
    · exact H.out.2.2.1.block (hb0.block _ (by omega))
    · have e : xs.filter (fun x => !(Mx.look (xs.map fun x => (x.n, pt x.ib)) x.n).isSome) = [] := by
        rw [List.filter_eq_nil_iff]
        intro x hx
        rw [look_xi_some hx]; simp
      rw [e]
  case round =>
    obtain ⟨left, cnt, ys, hrg, hC⟩ := hrel
    clear hrg0 hg0 hs0 hmp
    obtain ⟨wO, hwO⟩ : ∃ x, x = wr := ⟨_, rfl⟩
    subst hwO
    go_wp2_with (first
      | (at_next; refine next_gm _ rfl _ rfl K9 (w.heap.size + 1) _ _ rfl hrg ?_ ?_)
      | go_in)
    · intro hl0
      have HD := hid hC
      clear hC hrg
      go_wp2_with fail
      go_ret
      have hC := HD.out
      have e : xs.filter (fun x => !left x.n) = xs := List.filter_eq_self.2 fun x _ => by rw [hl0]; rfl
      have hp := hC.p
      rw [e] at hp
      refine ⟨rfl, ys, ⟨hC.g, hp.trans H.out.1.p, hC.i, fun y hy => ?_, fun y hy => ?_, H.out.1.nd⟩, ?_, ?_, hC.b⟩
      · have h1 := hp.mem_iff.1 (List.mem_map.2 ⟨y, hy, rfl⟩)
        obtain ⟨x, hx, he⟩ := List.mem_map.1 h1
        simp only [Prod.mk.injEq] at he
        rw [← he.2]; exact H.out.1.ok x hx
      · have h1 := hp.mem_iff.1 (List.mem_map.2 ⟨y, hy, rfl⟩)
        obtain ⟨x, hx, he⟩ := List.mem_map.1 h1
        simp only [Prod.mk.injEq] at he
        rw [← he.1]; exact H.out.1.nl x hx
      · unfold fpA
        rw [List.nodup_cons]
        exact ⟨fun h => by have := (hC.ge _ h).1; omega, hC.nd⟩
      · intro b hb
        unfold fpA at hb
        rcases List.mem_cons.1 hb with rfl | h
        · exact Nat.le_refl _
        · have := (hC.ge b h).1; omega
    · intro s b w3 cnt1 hlk hls hrg1 hlt hg1 hs1 hen
      obtain ⟨x, hx, rfl, rfl⟩ := look_xi hlk
      have hb3 : Below (w.heap.size + 1) wO w3 := (Below.refl (w.heap.size + 1) wO).grown hg1 (by have := hC.g.lt; have := hrg.lt; omega) (fun k hk => by cases hk; exact Nat.le_refl _)
      have hnm3 : GM ES Tryz.prog 9 w3 w.heap.size (ys.map fun x => (x.n, pt x.ib)) := hC.g.block (hb3.block _ (by omega))
      have hbw3 : Below w.heap.size w w3 := hC.b.trans (hb3.mono (by omega))
      have hII := (H.out.1.i x hx).below hbw3
      have hok := H.out.1.ok x hx
      have HL := hid (show ys.length < maxLen by
        have h1 := hC.p.length_eq
        simp only [List.length_map] at h1
        have h2 := List.length_filter_le (fun x : XI => !left x.n) xs
        rw [h1]; unfold maxLen; omega)
      have HC := hid (clone_any hII (Nat.le_trans hbase hbw3.size) hok.ns)
      have HP := hid (And.intro hC (And.intro hrg (And.intro hrg1 (And.intro hlt (And.intro hg1 (And.intro hs1 (And.intro hb3 (And.intro hnm3 (And.intro hbw3 (And.intro hx hls))))))))))
      clear hC hrg hrg1 hlt hg1 hs1 hb3 hnm3 hbw3 hII hok hlk hls
      go_wp2_with (go_at_call 26; refine HC.out.mono ?_; rintro e w5 ⟨rfl, x', hII', hnd', hge', hb5⟩; obtain ⟨w6, hrun, hg6, hgr6, hs6, hf6⟩ := (HP.out.2.2.2.2.2.2.2.1.block (hb5.block _ HP.out.2.2.2.2.2.2.2.1.lt)).upd K9 Tryz.underlying57 x.n (Nat.le_trans (H.out.1.nl x HP.out.2.2.2.2.2.2.2.2.2.1) (by unfold maxLen; omega)) (pt w3.heap.size) rfl (by rw [List.length_map]; exact HL.out))
      obtain ⟨hC, hrg, hrg1, hlt, hg1, hs1, hb3, hnm3, hbw3, hx, hls⟩ := HP.out
      have hk6 : Kept w5 w6 (· ≠ w.heap.size) := Kept.grown hgr6 fun k hk => by cases hk; simp
      have hb6 : Below w.heap.size w5 w6 := (Below.refl _ _).grown hgr6 (by have := hb5.size; have := hC.g.lt; have := hb3.size; omega) fun k hk => by cases hk; exact Nat.le_refl _
      have ham : am < w.heap.size := H.out.1.g.lt
      have hbig : w.heap.size < w3.heap.size := hnm3.lt
      have hNI6 : NI w5 (· ≠ w.heap.size) := fun b c t f hb _ e => by
        obtain ⟨es, k, h1⟩ := (hnm3.block (hb5.block _ hnm3.lt)).isMap
        rw [e, h1] at hb; cases hb
      have hnot : x.n ∉ ys.map (·.n) := fun hm => by
        obtain ⟨y, hy, e⟩ := List.mem_map.1 hm
        have h1 := hC.p.mem_iff.1 (List.mem_map.2 ⟨y, hy, rfl⟩)
        obtain ⟨z, hz, he⟩ := List.mem_map.1 h1
        simp only [Prod.mk.injEq] at he
        have h2 : (!left z.n) = true := (List.mem_filter.1 hz).2
        rw [he.1, e, hls] at h2; cases h2
      have hup : Mx.upd (ys.map fun x => (x.n, pt x.ib)) x.n (pt w3.heap.size) = (ys ++ [(⟨x.n, x.i, w3.heap.size, x'⟩ : XI)]).map fun x => (x.n, pt x.ib) := by
        have h1 : Mx.look (ys.map fun x => (x.n, pt x.ib)) x.n = none := by
          rw [look_none, List.map_map]; exact hnot
        unfold Mx.upd
        rw [h1]; simp
      rw [hup] at hg6
      have hne1 : am ≠ w.heap.size := by omega
      have hrg6 := (hrg1.blocks (hb5.block _ hrg1.gm.lt) (hb5.block _ hrg1.lt)).blocks (hgr6.block _ (Nat.lt_of_lt_of_le hrg1.gm.lt hb5.size) (fun e => hne1 (Option.some.inj e))) (hgr6.block _ (Nat.lt_of_lt_of_le hrg1.lt hb5.size) (fun e => by have := Option.some.inj e; omega))
      refine ⟨⟨_, cnt1, ys ++ [⟨x.n, x.i, w3.heap.size, x'⟩], hrg6, ⟨hg6, ?_, ?_, ?_, ?_, (hbw3.trans (hb5.mono (by omega))).trans hb6⟩⟩, ?_⟩
      · rw [List.map_append]
        have h1 := (filt_step (·.n) left xs H.out.1.names x hx hls).map (fun x : XI => (x.n, x.i))
        rw [List.map_append] at h1
        exact (hC.p.append_right _).trans h1.symm
      · intro y hy
        rcases List.mem_append.1 hy with h1 | h1
        · obtain ⟨ia, ib', ic, hit⟩ := hrg.iter
          refine (((hC.i y h1).kept (N := (· ≠ w.heap.size + 1)) (Kept.grown hg1 fun k hk => by cases hk; simp) (fun b hb => ?_) (fun b c t f hb _ e => by rw [e, hit] at hb; cases hb)).below hb5).kept hk6 (fun b hb => ?_) hNI6
          · have := (hC.ge b (List.mem_flatMap.2 ⟨y, h1, hb⟩)).1; omega
          · have := (hC.ge b (List.mem_flatMap.2 ⟨y, h1, hb⟩)).1; omega
        · simp at h1; subst h1
          exact hII'.kept hk6 (fun b hb => by have := hge' b hb; omega) hNI6
      · rw [List.flatMap_append, List.nodup_append]
        refine ⟨hC.nd, by simpa using hnd', fun a ha b hb e => ?_⟩
        subst e
        simp at hb
        have h1 := (hC.ge a ha).2
        have h2 := hge' a hb
        have := hb3.size
        have h3 : wO.heap.size ≤ w3.heap.size := hb3.size
        omega
      · intro b hb
        rw [List.flatMap_append] at hb
        rcases List.mem_append.1 hb with h1 | h1
        · have h2 := hC.ge b h1
          have h3 : wO.heap.size ≤ w3.heap.size := hb3.size
          have := hb5.size
          omega
        · simp at h1
          have h2 := hge' b h1
          have h4 := hII'.lt b h1
          have h5 := hrg1.lt
          omega
      · rw [hrg6.left_eq, hrg.left_eq]; exact hlt
end Go.Proofs.YtgkabcaodnofnaaGreat
