import Derived.Test.YtgkabcaodnofnaaGreatG
namespace Go.Proofs.YtgkabcaodnofnaaGreat
open Go.RowKit Go.Mx Go.Md
set_option linter.unusedVariables false
set_option linter.unusedSimpArgs false
theorem info116 : (Tryz.prog.info? 116).map (fun i => (i.zero, i.size, i.bytes)) = some (some (.agg #[.int .i64 0, .int .i64 0, .int .i64 0]), 3, 24) := by kernel_rfl
theorem size116 (w : World) : (sizeOf 116).run Tryz.prog w = .ok 3 w := by kernel_rfl
/-- pieces of a range by clusters -/
def pcs (wide a stop : Nat) : List (Nat × Nat) := pieces wide (stop - a) a stop
theorem pieces_fuel (wide : Nat) (hw : 0 < wide) : ∀ (f g a stop : Nat), stop - a ≤ f → stop - a ≤ g → pieces wide f a stop = pieces wide g a stop
  | 0, 0, a, stop, _, _ => rfl
  | 0, g + 1, a, stop, h1, _ => by simp only [pieces]; rw [if_neg (by omega)]
  | f + 1, 0, a, stop, _, h2 => by simp only [pieces]; rw [if_neg (by omega)]
  | f + 1, g + 1, a, stop, h1, h2 => by
    simp only [pieces]
    by_cases h : a < stop
    · rw [if_pos h, if_pos h]
      have hm : a % wide < wide := Nat.mod_lt _ hw
      rw [pieces_fuel wide hw f g _ stop (by omega) (by omega)]
    · rw [if_neg h, if_neg h]
theorem pcs_step {wide a stop : Nat} (hw : 0 < wide) (h : a < stop) : pcs wide a stop = (a, min (wide - a % wide) (stop - a)) :: pcs wide (a + min (wide - a % wide) (stop - a)) stop := by
  have hm : a % wide < wide := Nat.mod_lt _ hw
  unfold pcs
  obtain ⟨k, hk⟩ : ∃ k, k = min (wide - a % wide) (stop - a) := ⟨_, rfl⟩
  have hk1 : 1 ≤ k := by omega
  obtain ⟨f, hf⟩ : ∃ f, stop - a = f + 1 := ⟨stop - a - 1, by omega⟩
  have h1 : pieces wide (stop - a) a stop = (a, k) :: pieces wide f (a + k) stop := by
    rw [hf]
    simp only [pieces]
    rw [if_pos h, ← hk]
  rw [h1, ← hk, pieces_fuel wide hw f (stop - (a + k)) (a + k) stop (by omega) (by omega)]
theorem pcs_end {wide a stop : Nat} (h : stop ≤ a) : pcs wide a stop = [] := by
  unfold pcs; rw [Nat.sub_eq_zero_of_le h]; rfl
abbrev prow (wide : Nat) (p : Nat × Nat) : List Value := [.int .i64 (p.1 / wide : Nat), .int .i64 (p.1 % wide : Nat), .int .i64 p.2]
theorem tdiv_nat (a b : Nat) : Int.tdiv (a : Int) (b : Int) = ((a / b : Nat) : Int) := rfl
theorem tmod_nat (a b : Nat) : Int.tmod (a : Int) (b : Int) = ((a % b : Nat) : Int) := rfl
set_option maxRecDepth 100000 in
set_option maxHeartbeats 1000000 in
theorem split_any (a n cl : Nat) (w : World) (h1 : cl ≤ 6) (h2 : a ≤ 4096) (h3 : n ≤ 4096) : Calls Tryz.prog 64 #[.int .i64 a, .int .i64 n, .int .i64 cl] w fun e w' => ∃ v, e = .returned (.tuple #[v, .int .i64 0]) ∧ OwnG w' w.heap.size 116 3 v ((pcs (2 ^ cl) a (a + n)).map (prow (2 ^ cl))) ∧ Below w.heap.size w w' := by
  have t1 : ¬ ((cl : Int) < 0) := by omega
  have t2 : ¬ ((6 : Int) < (cl : Int)) := by omega
  have t3 : ¬ ((a : Int) < 0) := by omega
  have t4 : ¬ ((n : Int) < 0) := by omega
  have t5 : ¬ ((4096 : Int) < (a : Int)) := by omega
  have t6 : ¬ ((4096 : Int) < (n : Int)) := by omega
  have t7 : ¬ 6 < cl := by omega
  have t8 : ¬ 4096 < a := by omega
  have t9 : ¬ 4096 < n := by omega
  have hwl : 1 ≤ 2 ^ cl ∧ 2 ^ cl ≤ 64 := by
    have : cl = 0 ∨ cl = 1 ∨ cl = 2 ∨ cl = 3 ∨ cl = 4 ∨ cl = 5 ∨ cl = 6 := by omega
    rcases this with rfl | rfl | rfl | rfl | rfl | rfl | rfl <;> simp
  obtain ⟨W, hW⟩ : ∃ W : Nat, W = 2 ^ cl := ⟨_, rfl⟩
  rw [← hW] at hwl ⊢
  have hpw : wrap64 ((2 : Int) ^ cl) = (W : Int) := by
    have e : ((2 : Int) ^ cl) = (W : Int) := by rw [hW]; simp
    rw [e]; unfold wrap64; omega
  clear hW
  have HPW := hid hpw
  clear hpw
  go_enter Tryz.func64, Tryz.ntmps64
  go_upto_region 5 with (fail)
  rw [HPW.out]
  clear t1 t2 t3 t4 t5 t6 t7 t8 t9 HPW
  obtain ⟨stop, hstop⟩ : ∃ s : Nat, s = a + n := ⟨_, rfl⟩
  have hsI : (a : Int) + (n : Int) = (stop : Int) := by omega
  have hsb : stop ≤ 8192 := by omega
  have hsa : a ≤ stop := by omega
  have HST := hid hstop
  clear hstop
  go_wp2_with fail
  go_loopw [0, 8] (fun s0 s8 wr => ∃ (pos : Nat) (done : List (Nat × Nat)), s0 = .int .i64 pos ∧ a ≤ pos ∧ pos ≤ stop ∧ done.length ≤ pos ∧ OwnG wr w.heap.size 116 3 s8 (done.map (prow W)) ∧ pcs W a stop = done ++ pcs W pos stop ∧ Below w.heap.size w wr) (fun s0 _ _ => stop - (intOf s0).toNat)
  case atStart => exact ⟨a, [], rfl, by omega, by omega, by simp, OwnG.nil _ _ _ _, rfl, Below.refl _ _⟩
  case round =>
    obtain ⟨pos, done, rfl, hp1, hp2, hdl, ho, hpc, hbl⟩ := hrel
    by_cases hlt : pos < stop
    · have hm : pos % W < W := Nat.mod_lt _ (by omega)
      have hst := pcs_step (wide := W) (by omega) hlt
      obtain ⟨K, hK⟩ : ∃ K, K = min (W - pos % W) (stop - pos) := ⟨_, rfl⟩
      rw [← hK] at hst
      have hK1 : 1 ≤ K ∧ pos + K ≤ stop := by omega
      have hkI : (if (stop : Int) - (pos : Int) < (W : Int) - (pos : Int) % (W : Int) then (stop : Int) - (pos : Int) else (W : Int) - (pos : Int) % (W : Int)) = (K : Int) := by
        have : (pos : Int) % (W : Int) = ((pos % W : Nat) : Int) := (Int.natCast_emod _ _).symm
        rw [this]
        split <;> omega
      have HK := hid hkI
      have HP := hid (And.intro hst (And.intro hpc (And.intro ho hbl)))
      obtain ⟨oa, vn, vc, rfl⟩ := ownG_sh ho
      clear hst hpc hK hkI hbl
      go_upto_region 8 with (fail)
      rw [HK.out]
      obtain ⟨Q, hQ⟩ : ∃ Q : Int, Q = (pos : Int) / (W : Int) := ⟨_, rfl⟩
      obtain ⟨R, hR⟩ : ∃ R : Int, R = (pos : Int) % (W : Int) := ⟨_, rfl⟩
      have hrow : prow W (pos, K) = [.int .i64 Q, .int .i64 R, .int .i64 K] := by rw [hQ, hR]; rfl
      have hQb : 0 ≤ Q ∧ Q ≤ 8192 := by
        have h1 : Q = ((pos / W : Nat) : Int) := by rw [hQ]; exact (Int.natCast_ediv _ _).symm
        have h2 := Nat.div_le_self pos W
        obtain ⟨D, hD⟩ : ∃ D, D = pos / W := ⟨_, rfl⟩
        rw [← hD] at h1 h2
        omega
      have hRb : 0 ≤ R ∧ R ≤ 8192 := by
        have h1 : R = ((pos % W : Nat) : Int) := by rw [hR]; exact (Int.natCast_emod _ _).symm
        obtain ⟨D, hD⟩ : ∃ D, D = pos % W := ⟨_, rfl⟩
        rw [← hD] at h1 hm
        omega
      have HQR := hid (And.intro hQ hR)
      clear hQ hR
      have hA : Below wr.heap.size wr (wr.alloc (.cells #[.int .i64 Q, .int .i64 R, .int .i64 K] 116)) := (Below.refl _ _).alloc (Nat.le_refl _) _
      have hAa : ∀ X : World, (X = wr.alloc (.cells #[.int .i64 Q, .int .i64 R, .int .i64 K] 116) ∨ X = (wr.alloc (.cells #[.int .i64 Q, .int .i64 R, .int .i64 K] 116)).drew) → Below wr.heap.size wr X := fun X hX => by
        rcases hX with rfl | rfl
        · exact hA
        · exact hA.drew
      have hE1 : ∀ X : World, (X = wr.alloc (.cells #[.int .i64 Q, .int .i64 R, .int .i64 K] 116) ∨ X = (wr.alloc (.cells #[.int .i64 Q, .int .i64 R, .int .i64 K] 116)).drew) → OwnG X w.heap.size 116 3 (.slice oa vn vc) (done.map (prow W)) := fun X hX => ho.below (hAa X hX) (Nat.le_refl _)
      have hE2 : ∀ X : World, (X = wr.alloc (.cells #[.int .i64 Q, .int .i64 R, .int .i64 K] 116) ∨ X = (wr.alloc (.cells #[.int .i64 Q, .int .i64 R, .int .i64 K] 116)).drew) → ∀ j u, (prow W (pos, K))[j]? = some u → X.cell? ⟨wr.heap.size, j, none⟩ = some u := fun X hX j u hj => by
        have h0 : X.heap[wr.heap.size]? = some (.cells #[.int .i64 Q, .int .i64 R, .int .i64 K] 116 (0, 0)) := by
          rcases hX with rfl | rfl <;> exact alloc_new wr _
        rw [hrow] at hj
        rcases j with _ | _ | _ | j <;> simp at hj <;> subst hj <;> simp [World.cell?, h0]
      have hE3 : ∀ u ∈ prow W (pos, K), u.oneCell' = true := by rw [hrow]; intro u hu; simp at hu; rcases hu with rfl | rfl | rfl <;> rfl
      have hE4 : ∀ X : World, (X = wr.alloc (.cells #[.int .i64 Q, .int .i64 R, .int .i64 K] 116) ∨ X = (wr.alloc (.cells #[.int .i64 Q, .int .i64 R, .int .i64 K] 116)).drew) → w.heap.size ≤ X.heap.size := fun X hX => Nat.le_trans HP.out.2.2.2.size (hAa X hX).size
      have hl1 : ((done.map (prow W)).length + 1) * 24 ≤ 140737488355328 := by rw [List.length_map]; omega
      have hl2 : (done.map (prow W)).length + 1 ≤ 140737488355328 := by rw [List.length_map]; omega
      have HE := hid (And.intro hE1 (And.intro hE2 (And.intro hE3 (And.intro hE4 hAa))))
      have q1 : (pos : Int) / (W : Int) = Q := HQR.out.1.symm
      have q2 : (pos : Int) % (W : Int) = R := HQR.out.2.symm
      have hW0 : ¬ W = 0 := by omega
      have q3 : (pos : Int).tmod (W : Int) = R := by rw [IntWalk.rem_in _ _ (by omega)]; exact q2
      have q4 : (pos : Int).tdiv (W : Int) = Q := by rw [tdiv_eq_if, if_pos (by omega)]; exact q1
      have hwQ : IntKind.i64.wrap Q = Q := IntWalk.i64_in _ (by omega)
      clear hA hAa hE1 hE2 hE3 hE4 ho HK hrow
      go_region_law (first
        | (refine step_append_g _ (by rfl) (.tmp 51) (.tmp 60) 112 116 _ 3 24 rfl Tryz.underlying112 info116 rfl (by decide) w.heap.size _ (done.map (prow W)) (by rfl) (HE.out.1 _ (by first | exact Or.inl rfl | exact Or.inr rfl)) wr.heap.size 1 (prow W (pos, K)) (by rfl) rfl (HE.out.2.1 _ (by first | exact Or.inl rfl | exact Or.inr rfl)) HE.out.2.2.1 hl1 hl2 (HE.out.2.2.2.1 _ (by first | exact Or.inl rfl | exact Or.inr rfl)) ?_; intro v7 w7 ho7 hg7 hb7; have hbw7 : Below w.heap.size w w7 := (HP.out.2.2.2.trans ((HE.out.2.2.2.2 _ (by first | exact Or.inl rfl | exact Or.inr rfl)).mono HP.out.2.2.2.size)).trans hb7; obtain ⟨a7, n7, c7, rfl⟩ := ownG_sh ho7))
      all_goals
        have HT := hid (And.intro ho7 hbw7)
        clear ho7 hg7 hb7 hbw7 q1 q2 q3 q4 hwQ
        go_wp2_with fail
        refine ⟨⟨pos + K, done ++ [(pos, K)], by go_num, by omega, by omega, by simp; omega, by rw [List.map_append]; exact HT.out.1, by rw [HP.out.2.1, HP.out.1]; simp, HT.out.2⟩, by simp [intOf]; omega⟩
    · obtain rfl : pos = stop := by omega
      have HP := hid (And.intro hpc (And.intro ho hbl))
      obtain ⟨oa, vn, vc, rfl⟩ := ownG_sh ho
      clear hpc ho hbl
      go_wp2_with fail
      go_ret2
      refine ⟨_, rfl, ?_, HP.out.2.2⟩
      have h9 := HP.out.1
      rw [pcs_end (Nat.le_refl _), List.append_nil] at h9
      rw [← HST.out, h9]
      exact HP.out.2.1
end Go.Proofs.YtgkabcaodnofnaaGreat
