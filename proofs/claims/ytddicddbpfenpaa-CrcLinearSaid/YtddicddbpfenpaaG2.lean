import Derived.Test.YtddicddbpfenpaaG
namespace Go.Proofs.Ytddicddbpfenpaa
open Go.RowKit Go.Mx Go.Crc

set_option maxRecDepth 100000 in
set_option maxHeartbeats 2000000 in
theorem crcNoughts_walk (n c : UInt8) (w : World) :
    Calls Try.prog 9 #[.int .u8 n.toNat, .int .u8 c.toNat] w fun e w' => e = .returned (.bool true) ∧ Below w.heap.size w w' := by
  have hnl := n.toNat_lt
  have hcl := c.toNat_lt
  obtain ⟨m, hm⟩ : ∃ m, m = n.toNat := ⟨_, rfl⟩
  rw [← hm] at hnl ⊢
  clear hm n
  have HS1 := hid (toNat_ne (sum_nought m))
  have HS2 := hid (toNat_ne (finger_nought m))
  have hc0 : ((sum (List.replicate m 0 ++ [0]) = sum (List.replicate m 0 ++ [c])) ↔ c = 0) := (sum_more _ _ _).trans eq_comm
  have hcc : (((sum (List.replicate m 0 ++ [0])).toNat : Int) == ((sum (List.replicate m 0 ++ [c])).toNat : Int)) = ((c.toNat : Int) == 0) := by
    rw [Bool.eq_iff_iff, beq_iff_eq, beq_iff_eq]
    constructor
    · intro h
      have := hc0.1 (BitVec.eq_of_toNat_eq (by omega))
      rw [this]; rfl
    · intro h
      have : c = 0 := UInt8.toNat_inj.1 (by simpa using (by omega : c.toNat = 0))
      rw [hc0.2 this]
  obtain ⟨b, hb⟩ : ∃ b, ((c.toNat : Int) == 0) = b := ⟨_, rfl⟩
  rw [hb] at hcc
  have HS3 := hid (And.intro hb hcc)
  clear hc0 hcc hb
  obtain ⟨X, hX⟩ : ∃ X, X = List.replicate m (0 : UInt8) ++ [0] := ⟨_, rfl⟩
  obtain ⟨Y, hY⟩ : ∃ Y, Y = List.replicate m (0 : UInt8) ++ [c] := ⟨_, rfl⟩
  rw [← hX] at HS1 HS2 HS3
  rw [← hY] at HS3
  have hXl : X.length = m + 1 := by rw [hX]; simp
  have hYl : Y.length = m + 1 := by rw [hY]; simp
  have HX := hid hX
  have HY := hid hY
  have HXl := hid hXl
  have HYl := hid hYl
  clear hX hY hXl hYl
  obtain ⟨Z, hZ⟩ : ∃ Z, Z = List.replicate m (0 : UInt8) := ⟨_, rfl⟩
  have hZl : Z.length = m := by rw [hZ]; simp
  have HZl := hid hZl
  rw [← hZ] at HS1 HS2 HX HY
  have HZ := hid hZ
  clear hZ hZl
  go_enter Try.func9, Try.ntmps9
  go_wp2_with (at_make; refine make_bytes _ rfl _ _ 22 5 rfl Try.underlying22 Try.info5 w.heap.size _ _ _ _ m rfl rfl rfl rfl ?_ ?_ ?_)
  · omega
  · omega
  intro v1 w1 ho1 hb1 hv1
  rw [← HZ.out] at ho1
  clear hv1
  have hz1 := hb1.size
  have hs1 := ho1.slB
  clear ho1
  go_wp2_with (at_builtin; refine append_sl _ rfl _ _ 22 5 rfl Try.underlying22 Try.info5 w1.heap.size _ [] rfl (own_empty w1 5) _ Z w1.heap.size rfl (hs1.below ((Below.refl _ _).alloc (Nat.le_refl _) _) (Nat.le_refl _)) ?_ ?_ ?_)
  · have := HZl.out; simp; omega
  · simp
  intro v2 w2 ho2 hbl2
  have hb2 := ((Below.refl w1.heap.size w1).alloc (Nat.le_refl _) (.cells #[] 5)).trans hbl2
  have hz2 := hb2.size
  have hs2 := hs1.below hb2 (Nat.le_refl _)
  have ho2' : OwnB w2 w1.heap.size 5 v2 Z := by simpa using ho2
  clear ho2 hbl2 hs1
  go_wp2_with (at_builtin; refine append_byte _ rfl _ _ 22 5 rfl Try.underlying22 Try.info5 w1.heap.size _ Z 0 rfl (ho2'.alloc _) w2.heap.size 1 rfl (cell_u8 _ _ _ _ rfl) ?_ ?_ ?_)
  · have := HZl.out; omega
  · simp; omega
  intro v3 w3 ho3 hbl3
  have hb3 := hb2.trans (((Below.refl w1.heap.size w2).alloc hz2 _).trans hbl3)
  have hz3 := hb3.size
  have hs3 := hs2.below (((Below.refl w1.heap.size w2).alloc hz2 _).trans hbl3) (Nat.le_refl _)
  rw [← HX.out] at ho3
  have hx3 := ho3.slB
  clear hbl3 hb2 hz2 hs2 ho2' ho3
  go_wp2_with (at_builtin; refine append_sl _ rfl _ _ 22 5 rfl Try.underlying22 Try.info5 w3.heap.size _ [] rfl (own_empty w3 5) _ Z w1.heap.size rfl (hs3.below ((Below.refl _ _).alloc hz3 _) (Nat.le_refl _)) ?_ ?_ ?_)
  · have := HZl.out; simp; omega
  · simp
  intro v4 w4 ho4 hbl4
  have hc4 := ((Below.refl w3.heap.size w3).alloc (Nat.le_refl _) (.cells #[] 5)).trans hbl4
  have hz4 := hc4.size
  have hb4 := hb3.trans (hc4.mono hz3)
  have hs4 := hs3.below hc4 hz3
  have hx4 := hx3.below hc4 (Nat.le_refl _)
  have ho4' : OwnB w4 w3.heap.size 5 v4 Z := by simpa using ho4
  clear ho4 hbl4 hs3 hx3 hc4 hb3
  go_wp2_with (at_builtin; refine append_byte _ rfl _ _ 22 5 rfl Try.underlying22 Try.info5 w3.heap.size _ Z c rfl (ho4'.alloc _) w4.heap.size 1 rfl (cell_u8 _ _ _ _ rfl) ?_ ?_ ?_)
  · have := HZl.out; omega
  · simp; omega
  intro v5 w5 ho5 hbl5
  have hc5 := ((Below.refl w3.heap.size w4).alloc hz4 _).trans hbl5
  have hz5 := hc5.size
  have hb5 := (hb1.trans (hb4.mono hz1)).trans (hc5.mono (by omega))
  rw [← HY.out] at ho5
  have hy5 := ho5.slB
  have hs5 := (hs4.below hc5 hz3).mono (show w1.heap.size ≤ w5.heap.size by omega)
  have hx5 := (hx4.below hc5 (Nat.le_refl _)).mono (show w3.heap.size ≤ w5.heap.size by omega)
  have hzz := hb5.size
  clear hbl5 ho5 hs4 hx4 hc5 hb4 ho4' hb1
  have hXl : X.length ≤ 1000000000 := by have := HXl.out; omega
  have hYl : Y.length ≤ 1000000000 := by have := HYl.out; omega
  have hZl : Z.length ≤ 1000000000 := by have := HZl.out; omega
  go_wp2_with fail
  refine (sum_any Z _ _ hs5 hZl).mono ?_
  rintro e w6 ⟨rfl, hbl6⟩
  have hz6 := hbl6.size
  have hb6 := hb5.trans (hbl6.mono hzz)
  have hs6 := (hs5.below hbl6 (Nat.le_refl _)).mono hz6
  have hx6 := (hx5.below hbl6 (Nat.le_refl _)).mono hz6
  have hy6 := (hy5.below hbl6 (Nat.le_refl _)).mono hz6
  have hz66 := hb6.size
  clear hbl6 hb5 hs5 hx5 hy5
  go_wp2_with fail
  refine (sum_any X _ _ hx6 hXl).mono ?_
  rintro e w7 ⟨rfl, hbl7⟩
  have hz7 := hbl7.size
  have hb7 := hb6.trans (hbl7.mono hz66)
  have hs7 := (hs6.below hbl7 (Nat.le_refl _)).mono hz7
  have hx7 := (hx6.below hbl7 (Nat.le_refl _)).mono hz7
  have hy7 := (hy6.below hbl7 (Nat.le_refl _)).mono hz7
  have hz77 := hb7.size
  clear hbl7 hb6 hs6 hx6 hy6
  have hS1 := HS1.out
  go_wp2_with fail
  refine (finger_any Z _ _ hs7 hZl).mono ?_
  rintro e w8 ⟨rfl, rfl⟩
  clear hS1
  go_wp2_with fail
  refine (finger_any X _ _ hx7 hXl).mono ?_
  rintro e w8 ⟨rfl, rfl⟩
  have hS2 := HS2.out
  go_wp2_with fail
  clear hS2
  refine (sum_any X _ _ hx7 hXl).mono ?_
  rintro e w9 ⟨rfl, hbl9⟩
  have hz9 := hbl9.size
  have hb9 := hb7.trans (hbl9.mono hz77)
  have hy9 := (hy7.below hbl9 (Nat.le_refl _)).mono hz9
  have hz99 := hb9.size
  clear hbl9 hb7 hs7 hx7 hy7
  go_wp2_with fail
  refine (sum_any Y _ _ hy9 hYl).mono ?_
  rintro e w10 ⟨rfl, hbl10⟩
  have hb10 := hb9.trans (hbl10.mono hz99)
  have hz10 := hb10.size
  clear hbl10 hb9 hy9
  obtain ⟨hS3, hS4⟩ := HS3.out
  cases b
  all_goals
    go_wp2_with (go_at_call 10; refine (awake_any _).mono ?_; rintro e w' ⟨rfl, hbel⟩)
    go_ret
    exact ⟨rfl, hb10.trans (hbel.mono hz10)⟩
end Go.Proofs.Ytddicddbpfenpaa
