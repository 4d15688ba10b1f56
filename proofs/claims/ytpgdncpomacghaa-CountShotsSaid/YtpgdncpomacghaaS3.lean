import Derived.Test.YtpgdncpomacghaaS2
namespace Go.Proofs.Ytpgdncpomacghaa
open Go.RowKit Go.Mx Go.Cnt Go.Shelf

theorem SlL.below {w w' : World} {B B' : Nat} {v : Value} {l : List Lin} (h : SlL w B v l) (hb : Below B' w w') (hB : B ≤ B') : SlL w' B v l := SlG.below h hb hB
theorem SlL.mono {w : World} {B B' : Nat} {v : Value} {l : List Lin} (h : SlL w B v l) (hB : B ≤ B') : SlL w B' v l := SlG.mono h hB

set_option maxRecDepth 100000 in
set_option maxHeartbeats 4000000 in
theorem counted_any (ls : List Lin) (lv : Value) (size : Int) (w : World) (hs : SlL w w.heap.size lv ls) (hlb : ls.length ≤ 1000000000)
    (hg : ∀ i, i < ls.length → GoodE (ls.getD i default).e) :
    Calls Try.prog 29 #[lv, .int .i64 size] w fun e w' => ∃ v, e = .returned v ∧ OwnI w' w.heap.size v (ofM ls size) ∧ Below w.heap.size w w' := by
  have hlen := fun w' => hs.len w' (ty := 3)
  by_cases h1 : size < 0
  · have HO := hid (show ofM ls size = [] from if_pos (.inl h1))
    go_enter Try.func29, Try.ntmps29
    go_wp2
    go_ret
    exact ⟨_, rfl, by rw [HO.out]; exact OwnV.nil _ _ _, Below.refl _ _⟩
  by_cases h2 : 65536 < size
  · have HO := hid (show ofM ls size = [] from if_pos (.inr h2))
    go_enter Try.func29, Try.ntmps29
    go_wp2
    go_ret
    exact ⟨_, rfl, by rw [HO.out]; exact OwnV.nil _ _ _, Below.refl _ _⟩
  have HO := hid (show ofM ls size = (List.range size.toNat).map fun (i : Nat) => cnt ls i from if_neg (by omega))
  obtain ⟨n, rfl⟩ := Int.eq_ofNat_of_zero_le (show 0 ≤ size by omega)
  simp only [Int.toNat_natCast] at HO
  have HG := hid hg
  clear hg h1
  go_enter Try.func29, Try.ntmps29
  go_wp2_with (at_make; refine make_ints _ rfl _ _ 27 rfl Try.underlying27 Try.info3 w.heap.size _ _ _ _ n rfl rfl ?_ ?_ ?_ ?_ ?_)
  · rfl
  · rfl
  · omega
  intro v1 w1 ho1 hb1 hv1
  subst hv1
  go_wp2_with fail
  go_loopw [6] (fun i wr => ∃ (k : Nat) (l : List Int), k ≤ 2 ∧ k ≤ n ∧ i = .int .i64 k ∧ OwnI wr w.heap.size (.slice (some ⟨w.heap.size, 0, none⟩) n n) l ∧ Below w.heap.size w wr ∧ Hid (Reads l n (fun i => if i < k then 1 else 0)))
    (fun i _ => 2 - (intOf i).toNat)
  case atStart => exact ⟨0, _, by omega, by omega, rfl, ho1, hb1, (Reads.noughts n).mono (fun i _ => by simp)⟩
  case round =>
    obtain ⟨k, l, hk2, hkn, rfl, ho, hbel, HR⟩ := hrel
    clear ho1 hb1
    by_cases hkm : k < 2 ∧ k < n
    · obtain ⟨hka, hkb⟩ := hkm
      have hln := HR.out.1
      obtain ⟨x0, hx0⟩ : ∃ x0, wr.cell? ⟨w.heap.size, k, none⟩ = some (.int .i64 x0) := ⟨_, ho.at k (by omega)⟩
      have hfz := OwnV.fz ho k
      have ho' := ho.set k 1 (by omega)
      have hb' := hbel.setCell (p := ⟨w.heap.size, k, none⟩) (Nat.le_refl _) (.int .i64 1)
      have HO' := hid (And.intro ho' hb')
      have HR' := hid (HR.out.set (g := fun i => if i < k + 1 then 1 else 0) k 1 (by simp) (fun i _ hi => by
        show (if i < k + 1 then (1 : Int) else 0) = if i < k then 1 else 0
        by_cases h : i < k
        · rw [if_pos h, if_pos (by omega)]
        · rw [if_neg h, if_neg (by omega)]))
      clear ho' hb' hln ho hbel HR hlen
      go_wp2_with fail
      go_roundw
      case rel => exact ⟨k + 1, _, by omega, by omega, by go_num, HO'.out.1, HO'.out.2, HR'⟩
      case measure => simp [intOf]; omega
    · have HM := hid (show k = min n 2 by omega)
      have hzA : w.heap.size < wr.heap.size := OwnV.lt ho _ rfl
      obtain ⟨wA, rfl⟩ : ∃ wA : World, wA = wr := ⟨_, rfl⟩
      by_cases hka : k < 2
      · have hkb : n ≤ k := by omega
        clear hkm
        go_wp2_with fail
        go_loopw [7] (fun i wq => ∃ (k2 : Nat) (l2 : List Int), k2 ≤ ls.length ∧ i = .int .i64 k2 ∧ OwnI wq w.heap.size (.slice (some ⟨w.heap.size, 0, none⟩) n n) l2 ∧ Below w.heap.size w wq ∧ Hid (Reads l2 n (fun i => cntK ls k2 i)))
          (fun i _ => ls.length - (intOf i).toNat)
        case atStart => exact ⟨0, l, by omega, rfl, ho, hbel, HR.out.mono (fun i hi => by
          show cntK ls 0 i = if i < k then 1 else 0
          have := HM.out
          rw [cntK_zero]
          by_cases h : i < k
          · rw [if_pos h, if_pos (by omega)]
          · rw [if_neg h, if_neg (by omega)])⟩
        case round =>
          obtain ⟨k2, l2, hk2, rfl, ho5, hb5, HR2⟩ := hrel
          clear ho hbel HR HM
          have hz5 := hb5.size
          have hlen := fun w' => hs.len w' (ty := 3)
          by_cases hlt : k2 < ls.length
          · obtain ⟨b, o, hbb, hia, d0, d1, d2, d3, d4, d5, d6⟩ := (hs.below hb5 (Nat.le_refl _)).at k2 hlt
            obtain ⟨hg1, hg2, hg3⟩ := HG.out k2 hlt
            have hcov := fun (s c i : Nat) => cov_nat (ls.getD k2 default).e s c i
            obtain ⟨x, hx⟩ : ∃ x, x = ls.getD k2 default := ⟨_, rfl⟩
            rw [← hx] at d0 d1 d2 d3 d4 d5 d6 hg1 hg2 hg3 hcov
            have HXX := hid hx
            clear hx
            obtain ⟨xs, xc, xk, xst, xco, xsz, xsu, ex⟩ : ∃ xs xc xk xst xco xsz xsu, x = (⟨xs, xc, ⟨xk, xst, xco, xsz, xsu⟩⟩ : Lin) := ⟨_, _, _, _, _, _, _, rfl⟩
            subst ex
            simp only at d0 d1 d2 d3 d4 d5 d6 hg1 hg2 hg3
            obtain ⟨s, rfl⟩ := Int.eq_ofNat_of_zero_le (show 0 ≤ xst by omega)
            obtain ⟨c, rfl⟩ := Int.eq_ofNat_of_zero_le (show 0 ≤ xco by omega)
            have hcv := fun i => hcov s c i rfl rfl
            clear hcov
            have ho5' : OwnI (wr.alloc (.cells #[.int .i64 xk, .int .i64 s, .int .i64 c, .int .i64 xsz, .int .u32 xsu] 39)) w.heap.size (.slice (some ⟨w.heap.size, 0, none⟩) n n) l2 := World.ownsRow.alloc ho5 _
            have hb5' : Below w.heap.size w (wr.alloc (.cells #[.int .i64 xk, .int .i64 s, .int .i64 c, .int .i64 xsz, .int .u32 xsu] 39)) := hb5.alloc (by omega) _
            have ebx : (wr.alloc (.cells #[.int .i64 xk, .int .i64 s, .int .i64 c, .int .i64 xsz, .int .u32 xsu] 39)).heap[wr.heap.size]? = some (.cells #[.int .i64 xk, .int .i64 s, .int .i64 c, .int .i64 xsz, .int .u32 xsu] 39 (0, 0)) := World.alloc_heap_new wr _
            have hzl : w.heap.size < wr.heap.size := OwnV.lt ho5 _ rfl
            have HX := hid (show ∀ i, i < n → (if cov (ls.getD k2 default).e i = true then (1 : Int) else 0) = if s ≤ i ∧ i < s + c then 1 else 0 from fun i hi => by
                rw [← HXX.out]
                by_cases h : s ≤ i ∧ i < s + c
                · rw [if_pos h, if_pos ((hcv i).2 h)]
                · rw [if_neg h, if_neg (fun h' => h ((hcv i).1 h'))])
            have HA := hid (And.intro ho5' (And.intro hb5' ebx))
            clear ho5' hb5' ho5 hb5 ebx hcv
            obtain ⟨wB, rfl⟩ : ∃ wB : World, wB = wr := ⟨_, rfl⟩
            go_wp2_with fail
            go_loopw [9] (fun i wq => ∃ (j : Nat) (l3 : List Int), s ≤ j ∧ j ≤ max s n ∧ j ≤ s + c ∧ i = .int .i64 j ∧ OwnI wq w.heap.size (.slice (some ⟨w.heap.size, 0, none⟩) n n) l3 ∧ Below w.heap.size w wq ∧ wq.heap[wB.heap.size]? = some (.cells #[.int .i64 xk, .int .i64 s, .int .i64 c, .int .i64 xsz, .int .u32 xsu] 39 (0, 0)) ∧ Hid (Reads l3 n (fun i => cntK ls k2 i + if s ≤ i ∧ i < j then 1 else 0)))
              (fun i _ => n - (intOf i).toNat)
            case atStart => exact ⟨s, l2, Nat.le_refl _, by omega, by omega, rfl, HA.out.1, HA.out.2.1, HA.out.2.2, HR2.out.mono (fun i _ => by
                show cntK ls k2 i + (if s ≤ i ∧ i < s then (1 : Int) else 0) = cntK ls k2 i
                rw [if_neg (by omega)]; omega)⟩
            case round =>
              obtain ⟨j, l3, hsj, hjn, hjc, rfl, ho6, hb6, hbx6, HR3⟩ := hrel
              clear hg1 hg2 hg3 d0 d1 d2 d3 d4 d5 d6 hia hbb hz5
              clear HA
              have q1 : wr.cell? ⟨wB.heap.size, 1, none⟩ = some (.int .i64 s) := by simp [World.cell?, hbx6]
              have q2 : wr.cell? ⟨wB.heap.size, 2, none⟩ = some (.int .i64 c) := by simp [World.cell?, hbx6]
              have HBX := hid hbx6
              clear hbx6
              by_cases hj : j < n ∧ j < s + c
              · obtain ⟨hj1, hj2⟩ := hj
                have hln := HR3.out.1
                have hc := ho6.at j (by omega)
                have hfz := OwnV.fz ho6 j
                have hv := HR3.out.2 j (by omega)
                have hv2 : l3.getD j 0 = cntK ls k2 j := hv.trans (by show cntK ls k2 j + (if s ≤ j ∧ j < j then (1 : Int) else 0) = _; rw [if_neg (by omega)]; omega)
                have hbd := cntK_bd ls k2 j
                rw [hv2] at hc
                have ho8 := ho6.set j (cntK ls k2 j + 1) (by omega)
                have hb8 := hb6.setCell (p := ⟨w.heap.size, j, none⟩) (Nat.le_refl _) (.int .i64 (cntK ls k2 j + 1))
                have hbx8 := (Below.heap_setCell wr ⟨w.heap.size, j, none⟩ (.int .i64 (cntK ls k2 j + 1)) wB.heap.size (show wB.heap.size ≠ w.heap.size by omega)).trans HBX.out
                have HO' := hid (And.intro ho8 (And.intro hb8 hbx8))
                have HR' := hid (HR3.out.set (g := fun i => cntK ls k2 i + if s ≤ i ∧ i < j + 1 then 1 else 0) j (cntK ls k2 j + 1) (by show cntK ls k2 j + (if s ≤ j ∧ j < j + 1 then (1 : Int) else 0) = _; rw [if_pos (by omega)]) (fun i _ hi => by
                  show cntK ls k2 i + (if s ≤ i ∧ i < j + 1 then (1 : Int) else 0) = cntK ls k2 i + (if s ≤ i ∧ i < j then (1 : Int) else 0)
                  by_cases h : s ≤ i ∧ i < j
                  · rw [if_pos h, if_pos (by omega)]
                  · rw [if_neg h, if_neg (by omega)]))
                obtain ⟨y, hy⟩ : ∃ y, y = cntK ls k2 j := ⟨_, rfl⟩
                rw [← hy] at hc hbd HO' HR'
                clear hv hv2 hy ho8 hb8 hbx8 hln ho6 hb6 HR3 HBX
                go_wp2_with fail
                go_roundw
                case rel => exact ⟨j + 1, _, by omega, by omega, by omega, by go_num, HO'.out.1, HO'.out.2.1, HO'.out.2.2, HR'⟩
                case measure => simp [intOf]; omega
              · have HF := hid (HR3.out.mono (g := fun i => cntK ls (k2 + 1) i) (fun i hi => by
                  show cntK ls (k2 + 1) i = cntK ls k2 i + (if s ≤ i ∧ i < j then (1 : Int) else 0)
                  rw [cntK_succ ls k2 i hlt, HX.out i hi]
                  by_cases h : s ≤ i ∧ i < s + c
                  · rw [if_pos h, if_pos (by omega)]
                  · rw [if_neg h, if_neg (by omega)]))
                by_cases hj1 : j < n
                · have hj3 : s + c ≤ j := by omega
                  clear hj
                  go_wp2_with fail
                  go_roundw
                  case rel => exact ⟨k2 + 1, l3, by omega, by go_num, ho6, hb6, HF⟩
                  case measure => simp [intOf]; omega
                · clear hj
                  go_wp2_with fail
                  go_roundw
                  case rel => exact ⟨k2 + 1, l3, by omega, by go_num, ho6, hb6, HF⟩
                  case measure => simp [intOf]; omega
          · obtain rfl : k2 = ls.length := by omega
            have hre := HR2.out.eq
            have HRE := hid hre
            clear hre
            go_wp2_with fail
            go_ret
            exact ⟨_, rfl, by rw [HO.out]; exact HRE.out ▸ ho5, hb5⟩
      · clear hkm
        go_wp2_with fail
        go_loopw [7] (fun i wq => ∃ (k2 : Nat) (l2 : List Int), k2 ≤ ls.length ∧ i = .int .i64 k2 ∧ OwnI wq w.heap.size (.slice (some ⟨w.heap.size, 0, none⟩) n n) l2 ∧ Below w.heap.size w wq ∧ Hid (Reads l2 n (fun i => cntK ls k2 i)))
          (fun i _ => ls.length - (intOf i).toNat)
        case atStart => exact ⟨0, l, by omega, rfl, ho, hbel, HR.out.mono (fun i hi => by
          show cntK ls 0 i = if i < k then 1 else 0
          have := HM.out
          rw [cntK_zero]
          by_cases h : i < k
          · rw [if_pos h, if_pos (by omega)]
          · rw [if_neg h, if_neg (by omega)])⟩
        case round =>
          obtain ⟨k2, l2, hk2, rfl, ho5, hb5, HR2⟩ := hrel
          clear ho hbel HR HM
          have hz5 := hb5.size
          have hlen := fun w' => hs.len w' (ty := 3)
          by_cases hlt : k2 < ls.length
          · obtain ⟨b, o, hbb, hia, d0, d1, d2, d3, d4, d5, d6⟩ := (hs.below hb5 (Nat.le_refl _)).at k2 hlt
            obtain ⟨hg1, hg2, hg3⟩ := HG.out k2 hlt
            have hcov := fun (s c i : Nat) => cov_nat (ls.getD k2 default).e s c i
            obtain ⟨x, hx⟩ : ∃ x, x = ls.getD k2 default := ⟨_, rfl⟩
            rw [← hx] at d0 d1 d2 d3 d4 d5 d6 hg1 hg2 hg3 hcov
            have HXX := hid hx
            clear hx
            obtain ⟨xs, xc, xk, xst, xco, xsz, xsu, ex⟩ : ∃ xs xc xk xst xco xsz xsu, x = (⟨xs, xc, ⟨xk, xst, xco, xsz, xsu⟩⟩ : Lin) := ⟨_, _, _, _, _, _, _, rfl⟩
            subst ex
            simp only at d0 d1 d2 d3 d4 d5 d6 hg1 hg2 hg3
            obtain ⟨s, rfl⟩ := Int.eq_ofNat_of_zero_le (show 0 ≤ xst by omega)
            obtain ⟨c, rfl⟩ := Int.eq_ofNat_of_zero_le (show 0 ≤ xco by omega)
            have hcv := fun i => hcov s c i rfl rfl
            clear hcov
            have ho5' : OwnI (wr.alloc (.cells #[.int .i64 xk, .int .i64 s, .int .i64 c, .int .i64 xsz, .int .u32 xsu] 39)) w.heap.size (.slice (some ⟨w.heap.size, 0, none⟩) n n) l2 := World.ownsRow.alloc ho5 _
            have hb5' : Below w.heap.size w (wr.alloc (.cells #[.int .i64 xk, .int .i64 s, .int .i64 c, .int .i64 xsz, .int .u32 xsu] 39)) := hb5.alloc (by omega) _
            have ebx : (wr.alloc (.cells #[.int .i64 xk, .int .i64 s, .int .i64 c, .int .i64 xsz, .int .u32 xsu] 39)).heap[wr.heap.size]? = some (.cells #[.int .i64 xk, .int .i64 s, .int .i64 c, .int .i64 xsz, .int .u32 xsu] 39 (0, 0)) := World.alloc_heap_new wr _
            have hzl : w.heap.size < wr.heap.size := OwnV.lt ho5 _ rfl
            have HX := hid (show ∀ i, i < n → (if cov (ls.getD k2 default).e i = true then (1 : Int) else 0) = if s ≤ i ∧ i < s + c then 1 else 0 from fun i hi => by
                rw [← HXX.out]
                by_cases h : s ≤ i ∧ i < s + c
                · rw [if_pos h, if_pos ((hcv i).2 h)]
                · rw [if_neg h, if_neg (fun h' => h ((hcv i).1 h'))])
            have HA := hid (And.intro ho5' (And.intro hb5' ebx))
            clear ho5' hb5' ho5 hb5 ebx hcv
            obtain ⟨wB, rfl⟩ : ∃ wB : World, wB = wr := ⟨_, rfl⟩
            go_wp2_with fail
            go_loopw [9] (fun i wq => ∃ (j : Nat) (l3 : List Int), s ≤ j ∧ j ≤ max s n ∧ j ≤ s + c ∧ i = .int .i64 j ∧ OwnI wq w.heap.size (.slice (some ⟨w.heap.size, 0, none⟩) n n) l3 ∧ Below w.heap.size w wq ∧ wq.heap[wB.heap.size]? = some (.cells #[.int .i64 xk, .int .i64 s, .int .i64 c, .int .i64 xsz, .int .u32 xsu] 39 (0, 0)) ∧ Hid (Reads l3 n (fun i => cntK ls k2 i + if s ≤ i ∧ i < j then 1 else 0)))
              (fun i _ => n - (intOf i).toNat)
            case atStart => exact ⟨s, l2, Nat.le_refl _, by omega, by omega, rfl, HA.out.1, HA.out.2.1, HA.out.2.2, HR2.out.mono (fun i _ => by
                show cntK ls k2 i + (if s ≤ i ∧ i < s then (1 : Int) else 0) = cntK ls k2 i
                rw [if_neg (by omega)]; omega)⟩
            case round =>
              obtain ⟨j, l3, hsj, hjn, hjc, rfl, ho6, hb6, hbx6, HR3⟩ := hrel
              clear hg1 hg2 hg3 d0 d1 d2 d3 d4 d5 d6 hia hbb hz5
              clear HA
              have q1 : wr.cell? ⟨wB.heap.size, 1, none⟩ = some (.int .i64 s) := by simp [World.cell?, hbx6]
              have q2 : wr.cell? ⟨wB.heap.size, 2, none⟩ = some (.int .i64 c) := by simp [World.cell?, hbx6]
              have HBX := hid hbx6
              clear hbx6
              by_cases hj : j < n ∧ j < s + c
              · obtain ⟨hj1, hj2⟩ := hj
                have hln := HR3.out.1
                have hc := ho6.at j (by omega)
                have hfz := OwnV.fz ho6 j
                have hv := HR3.out.2 j (by omega)
                have hv2 : l3.getD j 0 = cntK ls k2 j := hv.trans (by show cntK ls k2 j + (if s ≤ j ∧ j < j then (1 : Int) else 0) = _; rw [if_neg (by omega)]; omega)
                have hbd := cntK_bd ls k2 j
                rw [hv2] at hc
                have ho8 := ho6.set j (cntK ls k2 j + 1) (by omega)
                have hb8 := hb6.setCell (p := ⟨w.heap.size, j, none⟩) (Nat.le_refl _) (.int .i64 (cntK ls k2 j + 1))
                have hbx8 := (Below.heap_setCell wr ⟨w.heap.size, j, none⟩ (.int .i64 (cntK ls k2 j + 1)) wB.heap.size (show wB.heap.size ≠ w.heap.size by omega)).trans HBX.out
                have HO' := hid (And.intro ho8 (And.intro hb8 hbx8))
                have HR' := hid (HR3.out.set (g := fun i => cntK ls k2 i + if s ≤ i ∧ i < j + 1 then 1 else 0) j (cntK ls k2 j + 1) (by show cntK ls k2 j + (if s ≤ j ∧ j < j + 1 then (1 : Int) else 0) = _; rw [if_pos (by omega)]) (fun i _ hi => by
                  show cntK ls k2 i + (if s ≤ i ∧ i < j + 1 then (1 : Int) else 0) = cntK ls k2 i + (if s ≤ i ∧ i < j then (1 : Int) else 0)
                  by_cases h : s ≤ i ∧ i < j
                  · rw [if_pos h, if_pos (by omega)]
                  · rw [if_neg h, if_neg (by omega)]))
                obtain ⟨y, hy⟩ : ∃ y, y = cntK ls k2 j := ⟨_, rfl⟩
                rw [← hy] at hc hbd HO' HR'
                clear hv hv2 hy ho8 hb8 hbx8 hln ho6 hb6 HR3 HBX
                go_wp2_with fail
                go_roundw
                case rel => exact ⟨j + 1, _, by omega, by omega, by omega, by go_num, HO'.out.1, HO'.out.2.1, HO'.out.2.2, HR'⟩
                case measure => simp [intOf]; omega
              · have HF := hid (HR3.out.mono (g := fun i => cntK ls (k2 + 1) i) (fun i hi => by
                  show cntK ls (k2 + 1) i = cntK ls k2 i + (if s ≤ i ∧ i < j then (1 : Int) else 0)
                  rw [cntK_succ ls k2 i hlt, HX.out i hi]
                  by_cases h : s ≤ i ∧ i < s + c
                  · rw [if_pos h, if_pos (by omega)]
                  · rw [if_neg h, if_neg (by omega)]))
                by_cases hj1 : j < n
                · have hj3 : s + c ≤ j := by omega
                  clear hj
                  go_wp2_with fail
                  go_roundw
                  case rel => exact ⟨k2 + 1, l3, by omega, by go_num, ho6, hb6, HF⟩
                  case measure => simp [intOf]; omega
                · clear hj
                  go_wp2_with fail
                  go_roundw
                  case rel => exact ⟨k2 + 1, l3, by omega, by go_num, ho6, hb6, HF⟩
                  case measure => simp [intOf]; omega
          · obtain rfl : k2 = ls.length := by omega
            have hre := HR2.out.eq
            have HRE := hid hre
            clear hre
            go_wp2_with fail
            go_ret
            exact ⟨_, rfl, by rw [HO.out]; exact HRE.out ▸ ho5, hb5⟩
end Go.Proofs.Ytpgdncpomacghaa
