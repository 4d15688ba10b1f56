import Derived.Test.YtmcllcepoiakeaaGreatCG
import Derived.Test.YtmcllcepoiakeaaGreatO
set_option linter.unusedSimpArgs false
set_option linter.unusedVariables false
namespace Go.Proofs.YtmcllcepoiakeaaGreat.Cx
open Go.RowKit Go.Mx Go.Cnt Go.Shelf
theorem Tryz.info3 : (Tryz.prog.info? 3).map (fun i => (i.zero, i.size, i.bytes)) = some (some (.int .i64 0), 1, 8) := by kernel_rfl
theorem sizeLn (w : World) : (sizeOf 219).run Tryz.prog w = .ok 7 w := by kernel_rfl
/-- a slice of lines -/
def SlL (w : World) (B : Nat) (v : Value) (ls : List Lin) : Prop := SlG w B 7 v (ls.map linC)
theorem OwnL.slL {w : World} {base : Nat} {v : Value} {ls : List Lin} (h : OwnL w base v ls) : SlL w w.heap.size v ls := by
  refine ownsRow_slG (rows := ls.map linC) (e := 219) (base := base) ?_ (by intro r hr; simp at hr; obtain ⟨x, _, rfl⟩ := hr; rfl)
  rw [← List.flatMap_def]; simpa [OwnL] using h
theorem SlL.len {w : World} {B : Nat} {v : Value} {l : List Lin} (h : SlL w B v l) (w' : World) {ty : TypeId} : (Builtin.len_ #[216] ty #[v]).run Tryz.prog w' = .ok (.int .i64 l.length) w' := by
  have := SlG.len (P := Tryz.prog) (ty := ty) h Tryz.underlying216 w'
  rwa [List.length_map] at this
theorem SlL.at {w : World} {B : Nat} {v : Value} {l : List Lin} (h : SlL w B v l) (i : Nat) (hi : i < l.length) :
    ∃ b o, b < B ∧ (∀ w' (k : IntKind), (Instr.indexAt 216 v (.int k (i : Int))).run Tryz.prog w' = .ok (.pointer (some ⟨b, o, none⟩)) w') ∧
      w.cell? ⟨b, o, none⟩ = some (.int .i64 (l.getD i default).shot) ∧ w.cell? ⟨b, o + 1, none⟩ = some (.int .i64 (l.getD i default).cluster) ∧ w.cell? ⟨b, o + 2, none⟩ = some (.int .i64 (l.getD i default).e.kind) ∧ w.cell? ⟨b, o + 3, none⟩ = some (.int .i64 (l.getD i default).e.start) ∧
      w.cell? ⟨b, o + 4, none⟩ = some (.int .i64 (l.getD i default).e.count) ∧ w.cell? ⟨b, o + 5, none⟩ = some (.int .i64 (l.getD i default).e.size) ∧ w.cell? ⟨b, o + 6, none⟩ = some (.int .u32 (l.getD i default).e.sum) := by
  obtain ⟨b, o, hb, hia, hc⟩ := SlG.addr (P := Tryz.prog) h Tryz.underlying216 sizeLn i (by simpa using hi)
  have e : (l.map linC).getD i [] = linC (l.getD i default) := by
    simp [List.getD_eq_getElem?_getD, List.getElem?_map, List.getElem?_eq_getElem hi]
  rw [e] at hc
  exact ⟨b, o, hb, hia, hc 0 _ rfl, hc 1 _ rfl, hc 2 _ rfl, hc 3 _ rfl, hc 4 _ rfl, hc 5 _ rfl, hc 6 _ rfl⟩
set_option maxRecDepth 100000 in
set_option maxHeartbeats 4000000 in
theorem of_any (a0 a1 a2 tv sv mv cv : Value) (t : Tab) (ss : List ShotM) (size : Int) (w : World) (ht : IsTab w w.heap.size tv t) (hs : IsShots w w.heap.size sv ss) (hl : t.length ≤ 1000000) (hls : ∀ i, i < ss.length → (ss.getD i default).t.length ≤ 1000000) (hsl : ss.length ≤ 30)
    (hg : ∀ i, i < (eachM t ss).length → GoodE ((eachM t ss).getD i default).e) :
    Calls Tryz.prog 62 #[.agg #[a0, a1, a2, tv, sv, mv, cv], .int .i64 size] w fun e w' => ∃ v, e = .returned v ∧ OwnI w' w.heap.size v (ofM (eachM t ss) size) ∧ Below w.heap.size w w' := by
  by_cases h1 : size < 0
  · have HO := hid (show ofM (eachM t ss) size = [] from if_pos (.inl h1))
    go_enter Tryz.func62, Tryz.ntmps62
    go_wp2
    go_ret
    exact ⟨_, rfl, by rw [HO.out]; exact OwnV.nil _ _ _, (Below.refl _ _).alloc (Nat.le_refl _) _⟩
  by_cases h2 : 65536 < size
  · have HO := hid (show ofM (eachM t ss) size = [] from if_pos (.inr h2))
    go_enter Tryz.func62, Tryz.ntmps62
    go_wp2
    go_ret
    exact ⟨_, rfl, by rw [HO.out]; exact OwnV.nil _ _ _, (Below.refl _ _).alloc (Nat.le_refl _) _⟩
  have HO := hid (show ofM (eachM t ss) size = (List.range size.toNat).map fun (i : Nat) => cnt (eachM t ss) i from if_neg (by omega))
  have hel := eachTo_len t ss 1000000 hl hls ss.length (Nat.le_refl _)
  have hlb : (eachM t ss).length ≤ 1000000000 := by
    unfold eachM
    have : (ss.length + 1) * (1000000 * 8) ≤ 31 * (1000000 * 8) := Nat.mul_le_mul_right _ (by omega)
    omega
  obtain ⟨n, rfl⟩ := Int.eq_ofNat_of_zero_le (show 0 ≤ size by omega)
  simp only [Int.toNat_natCast] at HO
  clear hel h1
  have HEA := hid (fun (w' : World) (hb : Below w.heap.size w w') => each_any a0 a1 a2 tv sv mv cv t ss w' ((ht.below hb (Nat.le_refl _)).mono hb.size) ((hs.below hb (Nat.le_refl _)).mono hb.size) hl hls hsl)
  generalize eachM t ss = ls at *
  have HG := hid hg
  clear hg hls
  have hbx : Below w.heap.size w (w.alloc (.cells #[a0, a1, a2, tv, sv, mv, cv] 95)) := (Below.refl _ _).alloc (Nat.le_refl _) _
  have HBX := hid hbx
  clear hbx
  have hcell : ∀ (j : Nat) u, #[a0, a1, a2, tv, sv, mv, cv][j]? = some u → (w.alloc (.cells #[a0, a1, a2, tv, sv, mv, cv] 95)).cell? ⟨w.heap.size, j, none⟩ = some u := fun j u h => (World.cell?_alloc_at _ 95 w.heap.size j rfl).trans h
  have HCL := hid hcell
  clear hcell
  go_enter Tryz.func62, Tryz.ntmps62
  go_wp2_with (at_make; refine make_ints _ rfl _ _ 93 rfl Tryz.underlying93 Tryz.info3 (w.heap.size + 1) _ _ _ _ n rfl rfl ?_ ?_ ?_ ?_ ?_)
  · rfl
  · rfl
  · omega
  intro v1 w1 ho1 hb1 hv1
  subst hv1
  have hz0 : (w.alloc (.cells #[a0, a1, a2, tv, sv, mv, cv] 95)).heap.size = w.heap.size + 1 := World.size_alloc _ _
  generalize w.alloc (.cells #[a0, a1, a2, tv, sv, mv, cv] 95) = w0 at *
  obtain ⟨m, hm⟩ : ∃ m, m = min n 2 := ⟨_, rfl⟩
  have hmn : m ≤ n := by omega
  have hm2 : m ≤ 2 := by omega
  have hif : (if (2 : Int) < (n : Int) then (2 : Int) else (n : Int)) = (m : Int) := by split <;> omega
  have HM := hid hm
  clear hm
  go_wp2_with fail
  clear hif
  go_loopw [6, 22] (fun _ i wr => ∃ (k : Nat) (l : List Int), k ≤ m ∧ i = .int .i64 k ∧ OwnI wr (w.heap.size + 1) (.slice (some ⟨w.heap.size + 1, 0, none⟩) n n) l ∧ Below (w.heap.size + 1) w0 wr ∧ Hid (Reads l n (fun i => if i < k then 1 else 0)))
    (fun _ i _ => m - (intOf i).toNat)
  case atStart => exact ⟨0, _, by omega, rfl, ho1, hb1, (Reads.noughts n).mono (fun i _ => by simp)⟩
  case round =>
    obtain ⟨k, l, hk, rfl, ho, hbel, HR⟩ := hrel
    clear ho1 hb1
    by_cases hkm : k < m
    · have hln := HR.out.1
      have hc := ho.at k (by omega)
      have hfz := OwnV.fz ho k
      have hv : l.getD k 0 = 0 := (HR.out.2 k (by omega)).trans (if_neg (by omega))
      rw [hv] at hc
      have ho' := ho.set k 1 (by omega)
      have hb' := hbel.setCell (p := ⟨w.heap.size + 1, k, none⟩) (Nat.le_refl _) (.int .i64 1)
      have HO' := hid (And.intro ho' hb')
      have HR' := hid (HR.out.set (g := fun i => if i < k + 1 then 1 else 0) k 1 (by simp) (fun i _ hi => by
        show (if i < k + 1 then (1 : Int) else 0) = if i < k then 1 else 0
        by_cases h : i < k
        · rw [if_pos h, if_pos (by omega)]
        · rw [if_neg h, if_neg (by omega)]))
      clear ho' hb' hv hln ho hbel HR
      go_wp2_with fail
      go_roundw
      case rel => exact ⟨k + 1, _, by omega, by go_num, HO'.out.1, HO'.out.2, HR'⟩
      case measure => simp [intOf]; omega
    · obtain rfl : k = m := by omega
      have hbw : Below w.heap.size w wr := HBX.out.trans (hbel.mono (by omega))
      have hcl : ∀ (j : Nat) u, #[a0, a1, a2, tv, sv, mv, cv][j]? = some u → wr.cell? ⟨w.heap.size, j, none⟩ = some u := fun j u h => (hbel.cell (p := ⟨w.heap.size, j, none⟩) (by simp)).trans (HCL.out j u h)
      have c0 := hcl 0 _ rfl
      have c1 := hcl 1 _ rfl
      have c2 := hcl 2 _ rfl
      have c3 := hcl 3 _ rfl
      have c4 := hcl 4 _ rfl
      have c5 := hcl 5 _ rfl
      have c6 := hcl 6 _ rfl
      clear hcl
      have HBW := hid hbw
      have hzw := hbel.size
      have hzA : w.heap.size + 1 < wr.heap.size := OwnV.lt ho _ rfl
      clear hbw
      go_wp2_with fail
      clear c0 c1 c2 c3 c4 c5 c6
      refine (HEA.out wr HBW.out).mono ?_
      rintro e w3 ⟨v3, rfl, ho3, hb3⟩
      have hz3 := hb3.size
      have hlen3 := fun w' => ho3.slL.len w' (ty := 3)
      have ho4 : OwnI w3 (w.heap.size + 1) (.slice (some ⟨w.heap.size + 1, 0, none⟩) n n) l := OwnV.below ho hb3 (Nat.le_refl _)
      have hb4 : Below (w.heap.size + 1) w0 w3 := hbel.trans (hb3.mono (by omega))
      clear hb3 ho hbel HEA HCL
      go_wp2_with fail
      clear hlen3
      obtain ⟨wA, rfl⟩ : ∃ wA : World, wA = wr := ⟨_, rfl⟩
      go_loopw [35] (fun i wq => ∃ (k2 : Nat) (l2 : List Int), k2 ≤ ls.length ∧ i = .int .i64 k2 ∧ OwnI wq (w.heap.size + 1) (.slice (some ⟨w.heap.size + 1, 0, none⟩) n n) l2 ∧ Below (w.heap.size + 1) w0 wq ∧ OwnL wq wA.heap.size v3 ls ∧ Hid (Reads l2 n (fun i => cntK ls k2 i)))
        (fun i _ => ls.length - (intOf i).toNat)
      case atStart => exact ⟨0, l, by omega, rfl, ho4, hb4, ho3, HR.out.mono (fun i hi => by
        show cntK ls 0 i = if i < k then 1 else 0
        have := HM.out
        rw [cntK_zero]
        by_cases h : i < k
        · rw [if_pos h, if_pos (by omega)]
        · rw [if_neg h, if_neg (by omega)])⟩
      case round =>
        obtain ⟨k2, l2, hk2, rfl, ho5, hb5, ho6, HR2⟩ := hrel
        clear ho4 hb4 ho3 HR HM HBW
        have hz5 := hb5.size
        by_cases hlt : k2 < ls.length
        · obtain ⟨b, o, hbb, hia, d0, d1, d2, d3, d4, d5, d6⟩ := ho6.slL.at k2 hlt
          obtain ⟨hg1, hg2, hg3⟩ := HG.out k2 hlt
          have hcov := fun (s c i : Nat) => cov_nat (ls.getD k2 default).e s c i
          obtain ⟨x, hx⟩ : ∃ x, x = ls.getD k2 default := ⟨_, rfl⟩
          rw [← hx] at d0 d1 d2 d3 d4 d5 d6 hg1 hg2 hg3 hcov
          have HXX := hid hx
          clear hx
          obtain ⟨xs, xc, xk, xst, xco, xsz, xsu, ex⟩ : ∃ xs xc xk xst xco xsz xsu, x = (⟨xs, xc, ⟨xk, xst, xco, xsz, xsu⟩⟩ : Lin) := ⟨_, _, _, _, _, _, _, rfl⟩
          subst ex
          simp only at d0 d1 d2 d3 d4 d5 d6 hg1 hg2 hg3
          obtain ⟨s, rfl⟩ := Int.eq_ofNat_of_zero_le (show 0 ≤ xst by omega)
          obtain ⟨c, rfl⟩ := Int.eq_ofNat_of_zero_le (show 0 ≤ xco by omega)
          have hcv := fun i => hcov s c i rfl rfl
          clear hcov
          have ho5' : OwnI ((wr.alloc (.cells #[.int .i64 xs, .int .i64 xc, .int .i64 xk, .int .i64 s, .int .i64 c, .int .i64 xsz, .int .u32 xsu] 219)).alloc (.cells #[.int .i64 xk, .int .i64 s, .int .i64 c, .int .i64 xsz, .int .u32 xsu] 187)) (w.heap.size + 1) (.slice (some ⟨w.heap.size + 1, 0, none⟩) n n) l2 := (World.ownsRow.alloc (World.ownsRow.alloc ho5 _) _)
          have hb5' : Below (w.heap.size + 1) w0 ((wr.alloc (.cells #[.int .i64 xs, .int .i64 xc, .int .i64 xk, .int .i64 s, .int .i64 c, .int .i64 xsz, .int .u32 xsu] 219)).alloc (.cells #[.int .i64 xk, .int .i64 s, .int .i64 c, .int .i64 xsz, .int .u32 xsu] 187)) := (hb5.alloc (by omega) _).alloc (by simp; omega) _
          have ho6' : OwnL ((wr.alloc (.cells #[.int .i64 xs, .int .i64 xc, .int .i64 xk, .int .i64 s, .int .i64 c, .int .i64 xsz, .int .u32 xsu] 219)).alloc (.cells #[.int .i64 xk, .int .i64 s, .int .i64 c, .int .i64 xsz, .int .u32 xsu] 187)) wA.heap.size v3 ls := (World.ownsRow.alloc (World.ownsRow.alloc ho6 _) _)
          have HA := hid (And.intro ho5' (And.intro hb5' ho6'))
          clear ho5' hb5' ho6' ho5 hb5 ho6
          obtain ⟨wB, rfl⟩ : ∃ wB : World, wB = wr := ⟨_, rfl⟩
          by_cases hsn : n ≤ s
          · have HX := hid (show ∀ i, i < n → (if cov (⟨xk, s, c, xsz, xsu⟩ : Ent) i = true then (1 : Int) else 0) = 0 from fun i hi => if_neg (fun h => by have := (hcv i).1 h; omega))
            clear hcv
            go_wp2_with fail
            go_roundw
            case rel => exact ⟨k2 + 1, l2, by omega, by go_num, HA.out.1, HA.out.2.1, HA.out.2.2, HR2.out.mono (fun i hi => by
              show cntK ls (k2 + 1) i = cntK ls k2 i
              rw [cntK_succ ls k2 i hlt, ← HXX.out, HX.out i hi]; omega)⟩
            case measure => simp [intOf]; omega
          by_cases hA : s + c < n
          · have HX := hid (show ∀ i, i < n → (if cov (ls.getD k2 default).e i = true then (1 : Int) else 0) = if s ≤ i ∧ i < s + c then 1 else 0 from fun i hi => by
              rw [← HXX.out]
              by_cases h : s ≤ i ∧ i < s + c
              · rw [if_pos h, if_pos ((hcv i).2 h)]
              · rw [if_neg h, if_neg (fun h' => h ((hcv i).1 h'))])
            clear hcv
            go_wp2_with fail
            go_loopw [11] (fun i wq => ∃ (j : Nat) (l3 : List Int), s ≤ j ∧ j ≤ (s + c) ∧ i = .int .i64 j ∧ OwnI wq (w.heap.size + 1) (.slice (some ⟨w.heap.size + 1, 0, none⟩) n n) l3 ∧ Below (w.heap.size + 1) w0 wq ∧ OwnL wq wA.heap.size v3 ls ∧ Hid (Reads l3 n (fun i => cntK ls k2 i + if s ≤ i ∧ i < j then 1 else 0)))
              (fun i _ => (s + c) - (intOf i).toNat)
            case atStart => exact ⟨s, l2, Nat.le_refl _, by omega, rfl, HA.out.1, HA.out.2.1, HA.out.2.2, HR2.out.mono (fun i _ => by
                show cntK ls k2 i + (if s ≤ i ∧ i < s then (1 : Int) else 0) = cntK ls k2 i
                rw [if_neg (by omega)]; omega)⟩
            case round =>
              obtain ⟨j, l3, hsj, hj, rfl, ho6, hb6, ho7, HR3⟩ := hrel
              clear HA
              by_cases hjn : j < (s + c)
              · have hln := HR3.out.1
                have hc := ho6.at j (by omega)
                have hfz := OwnV.fz ho6 j
                have hv := HR3.out.2 j (by omega)
                have hv2 : l3.getD j 0 = cntK ls k2 j := hv.trans (by show cntK ls k2 j + (if s ≤ j ∧ j < j then (1 : Int) else 0) = _; rw [if_neg (by omega)]; omega)
                have hbd := cntK_bd ls k2 j
                rw [hv2] at hc
                have ho8 := ho6.set j (cntK ls k2 j + 1) (by omega)
                have hb8 := hb6.setCell (p := ⟨w.heap.size + 1, j, none⟩) (Nat.le_refl _) (.int .i64 (cntK ls k2 j + 1))
                have ho9 : OwnL (wr.setCell ⟨w.heap.size + 1, j, none⟩ (.int .i64 (cntK ls k2 j + 1))) wA.heap.size v3 ls := ownsRow_setCell_below ho7 (a := ⟨w.heap.size + 1, j, none⟩) (show w.heap.size + 1 < wA.heap.size by omega) _
                have HO' := hid (And.intro ho8 (And.intro hb8 ho9))
                have HR' := hid (HR3.out.set (g := fun i => cntK ls k2 i + if s ≤ i ∧ i < j + 1 then 1 else 0) j (cntK ls k2 j + 1) (by show cntK ls k2 j + (if s ≤ j ∧ j < j + 1 then (1 : Int) else 0) = _; rw [if_pos (by omega)]) (fun i _ hi => by
                  show cntK ls k2 i + (if s ≤ i ∧ i < j + 1 then (1 : Int) else 0) = cntK ls k2 i + (if s ≤ i ∧ i < j then (1 : Int) else 0)
                  by_cases h : s ≤ i ∧ i < j
                  · rw [if_pos h, if_pos (by omega)]
                  · rw [if_neg h, if_neg (by omega)]))
                obtain ⟨y, hy⟩ : ∃ y, y = cntK ls k2 j := ⟨_, rfl⟩
                rw [← hy] at hc hbd HO' HR'
                clear hv hv2 hy ho8 hb8 ho9 hln ho6 hb6 ho7 HR3
                go_wp2_with fail
                go_roundw
                case rel => exact ⟨j + 1, _, by omega, by omega, by go_num, HO'.out.1, HO'.out.2.1, HO'.out.2.2, HR'⟩
                case measure => simp [intOf]; omega
              · obtain rfl : j = (s + c) := by omega
                go_wp2_with fail
                go_roundw
                case rel => exact ⟨k2 + 1, l3, by omega, by go_num, ho6, hb6, ho7, HR3.out.mono (fun i hi => by
                  show cntK ls (k2 + 1) i = cntK ls k2 i + (if s ≤ i ∧ i < _ then (1 : Int) else 0)
                  rw [cntK_succ ls k2 i hlt, HX.out i hi])⟩
                case measure => simp [intOf]; omega
          have HX := hid (show ∀ i, i < n → (if cov (ls.getD k2 default).e i = true then (1 : Int) else 0) = if s ≤ i ∧ i < n then 1 else 0 from fun i hi => by
            rw [← HXX.out]
            by_cases h : s ≤ i ∧ i < n
            · rw [if_pos h, if_pos ((hcv i).2 (by omega))]
            · rw [if_neg h, if_neg (fun h' => h (by have := (hcv i).1 h'; omega))])
          clear hcv
          by_cases hB : c < n
          · go_wp2_with fail
            go_loopw [11] (fun i wq => ∃ (j : Nat) (l3 : List Int), s ≤ j ∧ j ≤ n ∧ i = .int .i64 j ∧ OwnI wq (w.heap.size + 1) (.slice (some ⟨w.heap.size + 1, 0, none⟩) n n) l3 ∧ Below (w.heap.size + 1) w0 wq ∧ OwnL wq wA.heap.size v3 ls ∧ Hid (Reads l3 n (fun i => cntK ls k2 i + if s ≤ i ∧ i < j then 1 else 0)))
              (fun i _ => n - (intOf i).toNat)
            case atStart => exact ⟨s, l2, Nat.le_refl _, by omega, rfl, HA.out.1, HA.out.2.1, HA.out.2.2, HR2.out.mono (fun i _ => by
                show cntK ls k2 i + (if s ≤ i ∧ i < s then (1 : Int) else 0) = cntK ls k2 i
                rw [if_neg (by omega)]; omega)⟩
            case round =>
              obtain ⟨j, l3, hsj, hj, rfl, ho6, hb6, ho7, HR3⟩ := hrel
              clear HA
              by_cases hjn : j < n
              · have hln := HR3.out.1
                have hc := ho6.at j (by omega)
                have hfz := OwnV.fz ho6 j
                have hv := HR3.out.2 j (by omega)
                have hv2 : l3.getD j 0 = cntK ls k2 j := hv.trans (by show cntK ls k2 j + (if s ≤ j ∧ j < j then (1 : Int) else 0) = _; rw [if_neg (by omega)]; omega)
                have hbd := cntK_bd ls k2 j
                rw [hv2] at hc
                have ho8 := ho6.set j (cntK ls k2 j + 1) (by omega)
                have hb8 := hb6.setCell (p := ⟨w.heap.size + 1, j, none⟩) (Nat.le_refl _) (.int .i64 (cntK ls k2 j + 1))
                have ho9 : OwnL (wr.setCell ⟨w.heap.size + 1, j, none⟩ (.int .i64 (cntK ls k2 j + 1))) wA.heap.size v3 ls := ownsRow_setCell_below ho7 (a := ⟨w.heap.size + 1, j, none⟩) (show w.heap.size + 1 < wA.heap.size by omega) _
                have HO' := hid (And.intro ho8 (And.intro hb8 ho9))
                have HR' := hid (HR3.out.set (g := fun i => cntK ls k2 i + if s ≤ i ∧ i < j + 1 then 1 else 0) j (cntK ls k2 j + 1) (by show cntK ls k2 j + (if s ≤ j ∧ j < j + 1 then (1 : Int) else 0) = _; rw [if_pos (by omega)]) (fun i _ hi => by
                  show cntK ls k2 i + (if s ≤ i ∧ i < j + 1 then (1 : Int) else 0) = cntK ls k2 i + (if s ≤ i ∧ i < j then (1 : Int) else 0)
                  by_cases h : s ≤ i ∧ i < j
                  · rw [if_pos h, if_pos (by omega)]
                  · rw [if_neg h, if_neg (by omega)]))
                obtain ⟨y, hy⟩ : ∃ y, y = cntK ls k2 j := ⟨_, rfl⟩
                rw [← hy] at hc hbd HO' HR'
                clear hv hv2 hy ho8 hb8 ho9 hln ho6 hb6 ho7 HR3
                go_wp2_with fail
                go_roundw
                case rel => exact ⟨j + 1, _, by omega, by omega, by go_num, HO'.out.1, HO'.out.2.1, HO'.out.2.2, HR'⟩
                case measure => simp [intOf]; omega
              · obtain rfl : j = n := by omega
                go_wp2_with fail
                go_roundw
                case rel => exact ⟨k2 + 1, l3, by omega, by go_num, ho6, hb6, ho7, HR3.out.mono (fun i hi => by
                  show cntK ls (k2 + 1) i = cntK ls k2 i + (if s ≤ i ∧ i < _ then (1 : Int) else 0)
                  rw [cntK_succ ls k2 i hlt, HX.out i hi])⟩
                case measure => simp [intOf]; omega
          · go_wp2_with fail
            go_loopw [11] (fun i wq => ∃ (j : Nat) (l3 : List Int), s ≤ j ∧ j ≤ n ∧ i = .int .i64 j ∧ OwnI wq (w.heap.size + 1) (.slice (some ⟨w.heap.size + 1, 0, none⟩) n n) l3 ∧ Below (w.heap.size + 1) w0 wq ∧ OwnL wq wA.heap.size v3 ls ∧ Hid (Reads l3 n (fun i => cntK ls k2 i + if s ≤ i ∧ i < j then 1 else 0)))
              (fun i _ => n - (intOf i).toNat)
            case atStart => exact ⟨s, l2, Nat.le_refl _, by omega, rfl, HA.out.1, HA.out.2.1, HA.out.2.2, HR2.out.mono (fun i _ => by
                show cntK ls k2 i + (if s ≤ i ∧ i < s then (1 : Int) else 0) = cntK ls k2 i
                rw [if_neg (by omega)]; omega)⟩
            case round =>
              obtain ⟨j, l3, hsj, hj, rfl, ho6, hb6, ho7, HR3⟩ := hrel
              clear HA
              by_cases hjn : j < n
              · have hln := HR3.out.1
                have hc := ho6.at j (by omega)
                have hfz := OwnV.fz ho6 j
                have hv := HR3.out.2 j (by omega)
                have hv2 : l3.getD j 0 = cntK ls k2 j := hv.trans (by show cntK ls k2 j + (if s ≤ j ∧ j < j then (1 : Int) else 0) = _; rw [if_neg (by omega)]; omega)
                have hbd := cntK_bd ls k2 j
                rw [hv2] at hc
                have ho8 := ho6.set j (cntK ls k2 j + 1) (by omega)
                have hb8 := hb6.setCell (p := ⟨w.heap.size + 1, j, none⟩) (Nat.le_refl _) (.int .i64 (cntK ls k2 j + 1))
                have ho9 : OwnL (wr.setCell ⟨w.heap.size + 1, j, none⟩ (.int .i64 (cntK ls k2 j + 1))) wA.heap.size v3 ls := ownsRow_setCell_below ho7 (a := ⟨w.heap.size + 1, j, none⟩) (show w.heap.size + 1 < wA.heap.size by omega) _
                have HO' := hid (And.intro ho8 (And.intro hb8 ho9))
                have HR' := hid (HR3.out.set (g := fun i => cntK ls k2 i + if s ≤ i ∧ i < j + 1 then 1 else 0) j (cntK ls k2 j + 1) (by show cntK ls k2 j + (if s ≤ j ∧ j < j + 1 then (1 : Int) else 0) = _; rw [if_pos (by omega)]) (fun i _ hi => by
                  show cntK ls k2 i + (if s ≤ i ∧ i < j + 1 then (1 : Int) else 0) = cntK ls k2 i + (if s ≤ i ∧ i < j then (1 : Int) else 0)
                  by_cases h : s ≤ i ∧ i < j
                  · rw [if_pos h, if_pos (by omega)]
                  · rw [if_neg h, if_neg (by omega)]))
                obtain ⟨y, hy⟩ : ∃ y, y = cntK ls k2 j := ⟨_, rfl⟩
                rw [← hy] at hc hbd HO' HR'
                clear hv hv2 hy ho8 hb8 ho9 hln ho6 hb6 ho7 HR3
                go_wp2_with fail
                go_roundw
                case rel => exact ⟨j + 1, _, by omega, by omega, by go_num, HO'.out.1, HO'.out.2.1, HO'.out.2.2, HR'⟩
                case measure => simp [intOf]; omega
              · obtain rfl : j = n := by omega
                go_wp2_with fail
                go_roundw
                case rel => exact ⟨k2 + 1, l3, by omega, by go_num, ho6, hb6, ho7, HR3.out.mono (fun i hi => by
                  show cntK ls (k2 + 1) i = cntK ls k2 i + (if s ≤ i ∧ i < _ then (1 : Int) else 0)
                  rw [cntK_succ ls k2 i hlt, HX.out i hi])⟩
                case measure => simp [intOf]; omega
        · obtain rfl : k2 = ls.length := by omega
          have hre := HR2.out.eq
          go_wp2_with fail
          go_ret
          exact ⟨_, rfl, by rw [HO.out]; exact (hre ▸ ho5).any_base (by omega), HBX.out.trans (hb5.mono (by omega))⟩
end Go.Proofs.YtmcllcepoiakeaaGreat.Cx
