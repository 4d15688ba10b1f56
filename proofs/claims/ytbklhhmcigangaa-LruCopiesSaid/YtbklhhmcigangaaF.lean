import Derived.Test.YtbklhhmcigangaaE
import Derived.Test.YtbklhhmcigangaaMR
namespace Go.Proofs.Ytbklhhmcigangaa
open Go.RowKit Go.Mx Go.Lr
set_option linter.unusedVariables false
set_option linter.unusedSimpArgs false
abbrev irow (n : Int) : List Value := [.int .i64 n]
abbrev ptr (a : Nat) : Value := .pointer (some ⟨a, 0, none⟩)
theorem irow_flat : ∀ l : List Int, (l.map irow).flatten = l.map (.int .i64) := fun l => by induction l <;> simp_all [irow]
theorem ownI_G {w : World} {base : Nat} {v : Value} {l : List Int} (h : OwnI w base v l) : OwnG w base 3 1 v (l.map irow) := by
  refine ⟨?_, by simp⟩
  rw [irow_flat, List.length_map]
  simpa [OwnI, OwnV] using h
theorem ownG_I {w : World} {base : Nat} {v : Value} {l : List Int} (h : OwnG w base 3 1 v (l.map irow)) : OwnI w base v l := by
  have := h.1
  rw [irow_flat, List.length_map] at this
  simpa [OwnI, OwnV] using this
theorem size3 (w : World) : (sizeOf 3).run Try.prog w = .ok 1 w := by kernel_rfl
theorem zero3 : ∀ w, (zeroValue 3).run Try.prog w = .ok (.int .i64 0) w := fun w => by kernel_rfl
theorem dropI_at {l R : List Int} {j : Nat} (h : R.drop j = l.drop j) (hR : R.length = l.length) (hj : j < l.length) : R.getD j 0 = l.getD j 0 ∧ R.drop (j + 1) = l.drop (j + 1) := by
  rw [List.drop_eq_getElem_cons hj, List.drop_eq_getElem_cons (by omega : j < R.length)] at h
  have h := List.cons.inj h
  exact ⟨by simp [List.getD_eq_getElem?_getD, List.getElem?_eq_getElem hj, List.getElem?_eq_getElem (by omega : j < R.length), h.1], h.2⟩
theorem ownG_shape {w : World} {base : Nat} {e : TypeId} {s : Nat} {v : Value} {rows : List (List Value)} (h : OwnG w base e s v rows) : ∃ oa n c, v = .slice oa n c := by
  rcases h.shape with ⟨rfl, _⟩ | ⟨g, c, rfl, _⟩
  · exact ⟨_, _, _, rfl⟩
  · exact ⟨_, _, _, rfl⟩
set_option maxRecDepth 100000 in
theorem index55 (l : List Int) (lv : Value) (P : Int → Bool) (a : Nat) (w : World) (hs : SlI w w.heap.size lv l) (hn : l.length ≤ 1000000000)
    (hP : ∀ w', Below w.heap.size w w' → ∀ x, x ∈ l → Calls Try.prog 55 #[.int .i64 x, ptr a] w' fun e w'' => e = .returned (.bool (P x)) ∧ Below w'.heap.size w' w'') :
    Calls Try.prog 57 #[lv, .func (.func 55) #[] #[ptr a]] w fun e w' => Below w.heap.size w w' ∧ ((e = .returned (.int .i64 (-1)) ∧ ∀ x ∈ l, P x = false) ∨ ∃ i : Nat, e = .returned (.int .i64 i) ∧ i < l.length ∧ P (l.getD i 0) = true ∧ ∀ x ∈ l.take i, P x = false) := by
  have hlen := fun w' => hs.len (P := Try.prog) Try.underlying29 (ty := 3) w'
  have HS := hid hs
  have HP := hid hP
  obtain ⟨oa, nn, c, rfl⟩ : ∃ oa n c, lv = .slice oa n c := by obtain ⟨oa, c, rfl, _⟩ := hs; exact ⟨_, _, _, rfl⟩
  clear hs hP
  go_enter Try.func57, Try.ntmps57
  go_wp2_with fail
  go_loopw [8] (fun t wr => ∃ j : Nat, j ≤ l.length ∧ t = .int .i64 j ∧ Below w.heap.size w wr ∧ Hid (∀ x ∈ l.take j, P x = false)) (fun t _ => l.length - (intOf t).toNat)
  case atStart => exact ⟨0, by omega, rfl, Below.refl _ _, hid (by simp)⟩
  case round =>
    obtain ⟨j, hj, rfl, hbl, HT⟩ := hrel
    by_cases hlt : j < l.length
    · obtain ⟨bb, bo, hbb, hia, hrow⟩ := (HS.out.below hbl (Nat.le_refl _)).addr (P := Try.prog) Try.underlying29 size3 j hlt
      have hmem : l.getD j 0 ∈ l := by rw [List.getD_eq_getElem?_getD, List.getElem?_eq_getElem hlt]; exact List.getElem_mem _
      have HN := hid (show l.take (j + 1) = l.take j ++ [l.getD j 0] by rw [List.take_add_one, List.getElem?_eq_getElem hlt, List.getD_eq_getElem?_getD, List.getElem?_eq_getElem hlt]; rfl)
      obtain ⟨x, hx⟩ : ∃ x, x = l.getD j 0 := ⟨_, rfl⟩
      rw [← hx] at hrow hmem HN
      have hz := hbl.size
      have HC := hid (HP.out wr hbl x hmem)
      obtain ⟨q, hq⟩ : ∃ q, q = P x := ⟨_, rfl⟩
      rw [← hq] at HC
      have HQ := hid (And.intro hq hx)
      have HB := hid hbl
      clear hbl hx hq
      go_wp2_with fail
      refine HC.out.mono ?_
      rintro e w1 ⟨rfl, hb1⟩
      have HB1 := hid (HB.out.trans (hb1.mono hz))
      clear hb1
      cases q
      · go_wp2_with fail
        go_roundw
        case rel =>
          refine ⟨j + 1, by omega, by go_num, HB1.out, hid ?_⟩
          rw [HN.out]
          intro y hy
          rcases List.mem_append.1 hy with hy | hy
          · exact HT.out y hy
          · simp at hy; rw [hy]; exact HQ.out.1.symm
        case measure => simp [intOf]; omega
      · go_wp2
        go_ret
        exact ⟨HB1.out, .inr ⟨j, rfl, hlt, by rw [← HQ.out.2]; exact HQ.out.1.symm, HT.out⟩⟩
    · obtain rfl : j = l.length := by omega
      go_wp2
      go_ret
      exact ⟨hbl, .inl ⟨rfl, by have := HT.out; rwa [List.take_length] at this⟩⟩
set_option maxRecDepth 100000 in
set_option maxHeartbeats 1000000 in
theorem delf55 (l : List Int) (lv : Value) (P : Int → Bool) (a base : Nat) (w : World) (hs : OwnI w base lv l) (hn : l.length ≤ 1000000000) (hB : base ≤ w.heap.size)
    (hP : ∀ w', Kept w w' (fun q => lv.ownBlock ≠ some q) → ∀ x, x ∈ l → Calls Try.prog 55 #[.int .i64 x, ptr a] w' fun e w'' => e = .returned (.bool (P x)) ∧ Below w'.heap.size w' w'') :
    Calls Try.prog 35 #[lv, .func (.func 55) #[] #[ptr a]] w fun e w' => ∃ v', e = .returned v' ∧ OwnI w' base v' (l.filter fun x => !P x) ∧ Kept w w' (fun q => lv.ownBlock ≠ some q) ∧ Below base w w' ∧ (∀ q, v'.ownBlock = some q → lv.ownBlock = some q) := by
  have HI := hid (index55 l lv P a w hs.slI hn fun w' hb => hP w' (.of_below hb fun _ h _ => h))
  have HS := hid (ownI_G hs)
  have HP := hid hP
  have hlen := fun w' => hs.slI.len (P := Try.prog) Try.underlying29 (ty := 3) w'
  obtain ⟨oa, nn, c, rfl⟩ := ownG_shape (ownI_G hs)
  clear hs hP
  go_enter Try.func35, Try.ntmps35
  go_wp2_with fail
  refine HI.out.mono ?_
  rintro e w1 ⟨hb1, ⟨rfl, hall⟩ | ⟨i0, rfl, hi0, hg0, hall⟩⟩
  · have hk1 : Kept w w1 (fun _ => True) := .of_below hb1 fun _ h _ => h
    have h1 := HS.out.kept hk1 fun _ _ => trivial
    have e1 : (l.filter fun x => !P x) = l := List.filter_eq_self.2 fun x hx => by rw [hall x hx]; rfl
    have HE := hid (And.intro (ownG_I h1) (And.intro e1 hb1))
    clear h1 hk1 e1 hb1 hall
    go_wp2
    go_ret
    exact ⟨_, rfl, by rw [HE.out.2.1]; exact HE.out.1, .of_below HE.out.2.2 fun _ h _ => h, HE.out.2.2.mono hB, fun q e => e⟩
  · rcases HS.out.shape with ⟨_, h0⟩ | ⟨g, cp, hv, hg1, hg2⟩
    · have := congrArg List.length h0; simp at this; rw [this] at hi0; simp at hi0
    rw [List.length_map] at hv
    simp only [Value.slice.injEq] at hv
    obtain ⟨rfl, rfl, rfl⟩ := hv
    have h1 := HS.out.below hb1 (Nat.le_refl _)
    have t0 : ((i0 : Int) == -1) = false := by rw [beq_eq_false_iff_ne]; omega
    have t1 : ¬ ((i0 : Int) = -1) := by omega
    have HB1 := hid hb1
    have HST : Hid ((l.take i0).filter (fun x => !P x) = l.take i0 ∧ (l.take (i0 + 1)).filter (fun x => !P x) = l.take i0) := by
      have e1 : (l.take i0).filter (fun x => !P x) = l.take i0 := List.filter_eq_self.2 fun x hx => by rw [hall x hx]; rfl
      refine ⟨e1, ?_⟩
      rw [List.take_add_one, List.getElem?_eq_getElem hi0, List.filter_append, e1]
      have : P l[i0] = true := by rw [List.getD_eq_getElem?_getD, List.getElem?_eq_getElem hi0] at hg0; exact hg0
      simp [this]
    clear hb1 hall hg0 HI
    go_wp2_with fail
    go_loopw [5, 6] (fun s5 s6 wr => ∃ (i j : Nat) (R : List Int), s5 = .int .i64 i ∧ s6 = .int .i64 j ∧ i < j ∧ j ≤ l.length ∧ R.length = l.length ∧ Hid (R.take i = (l.take j).filter (fun x => !P x) ∧ R.drop j = l.drop j) ∧
      OwnG wr base 3 1 (.slice (some ⟨g, 0, none⟩) l.length c) (R.map irow) ∧ Kept w wr (fun q => (Value.slice (some ⟨g, 0, none⟩) l.length c).ownBlock ≠ some q) ∧ Below base w wr) (fun _ s6 _ => l.length - (intOf s6).toNat)
    case atStart => exact ⟨i0, i0 + 1, l, rfl, by go_num, by omega, by omega, rfl, hid ⟨HST.out.2.symm, rfl⟩, h1, .of_below HB1.out fun _ h _ => h, HB1.out.mono hB⟩
    case round =>
      obtain ⟨i, j, R, rfl, rfl, hij, hj, hRl, HR, ho, hk, hbel⟩ := hrel
      by_cases hlt : j < l.length
      · have hdr := dropI_at HR.out.2 hRl hlt
        have hmem : l.getD j 0 ∈ l := by rw [List.getD_eq_getElem?_getD, List.getElem?_eq_getElem hlt]; exact List.getElem_mem _
        have hgo := HR.out.1
        have htk : l.take (j + 1) = l.take j ++ [l.getD j 0] := by rw [List.take_add_one, List.getElem?_eq_getElem hlt, List.getD_eq_getElem?_getD, List.getElem?_eq_getElem hlt]; rfl
        have hjR : j < (R.map irow).length := by simp; omega
        have hiR : i < (R.map irow).length := by simp; omega
        have hcj : wr.cell? ⟨g, j, none⟩ = some (.int .i64 (R.getD j 0)) := by
          have := OwnI.at (ownG_I ho) j (by omega)
          exact this
        rw [hdr.1] at hcj
        obtain ⟨x, hx⟩ : ∃ x, x = l.getD j 0 := ⟨_, rfl⟩
        rw [← hx] at hcj htk hmem
        have hia := ho.addr (P := Try.prog) Try.underlying29 size3 j hjR
        have hii := ho.addr (P := Try.prog) Try.underlying29 size3 i hiR
        rw [Nat.mul_one] at hia hii
        have hgb : base ≤ g := hg1
        have HC := hid (HP.out wr hk x hmem)
        have HW := hid (And.intro ho (And.intro hk hbel))
        have HRB := hid (And.intro hx (And.intro htk hgo))
        obtain ⟨q, hq⟩ : ∃ q, q = P x := ⟨_, rfl⟩
        rw [← hq] at HC
        have HQ := hid hq
        have HD := hid hdr
        clear hdr hx htk hgo hq hk hbel ho h1 hmem
        go_wp2_with fail
        refine HC.out.mono ?_
        rintro e w2 ⟨rfl, hb2⟩
        have ho2 := HW.out.1.below hb2 (Nat.le_refl _)
        have hk2 := HW.out.2.1.trans (.of_below hb2 fun _ h _ => h)
        have hB2 := HW.out.2.2.trans (hb2.mono (by have := HW.out.2.2.size; omega))
        cases q
        · have hset := OwnI.set (ownG_I ho2) i x (by omega)
          have hk3 := hk2.trans (Kept.set w2 g i (.int .i64 x) (N := fun q => (Value.slice (some ⟨g, 0, none⟩) l.length c).ownBlock ≠ some q) fun hn => hn rfl)
          have hB3 := hB2.setCell (p := ⟨g, i, none⟩) hgb (.int .i64 x)
          have hci : w2.cell? ⟨g, i, none⟩ = some (.int .i64 (R.getD i 0)) := OwnI.at (ownG_I ho2) i (by omega)
          have hfi : w2.frozen? ⟨g, i, none⟩ = false := OwnV.fz (ownG_I ho2) i
          have HO := hid (And.intro hset (And.intro hk3 hB3))
          clear hset hk3 hB3 hk2 hB2 ho2 hb2
          go_wp2_with fail
          go_roundw
          case rel =>
            refine ⟨i + 1, j + 1, R.set i x, by go_num, by go_num, by omega, by omega, by simpa using hRl, hid ⟨?_, ?_⟩, ownI_G HO.out.1, HO.out.2.1, HO.out.2.2⟩
            · rw [HRB.out.2.1, List.filter_append, ← HRB.out.2.2, List.take_add_one, List.take_set_of_le (Nat.le_refl _), List.getElem?_set_self (by omega)]
              have : P x = false := HQ.out.symm
              simp [this]
            · rw [List.drop_set, if_pos (by omega)]; exact HD.out.2
          case measure => simp [intOf]; omega
        · have HO := hid (And.intro ho2 (And.intro hk2 hB2))
          clear ho2 hk2 hB2 hb2
          go_wp2_with fail
          go_roundw
          case rel =>
            refine ⟨i, j + 1, R, rfl, by go_num, by omega, by omega, hRl, hid ⟨?_, HD.out.2⟩, HO.out.1, HO.out.2.1, HO.out.2.2⟩
            rw [HRB.out.2.1, List.filter_append, ← HRB.out.2.2]
            have : P x = true := HQ.out.symm
            simp [this]
          case measure => simp [intOf]; omega
      · obtain rfl : j = l.length := by omega
        have hsl := ho.from (P := Try.prog) Try.underlying29 size3 i (by simp; omega)
        have hsl2 := ho.to (P := Try.prog) Try.underlying29 size3 i (by simp; omega)
        rw [Nat.mul_one] at hsl
        have hcl : ∀ ty, (Builtin.clear_ #[29] ty #[.slice (some ⟨g, i, none⟩) (l.length - i) (c - i)]).run Try.prog wr = .ok (.tuple #[]) (wr.setCells g i (Builtin.zeroCells (Value.int .i64 0).cells (l.length - i)).toList) := fun ty =>
          run_clear_rows wr 29 3 ty (.int .i64 0) Try.underlying29 zero3 (by decide) g i (l.length - i) (c - i) (by omega) (ho.there _ _ (by
            have := ho.parts.2.2.1; simp at this
            show i + (l.length - i) * 1 ≤ c * 1
            omega))
        have ho2 := ho.tail i (by simp; omega) (Builtin.zeroCells (Value.int .i64 0).cells (l.length - i)).toList (by
            have := ho.parts.2.2.1; simp at this
            rw [zero_cells_len]
            show i * 1 + (l.length - i) * 1 ≤ c * 1
            omega)
        rw [Nat.mul_one] at ho2
        have hgb : base ≤ g := hg1
        have hk2 := hk.trans (Kept.setCells wr g i (Builtin.zeroCells (Value.int .i64 0).cells (l.length - i)).toList (N := fun q => (Value.slice (some ⟨g, 0, none⟩) l.length c).ownBlock ≠ some q) fun hn => hn rfl)
        have hb2 := Mx.Below.setCells (Builtin.zeroCells (Value.int .i64 0).cells (l.length - i)).toList hbel (o := i) hgb
        obtain ⟨ZL, hZL⟩ : ∃ z, z = (Builtin.zeroCells (Value.int .i64 0).cells (l.length - i)).toList := ⟨_, rfl⟩
        rw [← hZL] at hcl ho2 hk2 hb2
        have e1 : (R.map irow).take i = (l.filter fun x => !P x).map irow := by
          rw [← List.map_take, HR.out.1, List.take_length]
        rw [e1] at ho2
        have HO := hid (And.intro (ownG_I ho2) (And.intro hk2 hb2))
        clear hZL ho2 hk2 hb2 e1 ho hk hbel h1
        go_wp2_with fail
        go_ret
        exact ⟨_, rfl, HO.out.1, HO.out.2.1, HO.out.2.2, fun q e => e⟩
set_option maxRecDepth 100000 in
theorem index38 (l : List Int) (lv : Value) (P : Int → Bool) (a : Nat) (w : World) (hs : SlI w w.heap.size lv l) (hn : l.length ≤ 1000000000)
    (hP : ∀ w', Below w.heap.size w w' → ∀ x, x ∈ l → Calls Try.prog 38 #[.int .i64 x, ptr a] w' fun e w'' => e = .returned (.bool (P x)) ∧ Below w'.heap.size w' w'') :
    Calls Try.prog 57 #[lv, .func (.func 38) #[] #[ptr a]] w fun e w' => Below w.heap.size w w' ∧ ((e = .returned (.int .i64 (-1)) ∧ ∀ x ∈ l, P x = false) ∨ ∃ i : Nat, e = .returned (.int .i64 i) ∧ i < l.length ∧ P (l.getD i 0) = true ∧ ∀ x ∈ l.take i, P x = false) := by
  have hlen := fun w' => hs.len (P := Try.prog) Try.underlying29 (ty := 3) w'
  have HS := hid hs
  have HP := hid hP
  obtain ⟨oa, nn, c, rfl⟩ : ∃ oa n c, lv = .slice oa n c := by obtain ⟨oa, c, rfl, _⟩ := hs; exact ⟨_, _, _, rfl⟩
  clear hs hP
  go_enter Try.func57, Try.ntmps57
  go_wp2_with fail
  go_loopw [8] (fun t wr => ∃ j : Nat, j ≤ l.length ∧ t = .int .i64 j ∧ Below w.heap.size w wr ∧ Hid (∀ x ∈ l.take j, P x = false)) (fun t _ => l.length - (intOf t).toNat)
  case atStart => exact ⟨0, by omega, rfl, Below.refl _ _, hid (by simp)⟩
  case round =>
    obtain ⟨j, hj, rfl, hbl, HT⟩ := hrel
    by_cases hlt : j < l.length
    · obtain ⟨bb, bo, hbb, hia, hrow⟩ := (HS.out.below hbl (Nat.le_refl _)).addr (P := Try.prog) Try.underlying29 size3 j hlt
      have hmem : l.getD j 0 ∈ l := by rw [List.getD_eq_getElem?_getD, List.getElem?_eq_getElem hlt]; exact List.getElem_mem _
      have HN := hid (show l.take (j + 1) = l.take j ++ [l.getD j 0] by rw [List.take_add_one, List.getElem?_eq_getElem hlt, List.getD_eq_getElem?_getD, List.getElem?_eq_getElem hlt]; rfl)
      obtain ⟨x, hx⟩ : ∃ x, x = l.getD j 0 := ⟨_, rfl⟩
      rw [← hx] at hrow hmem HN
      have hz := hbl.size
      have HC := hid (HP.out wr hbl x hmem)
      obtain ⟨q, hq⟩ : ∃ q, q = P x := ⟨_, rfl⟩
      rw [← hq] at HC
      have HQ := hid (And.intro hq hx)
      have HB := hid hbl
      clear hbl hx hq
      go_wp2_with fail
      refine HC.out.mono ?_
      rintro e w1 ⟨rfl, hb1⟩
      have HB1 := hid (HB.out.trans (hb1.mono hz))
      clear hb1
      cases q
      · go_wp2_with fail
        go_roundw
        case rel =>
          refine ⟨j + 1, by omega, by go_num, HB1.out, hid ?_⟩
          rw [HN.out]
          intro y hy
          rcases List.mem_append.1 hy with hy | hy
          · exact HT.out y hy
          · simp at hy; rw [hy]; exact HQ.out.1.symm
        case measure => simp [intOf]; omega
      · go_wp2
        go_ret
        exact ⟨HB1.out, .inr ⟨j, rfl, hlt, by rw [← HQ.out.2]; exact HQ.out.1.symm, HT.out⟩⟩
    · obtain rfl : j = l.length := by omega
      go_wp2
      go_ret
      exact ⟨hbl, .inl ⟨rfl, by have := HT.out; rwa [List.take_length] at this⟩⟩
set_option maxRecDepth 100000 in
set_option maxHeartbeats 1000000 in
theorem delf38 (l : List Int) (lv : Value) (P : Int → Bool) (a base : Nat) (w : World) (hs : OwnI w base lv l) (hn : l.length ≤ 1000000000) (hB : base ≤ w.heap.size)
    (hP : ∀ w', Kept w w' (fun q => lv.ownBlock ≠ some q) → ∀ x, x ∈ l → Calls Try.prog 38 #[.int .i64 x, ptr a] w' fun e w'' => e = .returned (.bool (P x)) ∧ Below w'.heap.size w' w'') :
    Calls Try.prog 35 #[lv, .func (.func 38) #[] #[ptr a]] w fun e w' => ∃ v', e = .returned v' ∧ OwnI w' base v' (l.filter fun x => !P x) ∧ Kept w w' (fun q => lv.ownBlock ≠ some q) ∧ Below base w w' ∧ (∀ q, v'.ownBlock = some q → lv.ownBlock = some q) := by
  have HI := hid (index38 l lv P a w hs.slI hn fun w' hb => hP w' (.of_below hb fun _ h _ => h))
  have HS := hid (ownI_G hs)
  have HP := hid hP
  have hlen := fun w' => hs.slI.len (P := Try.prog) Try.underlying29 (ty := 3) w'
  obtain ⟨oa, nn, c, rfl⟩ := ownG_shape (ownI_G hs)
  clear hs hP
  go_enter Try.func35, Try.ntmps35
  go_wp2_with fail
  refine HI.out.mono ?_
  rintro e w1 ⟨hb1, ⟨rfl, hall⟩ | ⟨i0, rfl, hi0, hg0, hall⟩⟩
  · have hk1 : Kept w w1 (fun _ => True) := .of_below hb1 fun _ h _ => h
    have h1 := HS.out.kept hk1 fun _ _ => trivial
    have e1 : (l.filter fun x => !P x) = l := List.filter_eq_self.2 fun x hx => by rw [hall x hx]; rfl
    have HE := hid (And.intro (ownG_I h1) (And.intro e1 hb1))
    clear h1 hk1 e1 hb1 hall
    go_wp2
    go_ret
    exact ⟨_, rfl, by rw [HE.out.2.1]; exact HE.out.1, .of_below HE.out.2.2 fun _ h _ => h, HE.out.2.2.mono hB, fun q e => e⟩
  · rcases HS.out.shape with ⟨_, h0⟩ | ⟨g, cp, hv, hg1, hg2⟩
    · have := congrArg List.length h0; simp at this; rw [this] at hi0; simp at hi0
    rw [List.length_map] at hv
    simp only [Value.slice.injEq] at hv
    obtain ⟨rfl, rfl, rfl⟩ := hv
    have h1 := HS.out.below hb1 (Nat.le_refl _)
    have t0 : ((i0 : Int) == -1) = false := by rw [beq_eq_false_iff_ne]; omega
    have t1 : ¬ ((i0 : Int) = -1) := by omega
    have HB1 := hid hb1
    have HST : Hid ((l.take i0).filter (fun x => !P x) = l.take i0 ∧ (l.take (i0 + 1)).filter (fun x => !P x) = l.take i0) := by
      have e1 : (l.take i0).filter (fun x => !P x) = l.take i0 := List.filter_eq_self.2 fun x hx => by rw [hall x hx]; rfl
      refine ⟨e1, ?_⟩
      rw [List.take_add_one, List.getElem?_eq_getElem hi0, List.filter_append, e1]
      have : P l[i0] = true := by rw [List.getD_eq_getElem?_getD, List.getElem?_eq_getElem hi0] at hg0; exact hg0
      simp [this]
    clear hb1 hall hg0 HI
    go_wp2_with fail
    go_loopw [5, 6] (fun s5 s6 wr => ∃ (i j : Nat) (R : List Int), s5 = .int .i64 i ∧ s6 = .int .i64 j ∧ i < j ∧ j ≤ l.length ∧ R.length = l.length ∧ Hid (R.take i = (l.take j).filter (fun x => !P x) ∧ R.drop j = l.drop j) ∧
      OwnG wr base 3 1 (.slice (some ⟨g, 0, none⟩) l.length c) (R.map irow) ∧ Kept w wr (fun q => (Value.slice (some ⟨g, 0, none⟩) l.length c).ownBlock ≠ some q) ∧ Below base w wr) (fun _ s6 _ => l.length - (intOf s6).toNat)
    case atStart => exact ⟨i0, i0 + 1, l, rfl, by go_num, by omega, by omega, rfl, hid ⟨HST.out.2.symm, rfl⟩, h1, .of_below HB1.out fun _ h _ => h, HB1.out.mono hB⟩
    case round =>
      obtain ⟨i, j, R, rfl, rfl, hij, hj, hRl, HR, ho, hk, hbel⟩ := hrel
      by_cases hlt : j < l.length
      · have hdr := dropI_at HR.out.2 hRl hlt
        have hmem : l.getD j 0 ∈ l := by rw [List.getD_eq_getElem?_getD, List.getElem?_eq_getElem hlt]; exact List.getElem_mem _
        have hgo := HR.out.1
        have htk : l.take (j + 1) = l.take j ++ [l.getD j 0] := by rw [List.take_add_one, List.getElem?_eq_getElem hlt, List.getD_eq_getElem?_getD, List.getElem?_eq_getElem hlt]; rfl
        have hjR : j < (R.map irow).length := by simp; omega
        have hiR : i < (R.map irow).length := by simp; omega
        have hcj : wr.cell? ⟨g, j, none⟩ = some (.int .i64 (R.getD j 0)) := by
          have := OwnI.at (ownG_I ho) j (by omega)
          exact this
        rw [hdr.1] at hcj
        obtain ⟨x, hx⟩ : ∃ x, x = l.getD j 0 := ⟨_, rfl⟩
        rw [← hx] at hcj htk hmem
        have hia := ho.addr (P := Try.prog) Try.underlying29 size3 j hjR
        have hii := ho.addr (P := Try.prog) Try.underlying29 size3 i hiR
        rw [Nat.mul_one] at hia hii
        have hgb : base ≤ g := hg1
        have HC := hid (HP.out wr hk x hmem)
        have HW := hid (And.intro ho (And.intro hk hbel))
        have HRB := hid (And.intro hx (And.intro htk hgo))
        obtain ⟨q, hq⟩ : ∃ q, q = P x := ⟨_, rfl⟩
        rw [← hq] at HC
        have HQ := hid hq
        have HD := hid hdr
        clear hdr hx htk hgo hq hk hbel ho h1 hmem
        go_wp2_with fail
        refine HC.out.mono ?_
        rintro e w2 ⟨rfl, hb2⟩
        have ho2 := HW.out.1.below hb2 (Nat.le_refl _)
        have hk2 := HW.out.2.1.trans (.of_below hb2 fun _ h _ => h)
        have hB2 := HW.out.2.2.trans (hb2.mono (by have := HW.out.2.2.size; omega))
        cases q
        · have hset := OwnI.set (ownG_I ho2) i x (by omega)
          have hk3 := hk2.trans (Kept.set w2 g i (.int .i64 x) (N := fun q => (Value.slice (some ⟨g, 0, none⟩) l.length c).ownBlock ≠ some q) fun hn => hn rfl)
          have hB3 := hB2.setCell (p := ⟨g, i, none⟩) hgb (.int .i64 x)
          have hci : w2.cell? ⟨g, i, none⟩ = some (.int .i64 (R.getD i 0)) := OwnI.at (ownG_I ho2) i (by omega)
          have hfi : w2.frozen? ⟨g, i, none⟩ = false := OwnV.fz (ownG_I ho2) i
          have HO := hid (And.intro hset (And.intro hk3 hB3))
          clear hset hk3 hB3 hk2 hB2 ho2 hb2
          go_wp2_with fail
          go_roundw
          case rel =>
            refine ⟨i + 1, j + 1, R.set i x, by go_num, by go_num, by omega, by omega, by simpa using hRl, hid ⟨?_, ?_⟩, ownI_G HO.out.1, HO.out.2.1, HO.out.2.2⟩
            · rw [HRB.out.2.1, List.filter_append, ← HRB.out.2.2, List.take_add_one, List.take_set_of_le (Nat.le_refl _), List.getElem?_set_self (by omega)]
              have : P x = false := HQ.out.symm
              simp [this]
            · rw [List.drop_set, if_pos (by omega)]; exact HD.out.2
          case measure => simp [intOf]; omega
        · have HO := hid (And.intro ho2 (And.intro hk2 hB2))
          clear ho2 hk2 hB2 hb2
          go_wp2_with fail
          go_roundw
          case rel =>
            refine ⟨i, j + 1, R, rfl, by go_num, by omega, by omega, hRl, hid ⟨?_, HD.out.2⟩, HO.out.1, HO.out.2.1, HO.out.2.2⟩
            rw [HRB.out.2.1, List.filter_append, ← HRB.out.2.2]
            have : P x = true := HQ.out.symm
            simp [this]
          case measure => simp [intOf]; omega
      · obtain rfl : j = l.length := by omega
        have hsl := ho.from (P := Try.prog) Try.underlying29 size3 i (by simp; omega)
        have hsl2 := ho.to (P := Try.prog) Try.underlying29 size3 i (by simp; omega)
        rw [Nat.mul_one] at hsl
        have hcl : ∀ ty, (Builtin.clear_ #[29] ty #[.slice (some ⟨g, i, none⟩) (l.length - i) (c - i)]).run Try.prog wr = .ok (.tuple #[]) (wr.setCells g i (Builtin.zeroCells (Value.int .i64 0).cells (l.length - i)).toList) := fun ty =>
          run_clear_rows wr 29 3 ty (.int .i64 0) Try.underlying29 zero3 (by decide) g i (l.length - i) (c - i) (by omega) (ho.there _ _ (by
            have := ho.parts.2.2.1; simp at this
            show i + (l.length - i) * 1 ≤ c * 1
            omega))
        have ho2 := ho.tail i (by simp; omega) (Builtin.zeroCells (Value.int .i64 0).cells (l.length - i)).toList (by
            have := ho.parts.2.2.1; simp at this
            rw [zero_cells_len]
            show i * 1 + (l.length - i) * 1 ≤ c * 1
            omega)
        rw [Nat.mul_one] at ho2
        have hgb : base ≤ g := hg1
        have hk2 := hk.trans (Kept.setCells wr g i (Builtin.zeroCells (Value.int .i64 0).cells (l.length - i)).toList (N := fun q => (Value.slice (some ⟨g, 0, none⟩) l.length c).ownBlock ≠ some q) fun hn => hn rfl)
        have hb2 := Mx.Below.setCells (Builtin.zeroCells (Value.int .i64 0).cells (l.length - i)).toList hbel (o := i) hgb
        obtain ⟨ZL, hZL⟩ : ∃ z, z = (Builtin.zeroCells (Value.int .i64 0).cells (l.length - i)).toList := ⟨_, rfl⟩
        rw [← hZL] at hcl ho2 hk2 hb2
        have e1 : (R.map irow).take i = (l.filter fun x => !P x).map irow := by
          rw [← List.map_take, HR.out.1, List.take_length]
        rw [e1] at ho2
        have HO := hid (And.intro (ownG_I ho2) (And.intro hk2 hb2))
        clear hZL ho2 hk2 hb2 e1 ho hk hbel h1
        go_wp2_with fail
        go_ret
        exact ⟨_, rfl, HO.out.1, HO.out.2.1, HO.out.2.2, fun q e => e⟩
end Go.Proofs.Ytbklhhmcigangaa
