import Derived.Test.YtgkabcaodnofnaaGreatWA
namespace Go.Proofs.YtgkabcaodnofnaaGreat
open Go.RowKit Go.Mx Go.Md
set_option linter.unusedVariables false
set_option linter.unusedSimpArgs false
variable {w w' : World} {base am mb : Nat} {S : IL} {xs : List XI}
theorem Mod0.kept {N : Nat → Prop} (h : Mod0 w mb am) (hk : Kept w w' N) (hN : N mb) : Mod0 w' mb am := by
  obtain ⟨c, h1, h2⟩ := h
  exact ⟨c, (hk.block mb (blk_lt h1) hN).trans h1, h2⟩
/-- the two blocks that a write changes -/
abbrev NW (x : XI) : Nat → Prop := fun q => q ≠ x.ib ∧ q ≠ x.x.om
theorem II.nw {ib : Nat} {i : IM} {x : IX} (h : II w base ib i x) : ∀ q c t f, w.heap[q]? = some (.cells c t f) → t ≠ 87 → q ≠ ib ∧ q ≠ x.om := fun q c t f hq ht => by
  refine ⟨fun e => ?_, fun e => ?_⟩
  · rw [e, h.ck] at hq; cases hq; exact ht rfl
  · obtain ⟨es, mc, hm⟩ := h.own.g.isMap
    rw [e, hm] at hq; cases hq
theorem II.ni {ib : Nat} {i : IM} {x : IX} (h : II w base ib i x) : NI w (fun q => q ≠ ib ∧ q ≠ x.om) := fun b c t f hb ht => h.nw b c t f hb (by rcases ht with rfl | rfl | rfl <;> decide)
theorem fp_split (ib : Nat) (x : IX) (b : Nat) (h : b ∉ x.fp ib) : b ≠ ib ∧ b ≠ x.om := by
  unfold IX.fp at h
  simp only [List.mem_cons, not_or] at h
  exact ⟨h.1, h.2.1⟩
theorem fp_sm {ib : Nat} {x : IX} (h : (x.fp ib).Nodup) : x.om ∉ x.ss.map (·.m) := by
  unfold IX.fp at h
  intro hm
  have h1 := (List.nodup_cons.1 (List.nodup_cons.1 h).2).1
  exact h1 (List.mem_append_left _ hm)
theorem AM.fpn (hnd : (fpA am xs).Nodup) {x : XI} (hx : x ∈ xs) : (x.x.fp x.ib).Nodup := by
  have h3 := (List.nodup_cons.1 hnd).2
  clear hnd
  induction xs with
  | nil => cases hx
  | cons a r ih =>
    rw [List.flatMap_cons, List.nodup_append] at h3
    rcases List.mem_cons.1 hx with rfl | hx'
    · exact h3.1
    · exact ih hx' h3.2.1
set_option maxRecDepth 100000 in
set_option maxHeartbeats 1000000 in
/-- function 81 -/
theorem write_any (d : Nat) (hA : AM w base am S xs) (hm : Mod0 w mb am) (hnd : (fpA am xs).Nodup) (hbase : base ≤ w.heap.size) {x : XI} (hx : x ∈ xs) (hd : dep S d x.n) (a n : Nat) {bv : Value} {b : Bs} (hb : SlN w (NW x) bv b)
    (hbl : b.length = n * 16) (hs : a + n ≤ x.i.size) :
    Calls Tryz.prog 81 #[pt mb, pt x.ib, .int .i64 a, bv] w fun e w' => e = .returned (.tuple #[]) ∧ ∃ x', II w' base x.ib (writeI S d x.i a b) x' ∧ IOk (writeI S d x.i a b) ∧ x'.om = x.x.om ∧ x'.ss = x.x.ss ∧ x'.sv = x.x.sv ∧ Kept w w' (NW x) := by
  have hII := hA.i x hx
  have hok := hA.ok x hx
  have hfs := hA.find hx
  obtain ⟨hW1, hW2⟩ := two_pow6 hok.cl
  obtain ⟨W, hW⟩ : ∃ W : Nat, W = 2 ^ x.i.cl := ⟨_, rfl⟩
  rw [← hW] at hW1 hW2
  have hsz := hok.size
  obtain ⟨c0, c1, c2, c3, c4, c5, cf⟩ := hII.cells
  obtain ⟨stop, hstop⟩ : ∃ x, x = a + n := ⟨_, rfl⟩
  have HSP := hid (split_any a n x.i.cl w hok.cl (by omega) (by omega))
  rw [← hW, ← hstop] at HSP
  have hwr : writeI S d x.i a b = wrI S d (pcs W a stop) b x.i := by unfold writeI; rw [hbl, Nat.mul_div_cancel _ (by omega), ← hW, ← hstop]
  obtain ⟨iZ, hiZ⟩ : ∃ i, i = writeI S d x.i a b := ⟨_, rfl⟩
  rw [← hiZ] at hwr ⊢
  obtain ⟨oa, bn, bc, rfl, hbn⟩ : ∃ oa bn bc, bv = .slice oa bn bc ∧ bn = n * 16 := by
    obtain ⟨oa, cap, e, _⟩ := hb.slB
    exact ⟨oa, _, cap, e, hbl⟩
  have hq : IntKind.i64.wrap ((bn : Int) / 16) = (n : Int) := by rw [show (bn : Int) / 16 = (n : Int) by omega, IntWalk.i64_in _ (by omega)]
  have hstop1 : stop ≤ x.i.size := by omega
  have hstop2 : a ≤ stop := by omega
  have hstop3 : stop = a + n := hstop
  have H0 := hid (And.intro hA (And.intro hm (And.intro hnd (And.intro hII (And.intro hok (And.intro hfs (And.intro hd (And.intro hb (And.intro hbl hW)))))))))
  have HR := hid hwr
  clear hA hm hnd hII hok hfs hd hb hwr hiZ hstop hW hbl hbn
  go_enter Tryz.func81, Tryz.ntmps81
  go_wp2_with fail
  refine HSP.out.mono ?_
  rintro e w2 ⟨v2, rfl, ho2, hb2⟩
  obtain ⟨pa, pn, pc, rfl⟩ := ownG_sh ho2
  have hlen := SlG.len (P := Tryz.prog) (ty := 3) ho2.slG Tryz.underlying112 w2
  rw [List.length_map] at hlen
  obtain ⟨N, hN⟩ : ∃ N, N = (pcs W a stop).length := ⟨_, rfl⟩
  rw [← hN] at hlen
  have H1 := hid (And.intro ho2 (And.intro hb2 hN))
  have HL := hid hlen
  clear ho2 hb2 hN c1 c2 c3 c4 c5 HSP hq
  go_wp2_with fail
  go_loopw [10, 28] (fun s10 s28 wr => ∃ (j pos F : Nat) (ij : IM) (xj : IX), s28 = .int .i64 j ∧ s10 = .int .i64 F ∧ F = (pos - a) * 16 ∧ a ≤ pos ∧ pos ≤ stop ∧ j ≤ N ∧ (pcs W a stop).drop j = pcs W pos stop ∧ Hid (iZ = wrI S d (pcs W pos stop) (b.drop F) ij) ∧
    ij.cl = x.i.cl ∧ ij.size = x.i.size ∧ ij.back = x.i.back ∧ IOk ij ∧ II wr base x.ib ij xj ∧ xj.om = x.x.om ∧ xj.ss = x.x.ss ∧ xj.sv = x.x.sv ∧ Kept w wr (NW x) ∧ OwnG wr w.heap.size 116 3 (.slice pa pn pc) ((pcs W a stop).map (prow W))) (fun _ s28 _ => N - (intOf s28).toNat)
  case atStart =>
    exact ⟨0, a, 0, x.i, x.x, rfl, rfl, by omega, by omega, by omega, by omega, rfl, HR.out, rfl, rfl, rfl, H0.out.2.2.2.2.1, H0.out.2.2.2.1.below H1.out.2.1, rfl, rfl, rfl, Kept.of_below H1.out.2.1 fun k hk _ => hk, H1.out.1⟩
  case round =>
    obtain ⟨j, pos, F, ij, xj, rfl, rfl, hFe, hp1, hp2, hjN, hdr, hwr, hcl, hsi, hbk, hokj, hIIj, hom, hss, hsv, hkw, hop⟩ := hrel
    by_cases hlt : pos < stop
    · obtain ⟨k, hk1, hk2, hk3, hj, hgd, hdr2, hst⟩ := pcs_at (W := W) (by omega) hdr hlt
      rw [← H1.out.2.2] at hj
      obtain ⟨Q, hQ⟩ : ∃ Q, Q = pos / W := ⟨_, rfl⟩
      obtain ⟨R, hR⟩ : ∃ R, R = pos % W := ⟨_, rfl⟩
      rw [← hQ, ← hR] at hgd
      rw [← hR] at hk3
      have hQR : Q * W + R = pos := by rw [hQ, hR]; have := Nat.div_add_mod pos W; rw [Nat.mul_comm] at this; exact this
      have hQ2 : Q * W + W ≤ x.i.size := by
        have hwh := H0.out.2.2.2.2.1.whole
        have hWW := H0.out.2.2.2.2.2.2.2.2.2
        rw [← hWW] at hwh
        have h1 : x.i.size = x.i.size / W * W := by have := Nat.div_add_mod x.i.size W; rw [hwh, Nat.mul_comm] at this; omega
        have h2 : Q < x.i.size / W := by rw [hQ]; exact Nat.div_lt_of_lt_mul (by rw [Nat.mul_comm, ← h1]; omega)
        have h3 : (Q + 1) * W ≤ x.i.size / W * W := Nat.mul_le_mul_right W h2
        rw [Nat.succ_mul] at h3; omega
      obtain ⟨QW, hQW⟩ : ∃ z, z = Q * W := ⟨_, rfl⟩
      rw [← hQW] at hQR hQ2
      have hQb : Q ≤ 4096 := by have := Nat.div_le_self pos W; omega
      have hjl : j < ((pcs W a stop).map (prow W)).length := by rw [List.length_map, ← H1.out.2.2]; exact hj
      obtain ⟨wA, hwA⟩ : ∃ x, x = wr.alloc (.cells #[.int .i64 Q, .int .i64 R, .int .i64 k] 116) := ⟨_, rfl⟩
      have hbA : Below wr.heap.size wr wA := by rw [hwA]; exact (Below.refl _ _).alloc (Nat.le_refl _) _
      have hqA : wA.heap[wr.heap.size]? = some (.cells #[.int .i64 Q, .int .i64 R, .int .i64 k] 116 (0, 0)) := by rw [hwA]; exact alloc_new wr _
      rcases hop.shape with ⟨_, he⟩ | ⟨g, cc, he, hg, _⟩
      · rw [he] at hjl; simp at hjl
      rw [List.length_map, ← H1.out.2.2] at he
      simp only [Value.slice.injEq] at he
      obtain ⟨rfl, rfl, rfl⟩ := he
      have hjm : j < 9223372036854775807 := by have h1 := hop.parts; have h2 := h1.1; have h3 := h1.2.2.1; have h4 := h1.2.2.2.1; unfold maxLen at h4; rw [List.length_map, ← H1.out.2.2] at h2 h3; omega
      have hia := hop.addr (P := Tryz.prog) Tryz.underlying112 size116 j hjl
      have hra := hop.rangeAt j hjl
      rw [hgd] at hra
      have c0 : wr.cell? ⟨g, j * 3, none⟩ = some (.int .i64 Q) := hra 0 _ rfl
      have c1 := hra 1 _ rfl
      have c2 := hra 2 _ rfl
      obtain ⟨o, ho⟩ : ∃ o, o = j * 3 := ⟨_, rfl⟩
      rw [← ho] at hia c0 c1 c2
      have hqa : ∀ t u, (#[Value.int .i64 Q, .int .i64 R, .int .i64 k] : Array Value)[t]? = some u → wA.cell? ⟨wr.heap.size, t, none⟩ = some u := fun t u hu => by simp only [World.cell?, hqA]; simpa using hu
      have hmin : min x.i.cl 64 = x.i.cl := Nat.min_eq_left (by have := H0.out.2.2.2.2.1.cl; omega)
      have hsum : IntKind.i64.wrap ((Q : Int) * 2 ^ min x.i.cl 64) = (QW : Int) := by
        rw [hmin, shl_nat, ← H0.out.2.2.2.2.2.2.2.2.2, ← hQW, IntWalk.i64_in _ (by omega)]
      have hone : IntKind.i64.wrap ((2 : Int) ^ min x.i.cl 64) = (W : Int) := by
        rw [hmin]
        have := shl_nat 1 x.i.cl
        rw [Nat.one_mul, ← H0.out.2.2.2.2.2.2.2.2.2] at this
        simp only [Int.one_mul, Int.natCast_one] at this
        rw [this, IntWalk.i64_in _ (by omega)]
      have F0 : ∀ w', Below wA.heap.size wA w' → w'.cell? ⟨x.ib, 0, none⟩ = some (.int .i64 x.i.cl) := fun w' h => by rw [← hcl]; exact ((hIIj.below hbA).below h).cells.1
      have F1 : ∀ w', Below wA.heap.size wA w' → w'.cell? ⟨x.ib, 1, none⟩ = some (.int .i64 x.i.size) := fun w' h => by rw [← hsi]; exact ((hIIj.below hbA).below h).cells.2.1
      have F3 : ∀ w', Below wA.heap.size wA w' → w'.cell? ⟨x.ib, 3, none⟩ = some (.map (some x.x.om)) := fun w' h => by rw [← hom]; exact ((hIIj.below hbA).below h).cells.2.2.2.1
      have G0 : ∀ w', Below wA.heap.size wA w' → w'.cell? ⟨wr.heap.size, 0, none⟩ = some (.int .i64 Q) := fun w' h => (World.cell?_of_block (h.block _ (blk_lt hqA))).trans (hqa 0 _ rfl)
      have G1 : ∀ w', Below wA.heap.size wA w' → w'.cell? ⟨wr.heap.size, 1, none⟩ = some (.int .i64 R) := fun w' h => (World.cell?_of_block (h.block _ (blk_lt hqA))).trans (hqa 1 _ rfl)
      have G2 : ∀ w', Below wA.heap.size wA w' → w'.cell? ⟨wr.heap.size, 2, none⟩ = some (.int .i64 k) := fun w' h => (World.cell?_of_block (h.block _ (blk_lt hqA))).trans (hqa 2 _ rfl)
      have hAr : AM wr base am (setI S x.n ij) (repl xs ⟨x.n, ij, x.ib, xj⟩) := H0.out.1.set H0.out.2.2.1 hx hkw (fun b _ hb => fp_split _ _ b hb) H0.out.2.2.2.1.ni hIIj hokj
      have hmb : NW x mb := by
        obtain ⟨c, h1, _⟩ := H0.out.2.1
        exact H0.out.2.2.2.1.nw mb c 73 _ h1 (by decide)
      have hmr : Mod0 wr mb am := H0.out.2.1.kept hkw hmb
      have hd2 : dep (setI S x.n ij) d ij.back := by
        obtain ⟨e, h1, h2, _⟩ := dep_min H0.out.2.2.2.2.2.1 H0.out.2.2.2.2.2.2.1
        rw [hbk]
        refine dep_same (fun m => ?_) d _ (dep_le h2 (by omega))
        rw [fnd_setI]
        split
        · rename_i e; rw [e, H0.out.2.2.2.2.2.1]; simp [hbk]
        · rfl
      have hsc : secIn (setI S x.n ij) d ij ij.size ij.own = secIn S d ij ij.size ij.own := secIn_congr rfl (by rw [hbk]; exact secOf_back (fun m hm => by rw [fnd_setI, if_neg hm]) H0.out.2.2.2.2.2.1 H0.out.2.2.2.2.2.2.1) _ _
      obtain ⟨X, hX⟩ : ∃ X, X = secs (secIn S d ij ij.size ij.own) QW W := ⟨_, rfl⟩
      have hXl : X.length = 16 * W := by rw [hX]; exact secs_len (fun s => secIn_len (fun n i h => ⟨_, (H0.out.1.oks n i h).own⟩) d ij ij.size ij.own ⟨_, hokj.own⟩ s) W QW
      have HC := hid (fun w' (hB : Below wA.heap.size wA w') => by
        have := sho_all d w' base mb am _ _ ij x.ib base xj.om ij.size _ ij.own xj.ol QW W ((hmr.below hbA).below hB) ((hAr.below hbA).below hB) ((hIIj.below hbA).below hB).ic ((hIIj.below hbA).below hB).own hokj.own hokj.cl hokj.nb hd2 hokj.size (by omega) (by omega)
        rw [hsc, ← hX, hom, hsi] at this
        exact this)
      have HP := hid (And.intro hop (And.intro hIIj (And.intro hokj (And.intro hkw (And.intro hwA (And.intro hbA (And.intro hqA (And.intro hdr2 (And.intro hst (And.intro hgd (And.intro ho (And.intro hX (And.intro hXl (And.intro hQ (And.intro hR hQW)))))))))))))))
      have HE := hid (And.intro hwr.out (And.intro hcl (And.intro hsi (And.intro hbk (And.intro hom (And.intro hss (And.intro hsv hFe)))))))
      have a0 := hqa 0 _ rfl
      have a1 := hqa 1 _ rfl
      have a2 := hqa 2 _ rfl
      rw [hwA] at a0 a1 a2
      clear hop hIIj hokj hkw hbA hdr hdr2 hst hgd ho hX hXl hQ hR hQW hAr hmb hmr hd2 hsc hqa hra hwr hcl hsi hbk hom hss hsv hFe hqA hjl hlen cf hwA hmin
      go_upto_region 5 with (fail)
      rw [← HP.out.2.2.2.2.1]
      clear a0 a1 a2 c0 c1 c2 hia
      go_region_held (fun w' => Below wA.heap.size wA w') (first | exact (Below.refl _ _).drew | assumption | exact Below.drew (by assumption)) (first
        | (go_at_call 27; refine (HC.out _ (by assumption)).mono ?_; rintro e w5 ⟨v5, rfl, ho5c, hb5c⟩; have ho5 := ho5c.any_base (Below.size (by assumption)); have hb5 : Below wA.heap.size wA w5 := Below.trans (by assumption) (hb5c.mono (Below.size (by assumption)))))
      obtain ⟨hop, hIIj, hokj, hkw, hwA, hbA, hqA, hdr2, hst, hgd, ho, hX, hXl, hQ, hR, hQW⟩ := HP.out
      obtain ⟨hwr, hcl, hsi, hbk, hom, hss, hsv, hFe⟩ := HE.out
      obtain ⟨gx, hgx⟩ := ho5.f
      subst hgx
      have hblk := OwnB.full ho5.o
      have hgge : wA.heap.size ≤ gx := by
        rcases ho5.o.shape with ⟨he, _⟩ | ⟨g', cap', he, h9, _⟩
        · cases he
        · cases he; exact h9
      have hkw5 : Kept w w5 (NW x) := hkw.trans (Kept.of_below (hbA.trans (hb5.mono hbA.size)) fun k hk _ => hk)
      have hbv5 := (H0.out.2.2.2.2.2.2.2.1.kept hkw5)
      obtain ⟨pv, hpv, hpr⟩ := hbv5.slB.part (P := Tryz.prog) Tryz.underlying23 size5' F (F + k * 16) (by omega) (by have := H0.out.2.2.2.2.2.2.2.2.1; omega)
      rw [List.drop_take, show F + k * 16 - F = k * 16 by omega] at hpv
      have hpl : ((b.drop F).take (k * 16)).length = k * 16 := by
        have := H0.out.2.2.2.2.2.2.2.2.1
        rw [List.length_take, List.length_drop]; omega
      have hsf := slice_from gx X.length (R * 16) (by omega)
      have d0 := G0 _ hb5
      have d1 := G1 _ hb5
      have d2 := G2 _ hb5
      have hR16 : IntKind.i64.wrap ((R : Int) * 16) = ((R * 16 : Nat) : Int) := by rw [IntWalk.i64_in _ (by omega)]; omega
      have hk16 : IntKind.i64.wrap ((k : Int) * 16) = (k : Int) * 16 := by rw [IntWalk.i64_in _ (by omega)]
      have hFk : IntKind.i64.wrap ((F : Int) + (k : Int) * 16) = (F : Int) + (k : Int) * 16 := by rw [IntWalk.i64_in _ (by omega)]
      push_cast at hpr hR16 hsf
      have HB := hid (And.intro hblk (And.intro hpv (And.intro hpl (And.intro hkw5 (And.intro hb5 hgge)))))
      obtain ⟨XL, hXL⟩ : ∃ z, z = X.length := ⟨_, rfl⟩
      rw [← hXL] at hsf hXl
      rw [← hXL]
      have HXL := hid (And.intro hXL hXl)
      clear hop hIIj hokj hkw hwA hbA hqA hdr2 hst hgd ho hX hQ hR hQW hwr hcl hsi hbk hom hss hsv hblk hpv hpl hkw5 hbv5 ho5c ho5 hb5 hb5c G0 G1 G2 F0 F1 F3 hXL hFe hXl
      go_upto_region 6 with (fail)
      have HE1 : Hid (∀ Z : World, (Z = w5 ∨ Z = w5.drew) → SlB Z w5.heap.size pv ((b.drop F).take (k * 16)) ∧ Z.heap[gx]? = some (.cells (X.map u8).toArray 5 (0, 0))) := hid fun Z hZ => by
        rcases hZ with rfl | rfl
        · exact ⟨HB.out.2.1, HB.out.1⟩
        · exact ⟨HB.out.2.1.below (Below.refl _ _).drew (Nat.le_refl _), HB.out.1⟩
      have hL1 : ((b.drop F).take (k * 16)).length ≤ XL - R * 16 := by have := HXL.out.2; rw [HB.out.2.2.1]; omega
      have hL2 : R * 16 + ((b.drop F).take (k * 16)).length ≤ X.length := by have := HXL.out.2; rw [HB.out.2.2.1, ← HXL.out.1]; omega
      have HL12 := hid (And.intro hL1 hL2)
      clear hL1 hL2
      go_region_law (first
        | (refine step_copy_b (by rfl) (.tmp 59) (.tmp 67) 23 23 (by rfl) 5 Tryz.underlying23 size5 gx (R * 16) (XL - R * 16) (XL - R * 16) pv ((b.drop F).take (k * 16)) X w5.heap.size 5 (by rfl) (by rfl) (HE1.out _ (by first | exact Or.inl rfl | exact Or.inr rfl)).1 (HE1.out _ (by first | exact Or.inl rfl | exact Or.inr rfl)).2 HL12.out.1 HL12.out.2 ?_; intro w7 hg7 hk7 hb7))
      all_goals
        replace hk7 := (Kept.drew _ _).trans hk7
        obtain ⟨hop, hIIj, hokj, hkw, hwA, hbA, hqA, hdr2, hst, hgd, ho, hX, hXl, hQ, hR, hQW⟩ := HP.out
        obtain ⟨hwr, hcl, hsi, hbk, hom, hss, hsv, hFe⟩ := HE.out
        obtain ⟨hblk, hpv, hpl, hkw5, hb5, hgge⟩ := HB.out
        have hlt5 : wr.heap.size < w5.heap.size := Nat.lt_of_lt_of_le (blk_lt hqA) hb5.size
        have hltA : wr.heap.size < wA.heap.size := blk_lt hqA
        have hb7' : Below wr.heap.size wr w7 := hb7 _ _ ((hbA.trans (hb5.mono hbA.size)).drew) (by omega)
        have e0 : w7.cell? ⟨wr.heap.size, 0, none⟩ = some (.int .i64 Q) := (hk7.cell hlt5 (by omega)).trans d0
        have e2 : w7.cell? ⟨wr.heap.size, 2, none⟩ = some (.int .i64 k) := (hk7.cell hlt5 (by omega)).trans d2
        obtain ⟨Y, hY⟩ : ∃ Y, Y = splice X (R * 16) ((b.drop F).take (k * 16)) := ⟨_, rfl⟩
        have hYl : Y.length = 16 * W := by rw [hY, length_splice _ _ _ HL12.out.2]; exact hXl
        have hoY : OwnB w7 base 5 (.slice (some ⟨gx, 0, none⟩) XL XL) Y := OwnB.ofFull (by rw [hY]; exact hg7.out) (by rw [hYl, HXL.out.2]) (by have := hbA.size; have := hkw.size; omega) (by rw [HXL.out.2]; unfold maxLen; omega)
        have hII7 := hIIj.below hb7'
        have hkw7 : Kept w w7 (NW x) := hkw.trans (Kept.of_below hb7' fun k hk _ => hk)
        have hsm : xj.om ∉ xj.ss.map (·.m) := by rw [hom, hss]; exact fp_sm (AM.fpn H0.out.2.2.1 hx)
        have hWW := H0.out.2.2.2.2.2.2.2.2.2
        have hQn : Q < ij.size / 2 ^ ij.cl := by
          rw [hcl, hsi, ← hWW]
          exact (Nat.le_div_iff_mul_le (by omega)).2 (by rw [Nat.succ_mul, ← hQW]; exact hQ2)
        have HU := hid (put_any hII7 (Nat.le_trans hbase hkw7.size) hsm (by omega : Q ≤ 1000000) (Nat.le_trans (hII7.own.len hokj.own) (Nat.le_trans (Nat.div_le_self _ _) (by omega))) hoY)
        have hok9 := putI_ok hokj hQn (bs := Y) (by rw [hYl, hcl, ← hWW])
        have hwr9 : iZ = wrI S d (pcs W (pos + k) stop) (b.drop (F + k * 16)) (putI ij Q Y) := by
          rw [hwr, hst]
          show wrI S d _ _ (putI ij (pos / 2 ^ ij.cl) (splice (secs (secIn S d ij ij.size ij.own) (pos / 2 ^ ij.cl * 2 ^ ij.cl) (2 ^ ij.cl)) (pos % 2 ^ ij.cl * 16) ((b.drop F).take (k * 16)))) = _
          rw [hcl, ← hWW, ← hQ, ← hR, ← hQW, ← hX, ← hY, List.drop_drop]
        have hop7 := hop.below hb7' (Nat.le_refl _)
        have HZ := hid (And.intro hkw7 (And.intro hok9 (And.intro hwr9 (And.intro hop7 (And.intro hdr2 (And.intro hcl (And.intro hsi (And.intro hbk (And.intro hom (And.intro hss (And.intro hsv (And.intro hFe hII7))))))))))))
        have hFe2 := hFe
        clear hop hIIj hokj hkw hwA hbA hqA hdr2 hst hgd ho hX hXl hQ hR hQW hwr hcl hsi hbk hom hss hsv hFe hblk hpv hpl hkw5 hb5 hgge hII7 hkw7 hsm hok9 hwr9 hop7 hb7' hoY hYl hY hg7 hk7 hb7 hWW d0 d1 d2 hpr hsf hFe2
        go_wp2_with (go_at_call 102; refine HU.out.mono ?_; rintro e w8 ⟨rfl, x8, hII8, ho8, hs8, hv8, hk8⟩)
        obtain ⟨hkw7, hok9, hwr9, hop7, hdr2, hcl, hsi, hbk, hom, hss, hsv, hFe, hII7⟩ := HZ.out
        have hk8' : Kept w7 w8 (NW x) := hk8.imp fun b hb => by rw [hom]; exact hb
        exact ⟨⟨j + 1, pos + k, F + k * 16, putI ij Q Y, x8, by go_num, by go_num, by rw [hFe]; omega, by omega, by omega, by omega, hdr2, hid hwr9, hcl, hsi, hbk, hok9, hII8, ho8.trans hom, hs8.trans hss, hv8.trans hsv, hkw7.trans hk8', hop7.kept hk8' fun q hq => by
          obtain ⟨c9, f9, h9⟩ := ownG_type hop7 q hq
          have h8 := hII7.nw q c9 116 f9 h9 (by decide)
          rw [hom] at h8
          exact h8⟩, by simp [intOf]; omega⟩
    · obtain rfl : pos = stop := by omega
      have hj : j = N := by rw [H1.out.2.2]; exact pcs_over hdr (by rw [← H1.out.2.2]; exact hjN)
      have hwr9 : iZ = ij := by have := hwr.out; rw [pcs_end (Nat.le_refl _)] at this; exact this
      have HX := hid (And.intro hwr9 (And.intro hIIj (And.intro hokj (And.intro hom (And.intro hss (And.intro hsv hkw))))))
      clear hwr9 hIIj hokj hom hss hsv hkw hop hdr hwr hcl hsi hbk
      go_wp2_with fail
      go_end0
      obtain ⟨rfl, h1, h2, h3, h4, h5, h6⟩ := HX.out
      exact ⟨rfl, xj, h1, h2, h3, h4, h5, h6⟩
end Go.Proofs.YtgkabcaodnofnaaGreat
