import Derived.Test.YtpgdncpomacghaaI
namespace Go.Cnt
theorem getM_at (t : Tab) (i k : Nat) (hk : k < 8) : getM t (i * 8 + k) = (t.getD i []).getD k Ent.zero := by
  unfold getM
  rw [show (i * 8 + k) / 8 = i by omega, show (i * 8 + k) % 8 = k by omega]
theorem linesTo_skip (sh : Int) (t : Tab) (p : Nat) : ∀ d, (∀ j, j < d → isR (getM t (p + j)) = false) → linesTo sh t (p + d) = linesTo sh t p
  | 0, _ => rfl
  | d + 1, h => by
    rw [← Nat.add_assoc, linesTo_miss _ _ _ (h d (by omega))]
    exact linesTo_skip sh t p d (fun j hj => h j (by omega))
theorem linesTo_leaf (sh : Int) (t : Tab) (i k : Nat) (hk : k = min (t.getD i []).length 8) : linesTo sh t (i * 8 + k) = linesTo sh t ((i + 1) * 8) := by
  have h := linesTo_skip sh t (i * 8 + k) (8 - k) (fun j hj => by
    rw [Nat.add_assoc, getM_at t i (k + j) (by omega), List.getD_eq_getElem?_getD, List.getElem?_eq_none (by omega)]
    rfl)
  rw [show (i + 1) * 8 = i * 8 + k + (8 - k) by omega, h]
end Go.Cnt
namespace Go.Proofs.Ytpgdncpomacghaa
open Go.RowKit Go.Mx Go.Cnt Go.Shelf

theorem append_lin (w : World) {ops : Array Oper} {rest : List Oper} {o : Oper} {a : Act} {Q : Exit → Act → World → Prop} (hgd : o.guard = none) (s x : Operand)
    (ho : o.op = .call { callee := .builtin .append, args := #[s, x], argTypes := #[35, 35] })
    (base : Nat) (v : Value) (l : List Lin) (y : Lin) (hs : a.eval s = v) (hown : OwnL w base v l) (g c : Nat) (hx : a.eval x = .slice (some ⟨g, 0, none⟩) 1 c)
    (hcell : ∀ (j : Nat) (u : Value), (linC y)[j]? = some u → w.cell? ⟨g, j, none⟩ = some u) (hlen : l.length ≤ 1000000000) (hB : base ≤ w.heap.size)
    (h : ∀ v' w', OwnL w' base v' (l ++ [y]) → Below base w w' → (∀ (b : Nat) (c : Array Value) (t : TypeId) (fr : Nat × Nat), w.heap[b]? = some (Obj.cells c t fr) → t ≠ 41 → w'.heap[b]? = some (Obj.cells c t fr)) → wpList Try.prog ops Q rest (a.put o.dst v') w') : wpList Try.prog ops Q (o :: rest) a w := by
  obtain ⟨i0, hi0, hz0, hz1, hz2⟩ := info_parts Try.info41
  refine wpList_append_own w hgd s x 35 ho base 41 i0 _ 7 56 Try.underlying35 hi0 hz0 hz1 hz2 rfl (by decide) v l.length _ hs hown ⟨g, 0, none⟩ 1 c (linC y) hx rfl ?_ ?_ ?_ ?_ hB ?_
  · intro j u hj
    have e : (⟨g, 0, none⟩ : Addr).add j = ⟨g, j, none⟩ := by unfold Addr.add; split <;> simp_all
    rw [e]; exact hcell j u hj
  · intro u hu; simp [linC] at hu; rcases hu with rfl | rfl | rfl | rfl | rfl | rfl | rfl <;> rfl
  · unfold maxLen; omega
  · omega
  · intro v' w' ho' hg' _
    refine h v' w' ?_ ((Below.refl base w).grown hg' hB (fun k hk => (World.ownsRow.lt hown k hk).1)) (fun b c t fr hb ht => ?_)
    · unfold OwnL; simpa [List.flatMap_append] using ho'
    · have hob : Other [b] w := fun b' hb' => by simp at hb'; subst hb'; exact ⟨c, t, fr, hb, ht⟩
      exact (hg'.block b (Array.getElem?_eq_some_iff.1 hb).1 (hob.not_row hown b (by simp))).trans hb

set_option maxRecDepth 100000 in
set_option maxHeartbeats 2000000 in
theorem reach_any (base : Nat) (v : Value) (ls : List Lin) (sh : Int) (tv : Value) (t : Tab) (w : World) (hown : OwnL w base v ls) (hb : base ≤ w.heap.size) (ht : IsTab w base tv t) (hl : t.length ≤ 1000000) (hls : ls.length ≤ 300000000) :
    Calls Try.prog 30 #[v, .int .i64 sh, .agg #[tv]] w fun e w' => ∃ v', e = .returned v' ∧ OwnL w' base v' (ls ++ linesT sh t) ∧ Below base w w' := by
  have hlen := fun w' => ht.len w' (ty := 3)
  have hbx : (w.alloc (.cells #[tv] 24)).heap[w.heap.size]? = some (.cells #[tv] 24 (0, 0)) := World.alloc_heap_new w _
  have hb0 : Below base w (w.alloc (.cells #[tv] 24)) := (Below.refl _ _).alloc hb _
  have ho0 : OwnL (w.alloc (.cells #[tv] 24)) base v ls := hown.alloc _
  go_enter Try.func30, Try.ntmps30
  go_wp2_with fail
  go_loopw [0, 7] (fun v i wr => ∃ k : Nat, k ≤ t.length ∧ i = .int .i64 k ∧ OwnL wr base v (ls ++ linesTo sh t (k * 8)) ∧ Below base w wr ∧ wr.heap[w.heap.size]? = some (.cells #[tv] 24 (0, 0)))
    (fun _ i _ => t.length - (intOf i).toNat)
  case atStart => exact ⟨0, by omega, rfl, by simpa [linesTo_zero] using ho0, hb0, hbx⟩
  case round =>
    obtain ⟨k, hk, rfl, ho, hbel, hbx2⟩ := hrel
    clear ho0 hb0 hbx hown
    have hcx : wr.cell? ⟨w.heap.size, 0, none⟩ = some tv := by simp [World.cell?, hbx2]
    have HBX := hid hbx2
    clear hbx2
    by_cases hlt : k < t.length
    · go_wp2_with fail
      go_loopw [0, 8] (fun v i wq => ∃ j : Nat, j ≤ min (t.getD k []).length 8 ∧ i = .int .i64 j ∧ OwnL wq base v (ls ++ linesTo sh t (k * 8 + j)) ∧ Below base w wq ∧ wq.heap[w.heap.size]? = some (.cells #[tv] 24 (0, 0)))
        (fun _ i _ => 8 - (intOf i).toNat)
      case atStart => exact ⟨0, by omega, rfl, ho, hbel, HBX.out⟩
      case round =>
        obtain ⟨j, hj, rfl, ho2, hbel2, hbx3⟩ := hrel
        clear ho hbel HBX hcx
        have hcx : wr.cell? ⟨w.heap.size, 0, none⟩ = some tv := by simp [World.cell?, hbx3]
        have HBX := hid hbx3
        clear hbx3
        have hz := hbel2.size
        have hzb : w.heap.size < wr.heap.size := (Array.getElem?_eq_some_iff.1 HBX.out).1
        obtain ⟨b, o, lv, hbb, hia, hc, hlv⟩ := (ht.below hbel2 (Nat.le_refl _)).leaf k hlt
        have hll := fun w' => hlv.len w' (ty := 3)
        have hgm := getM_at t k j
        have hleaf := linesTo_leaf sh t k j
        obtain ⟨lf, hlf⟩ : ∃ lf, lf = t.getD k [] := ⟨_, rfl⟩
        rw [← hlf] at hlv hll hgm hleaf hj
        have HLF := hid hlf
        clear hlf
        by_cases hjl : j < lf.length
        · by_cases hj8 : j < 8
          · obtain ⟨b2, o2, hb2, hia2, d0, d1, d2, d3, d4⟩ := hlv.at j hjl
            have hgm := hgm hj8
            rw [← hgm] at d0 d1 d2 d3 d4
            have hhit := linesTo_hit sh t (k * 8 + j)
            have hmiss := linesTo_miss sh t (k * 8 + j)
            have hln := linesTo_len sh t (k * 8 + j)
            obtain ⟨E, hE⟩ : ∃ E, E = getM t (k * 8 + j) := ⟨_, rfl⟩
            rw [← hE] at d0 d1 d2 d3 d4 hhit hmiss
            clear hgm hE hleaf
            by_cases h2 : E.kind = 2
            · have HK2 : (E.kind == 2) = true := by simp [h2]
              clear h2
              have HH := hid (hhit (by unfold isR; rw [HK2]; simp))
              clear hhit hmiss
              have hA : OwnL ((wr.alloc (.cells #[.int .i64 E.kind, .int .i64 E.start, .int .i64 E.count, .int .i64 E.size, .int .u32 E.sum] 39)).alloc (.cells #[.int .i64 sh, .int .i64 ((k : Int) * 8 + (j : Int)), .int .i64 E.kind, .int .i64 E.start, .int .i64 E.count, .int .i64 E.size, .int .u32 E.sum] 41)) base u0 (ls ++ linesTo sh t (k * 8 + j)) := World.ownsRow.alloc (World.ownsRow.alloc ho2 _) _
              have hB : Below base wr ((wr.alloc (.cells #[.int .i64 E.kind, .int .i64 E.start, .int .i64 E.count, .int .i64 E.size, .int .u32 E.sum] 39)).alloc (.cells #[.int .i64 sh, .int .i64 ((k : Int) * 8 + (j : Int)), .int .i64 E.kind, .int .i64 E.start, .int .i64 E.count, .int .i64 E.size, .int .u32 E.sum] 41)) := ((Below.refl _ _).alloc (by omega) _).alloc (by rw [World.size_alloc]; omega) _
              have hC : ((wr.alloc (.cells #[.int .i64 E.kind, .int .i64 E.start, .int .i64 E.count, .int .i64 E.size, .int .u32 E.sum] 39)).alloc (.cells #[.int .i64 sh, .int .i64 ((k : Int) * 8 + (j : Int)), .int .i64 E.kind, .int .i64 E.start, .int .i64 E.count, .int .i64 E.size, .int .u32 E.sum] 41)).heap[w.heap.size]? = some (.cells #[tv] 24 (0, 0)) := (Below.heap_alloc _ _ _ (by rw [World.size_alloc]; omega)).trans ((Below.heap_alloc _ _ _ (by omega)).trans HBX.out)
              have hD : ∀ (j' : Nat) (u : Value), (linC ⟨sh, ((k * 8 + j : Nat) : Int), E⟩)[j']? = some u → ((wr.alloc (.cells #[.int .i64 E.kind, .int .i64 E.start, .int .i64 E.count, .int .i64 E.size, .int .u32 E.sum] 39)).alloc (.cells #[.int .i64 sh, .int .i64 ((k : Int) * 8 + (j : Int)), .int .i64 E.kind, .int .i64 E.start, .int .i64 E.count, .int .i64 E.size, .int .u32 E.sum] 41)).cell? ⟨wr.heap.size + 1, j', none⟩ = some u := by
                intro j' u hu
                rw [World.cell?_alloc_at _ _ _ _ (by rw [World.size_alloc])]
                rw [show (((k * 8 + j : Nat) : Int)) = (k : Int) * 8 + (j : Int) by omega] at hu
                simpa [linC] using hu
              have HA := hid (And.intro hA (And.intro hB (And.intro hC hD)))
              clear hA hB hC hD ho2
              go_wp2_with (at_builtin; refine append_lin _ rfl _ _ rfl base _ (ls ++ linesTo sh t (k * 8 + j)) ⟨sh, ((k * 8 + j : Nat) : Int), E⟩ rfl HA.out.1 (wr.heap.size + 1) 1 rfl HA.out.2.2.2 ?_ ?_ ?_)
              · simp; omega
              · simp; omega
              intro v' w' ho3 hb3 hk3
              have hb4 := hbel2.trans (HA.out.2.1.trans hb3)
              have hbx4 := hk3 _ _ _ _ _ HA.out.2.2.1 (by decide)
              clear hb3 hk3 HA hia hc hia2 d0 d1 d2 d3 d4 hlen hll
              go_wp2
              go_roundw
              case rel => exact ⟨j + 1, by rw [← HLF.out]; omega, by go_num, by rw [← Nat.add_assoc, HH.out, show (((k * 8 + j : Nat)) : Int) = (k : Int) * 8 + (j : Int) by omega]; exact ho3, hb4, hbx4⟩
              case measure => simp [intOf]; omega
            have hk2 : (E.kind == 2) = false := by simp [h2]
            by_cases h3 : E.kind = 3
            · have HK2 : (E.kind == 3) = true := by simp [h3]
              clear h2 h3
              have HH := hid (hhit (by unfold isR; rw [HK2]; simp))
              clear hhit hmiss
              have hA : OwnL ((wr.alloc (.cells #[.int .i64 E.kind, .int .i64 E.start, .int .i64 E.count, .int .i64 E.size, .int .u32 E.sum] 39)).alloc (.cells #[.int .i64 sh, .int .i64 ((k : Int) * 8 + (j : Int)), .int .i64 E.kind, .int .i64 E.start, .int .i64 E.count, .int .i64 E.size, .int .u32 E.sum] 41)) base u0 (ls ++ linesTo sh t (k * 8 + j)) := World.ownsRow.alloc (World.ownsRow.alloc ho2 _) _
              have hB : Below base wr ((wr.alloc (.cells #[.int .i64 E.kind, .int .i64 E.start, .int .i64 E.count, .int .i64 E.size, .int .u32 E.sum] 39)).alloc (.cells #[.int .i64 sh, .int .i64 ((k : Int) * 8 + (j : Int)), .int .i64 E.kind, .int .i64 E.start, .int .i64 E.count, .int .i64 E.size, .int .u32 E.sum] 41)) := ((Below.refl _ _).alloc (by omega) _).alloc (by rw [World.size_alloc]; omega) _
              have hC : ((wr.alloc (.cells #[.int .i64 E.kind, .int .i64 E.start, .int .i64 E.count, .int .i64 E.size, .int .u32 E.sum] 39)).alloc (.cells #[.int .i64 sh, .int .i64 ((k : Int) * 8 + (j : Int)), .int .i64 E.kind, .int .i64 E.start, .int .i64 E.count, .int .i64 E.size, .int .u32 E.sum] 41)).heap[w.heap.size]? = some (.cells #[tv] 24 (0, 0)) := (Below.heap_alloc _ _ _ (by rw [World.size_alloc]; omega)).trans ((Below.heap_alloc _ _ _ (by omega)).trans HBX.out)
              have hD : ∀ (j' : Nat) (u : Value), (linC ⟨sh, ((k * 8 + j : Nat) : Int), E⟩)[j']? = some u → ((wr.alloc (.cells #[.int .i64 E.kind, .int .i64 E.start, .int .i64 E.count, .int .i64 E.size, .int .u32 E.sum] 39)).alloc (.cells #[.int .i64 sh, .int .i64 ((k : Int) * 8 + (j : Int)), .int .i64 E.kind, .int .i64 E.start, .int .i64 E.count, .int .i64 E.size, .int .u32 E.sum] 41)).cell? ⟨wr.heap.size + 1, j', none⟩ = some u := by
                intro j' u hu
                rw [World.cell?_alloc_at _ _ _ _ (by rw [World.size_alloc])]
                rw [show (((k * 8 + j : Nat) : Int)) = (k : Int) * 8 + (j : Int) by omega] at hu
                simpa [linC] using hu
              have HA := hid (And.intro hA (And.intro hB (And.intro hC hD)))
              clear hA hB hC hD ho2
              go_wp2_with (at_builtin; refine append_lin _ rfl _ _ rfl base _ (ls ++ linesTo sh t (k * 8 + j)) ⟨sh, ((k * 8 + j : Nat) : Int), E⟩ rfl HA.out.1 (wr.heap.size + 1) 1 rfl HA.out.2.2.2 ?_ ?_ ?_)
              · simp; omega
              · simp; omega
              intro v' w' ho3 hb3 hk3
              have hb4 := hbel2.trans (HA.out.2.1.trans hb3)
              have hbx4 := hk3 _ _ _ _ _ HA.out.2.2.1 (by decide)
              clear hb3 hk3 HA hia hc hia2 d0 d1 d2 d3 d4 hlen hll
              go_wp2
              go_roundw
              case rel => exact ⟨j + 1, by rw [← HLF.out]; omega, by go_num, by rw [← Nat.add_assoc, HH.out, show (((k * 8 + j : Nat)) : Int) = (k : Int) * 8 + (j : Int) by omega]; exact ho3, hb4, hbx4⟩
              case measure => simp [intOf]; omega
            · have hk3 : (E.kind == 3) = false := by simp [h3]
              have HM := hid (hmiss (by unfold isR; rw [hk2, hk3]; rfl))
              clear h2 h3 hhit hmiss
              have ho3 : OwnL (wr.alloc (.cells #[.int .i64 E.kind, .int .i64 E.start, .int .i64 E.count, .int .i64 E.size, .int .u32 E.sum] 39)) base u0 (ls ++ linesTo sh t (k * 8 + j)) := World.ownsRow.alloc ho2 _
              have hb4 := hbel2.trans ((Below.refl base wr).alloc (by omega) (.cells #[.int .i64 E.kind, .int .i64 E.start, .int .i64 E.count, .int .i64 E.size, .int .u32 E.sum] 39))
              have hbx4 := (Below.heap_alloc wr (.cells #[.int .i64 E.kind, .int .i64 E.start, .int .i64 E.count, .int .i64 E.size, .int .u32 E.sum] 39) w.heap.size (by omega)).trans HBX.out
              have HA := hid (And.intro ho3 (And.intro hb4 hbx4))
              clear ho3 hb4 hbx4 ho2
              go_wp2
              go_roundw
              case rel => exact ⟨j + 1, by rw [← HLF.out]; omega, by go_num, by rw [← Nat.add_assoc, HM.out]; exact HA.out.1, HA.out.2.1, HA.out.2.2⟩
              case measure => simp [intOf]; omega
          · have HL := hid (hleaf (by omega))
            clear hleaf hgm
            go_wp2
            go_roundw
            case rel => exact ⟨k + 1, by omega, by go_num, by rw [← HL.out]; exact ho2, hbel2, HBX.out⟩
            case measure => simp [intOf]; omega
        · have HL := hid (hleaf (by omega))
          clear hleaf hgm
          go_wp2
          go_roundw
          case rel => exact ⟨k + 1, by omega, by go_num, by rw [← HL.out]; exact ho2, hbel2, HBX.out⟩
          case measure => simp [intOf]; omega
    · obtain rfl : k = t.length := by omega
      go_wp2
      go_ret
      exact ⟨_, rfl, ho, hbel⟩
end Go.Proofs.Ytpgdncpomacghaa
