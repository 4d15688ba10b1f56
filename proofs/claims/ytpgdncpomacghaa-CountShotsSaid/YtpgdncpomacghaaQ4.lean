import Derived.Test.YtpgdncpomacghaaQ3
namespace Go.Mx
open Go.RowKit
/-- 'append(out, xs...)' of rows that can be read -/
theorem append_sg {P : Program} (w : World) {ops : Array Oper} {rest : List Oper} {o : Oper} {a : Act} {Q : Exit → Act → World → Prop} (hgd : o.guard = none) (s x : Operand) (t e : TypeId) (z : Value) (sz bytes : Nat)
    (ho : o.op = .call { callee := .builtin .append, args := #[s, x], argTypes := #[t, t] })
    (ht : P.underlying t = some (.slice e)) (hi : (P.info? e).map (fun i => (i.zero, i.size, i.bytes)) = some (some z, sz, bytes)) (hz : z.cells.size = sz) (hsz : 0 < sz)
    (base : Nat) (v : Value) (rows : List (List Value)) (hs : a.eval s = v) (hown : OwnG w base e sz v rows) (B : Nat) (v2 : Value) (rows2 : List (List Value)) (hx : a.eval x = v2) (hsl : SlG w B sz v2 rows2) (hrl : ∀ r ∈ rows2, r.length = sz)
    (hone : ∀ r ∈ rows2, ∀ u ∈ r, u.oneCell' = true)
    (hlen : (rows.length + rows2.length) * bytes ≤ 140737488355328) (hlen2 : rows.length + rows2.length ≤ 140737488355328) (hB : base ≤ w.heap.size)
    (h : ∀ v' w', OwnG w' base e sz v' (rows ++ rows2) → w.grownBy w' v.ownBlock → Below base w w' → wpList P ops Q rest (a.put o.dst v') w') : wpList P ops Q (o :: rest) a w := by
  refine wpList_plain hgd fun K hK => ?_
  have := step_append_sg (P := P) (ops := #[]) (E := True) (Q := Q) w (o := o) (a := a) (K := K) hgd s x t e z sz bytes ho ht hi hz hsz base v rows hs hown B v2 rows2 hx hsl hrl hone hlen hlen2 hB (fun v' w' h1 h2 h3 => hK _ _ (h v' w' h1 h2 h3))
  rwa [if_pos (show Region.wanted o (yielded #[] a.tmps) = true by simp [Region.wanted, hgd])] at this
end Go.Mx
namespace Go.Proofs.Ytpgdncpomacghaa
open Go.RowKit Go.Mx Go.Cnt
set_option linter.unusedSimpArgs false
set_option linter.unusedVariables false
theorem Try.info65 : (Try.prog.info? 65).map (fun i => (i.zero, i.size, i.bytes)) = some (some (.agg #[.int .i64 0, .int .i64 0]), 2, 16) := by kernel_rfl
theorem Try.info56 : (Try.prog.info? 56).map (fun i => (i.zero, i.size, i.bytes)) = some (some (.agg #[.string ⟨#[]⟩, .bool false, .slice none 0 0]), 3, 48) := by kernel_rfl
set_option maxRecDepth 100000 in
set_option maxHeartbeats 2000000 in
theorem copyMaps_any (ms : List MapM) (mv : Value) (w : World) (hm : IsMaps w w.heap.size mv ms) (hl : ms.length ≤ 20) (hls : ∀ j, j < ms.length → (ms.getD j default).l.length ≤ 500) :
    Calls Try.prog 41 #[mv] w fun e w' => ∃ oa n c, e = .returned (.slice oa n c) ∧ Below w.heap.size w w' := by
  have hlen := fun w' => hm.len w' (ty := 3)
  have HM := hid (And.intro hm hls)
  obtain ⟨ma, mn, mc, hmv⟩ : ∃ oa n c, mv = .slice oa n c := by obtain ⟨lvs, _, ⟨oa, cap, h, _⟩, _⟩ := hm; exact ⟨_, _, _, h⟩
  subst hmv
  clear hm hls
  go_enter Try.func41, Try.ntmps41
  go_wp2_with fail
  go_loopw [3, 4] (fun s3 s4 wr => ∃ (k : Nat) (oa : Option Addr) (on oc : Nat) (rows : List (List Value)), s3 = .slice oa on oc ∧ s4 = .int .i64 k ∧ k ≤ ms.length ∧ rows.length = k ∧ OwnG wr w.heap.size 56 3 (.slice oa on oc) rows ∧ Below w.heap.size w wr) (fun _ s4 _ => ms.length - (intOf s4).toNat)
  case atStart => exact ⟨0, _, _, _, [], rfl, rfl, by omega, rfl, OwnG.nil _ _ _ _, Below.refl _ _⟩
  case round =>
    obtain ⟨k, oa, on, oc, rows, rfl, rfl, hk, hrows, hown, hbl⟩ := hrel
    by_cases hlt : k < ms.length
    · obtain ⟨b, o, lv, hbb, hia, d0, d1, d2, hlv⟩ := (HM.out.1.below hbl (Nat.le_refl _)).at k hlt
      have hll := HM.out.2 k hlt
      obtain ⟨S, hS⟩ : ∃ S, S = ms.getD k default := ⟨_, rfl⟩
      rw [← hS] at d0 d1 hlv hll
      clear hS
      obtain ⟨nm, oB, l⟩ := S
      simp only at d0 d1 hlv hll
      obtain ⟨la, ln, lc, hlvv⟩ : ∃ oa n c, lv = .slice oa n c := by obtain ⟨oa, cap, h, _⟩ := hlv; exact ⟨_, _, _, h⟩
      subst hlvv
      have hA1 : Below wr.heap.size wr (wr.alloc (.cells #[.string ⟨nm.toArray⟩, .bool oB, .slice la ln lc] 56)) := (Below.refl _ _).alloc (Nat.le_refl _) _
      have hA2 : Below wr.heap.size wr ((wr.alloc (.cells #[.string ⟨nm.toArray⟩, .bool oB, .slice la ln lc] 56)).alloc (.cells #[] 65)) := hA1.alloc hA1.size _
      have hE1 : OwnG ((wr.alloc (.cells #[.string ⟨nm.toArray⟩, .bool oB, .slice la ln lc] 56)).alloc (.cells #[] 65)) (wr.heap.size + 1) 65 2 (.slice (some ⟨wr.heap.size + 1, 0, none⟩) 0 0) [] := by
        have := OwnG.empty (wr.alloc (.cells #[.string ⟨nm.toArray⟩, .bool oB, .slice la ln lc] 56)) 65 2
        rwa [World.size_alloc] at this
      have hE2 : SlG ((wr.alloc (.cells #[.string ⟨nm.toArray⟩, .bool oB, .slice la ln lc] 56)).alloc (.cells #[] 65)) wr.heap.size 2 (.slice la ln lc) (l.map spanC) := (SlG.mono hlv hbl.size).below hA2 (Nat.le_refl _)
      have hrl : ∀ r ∈ l.map spanC, r.length = 2 := by intro r hr; simp at hr; obtain ⟨x, y, _, rfl⟩ := hr; rfl
      have hone : ∀ r ∈ l.map spanC, ∀ u ∈ r, u.oneCell' = true := by intro r hr u hu; simp at hr; obtain ⟨x, y, _, rfl⟩ := hr; simp [spanC] at hu; rcases hu with rfl | rfl <;> rfl
      have hl1 : (([] : List (List Value)).length + (l.map spanC).length) * 16 ≤ 140737488355328 := by rw [List.length_map]; simp only [List.length_nil]; omega
      have hl2 : ([] : List (List Value)).length + (l.map spanC).length ≤ 140737488355328 := by rw [List.length_map]; simp only [List.length_nil]; omega
      have hB : wr.heap.size + 1 ≤ ((wr.alloc (.cells #[.string ⟨nm.toArray⟩, .bool oB, .slice la ln lc] 56)).alloc (.cells #[] 65)).heap.size := by simp
      have hqA : ((wr.alloc (.cells #[.string ⟨nm.toArray⟩, .bool oB, .slice la ln lc] 56)).alloc (.cells #[] 65)).heap[wr.heap.size]? = some (.cells #[.string ⟨nm.toArray⟩, .bool oB, .slice la ln lc] 56 (0, 0)) := by
        have h1 : Below (wr.heap.size + 1) (wr.alloc (.cells #[.string ⟨nm.toArray⟩, .bool oB, .slice la ln lc] 56)) ((wr.alloc (.cells #[.string ⟨nm.toArray⟩, .bool oB, .slice la ln lc] 56)).alloc (.cells #[] 65)) := (Below.refl _ _).alloc (by simp) _
        exact (h1.block wr.heap.size (by omega)).trans (alloc_new wr _)
      have HE := hid (And.intro hE1 (And.intro hE2 (And.intro hrl (And.intro hone (And.intro hA2 (And.intro hqA (And.intro hown hbl)))))))
      clear hA1 hA2 hE1 hE2 hrl hone hqA hlv hown hbl
      go_wp2_with (at_builtin; refine append_sg _ rfl _ _ 54 65 _ 2 16 rfl Try.underlying54 Try.info65 rfl (by decide) (wr.heap.size + 1) _ [] rfl HE.out.1 wr.heap.size _ (l.map spanC) rfl HE.out.2.1 HE.out.2.2.1 HE.out.2.2.2.1 hl1 hl2 hB ?_)
      intro v1 w5 ho5 hg5 hb5
      obtain ⟨xa, xn, xc, rfl⟩ := own_shape ho5
      have q5 : w5.heap[wr.heap.size]? = some (.cells #[.string ⟨nm.toArray⟩, .bool oB, .slice la ln lc] 56 (0, 0)) := (hb5.block wr.heap.size (by omega)).trans HE.out.2.2.2.2.2.1
      have e0 : w5.cell? ⟨wr.heap.size, 0, none⟩ = some (.string ⟨nm.toArray⟩) := by simp [World.cell?, q5]
      have e1 : w5.cell? ⟨wr.heap.size, 1, none⟩ = some (.bool oB) := by simp [World.cell?, q5]
      have e2 : w5.cell? ⟨wr.heap.size, 2, none⟩ = some (.slice la ln lc) := by simp [World.cell?, q5]
      have f2 : w5.frozen? ⟨wr.heap.size, 2, none⟩ = false := by simp [World.frozen?, q5]
      have q6 := heap_setCell_at' w5 wr.heap.size 2 (.slice xa xn xc) _ 56 (0, 0) q5
      have g0 : (w5.setCell ⟨wr.heap.size, 2, none⟩ (.slice xa xn xc)).cell? ⟨wr.heap.size, 0, none⟩ = some (.string ⟨nm.toArray⟩) := by simp [World.cell?, q6]
      have g1 : (w5.setCell ⟨wr.heap.size, 2, none⟩ (.slice xa xn xc)).cell? ⟨wr.heap.size, 1, none⟩ = some (.bool oB) := by simp [World.cell?, q6]
      have g2 : (w5.setCell ⟨wr.heap.size, 2, none⟩ (.slice xa xn xc)).cell? ⟨wr.heap.size, 2, none⟩ = some (.slice xa xn xc) := by simp [World.cell?, q6]
      have hbW : Below wr.heap.size wr (w5.setCell ⟨wr.heap.size, 2, none⟩ (.slice xa xn xc)) := (HE.out.2.2.2.2.1.trans (hb5.mono (by omega))).setCell (p := ⟨wr.heap.size, 2, none⟩) (Nat.le_refl _) _
      obtain ⟨W, hW⟩ : ∃ W, W = w5.setCell ⟨wr.heap.size, 2, none⟩ (.slice xa xn xc) := ⟨_, rfl⟩
      rw [← hW] at g0 g1 g2 hbW
      have hbZ : Below wr.heap.size wr (W.alloc (.cells #[.string ⟨nm.toArray⟩, .bool oB, .slice xa xn xc] 56)) := hbW.alloc hbW.size _
      have hownZ := HE.out.2.2.2.2.2.2.1.below hbZ (Nat.le_refl _)
      have hrc := row_cells W [.string ⟨nm.toArray⟩, .bool oB, .slice xa xn xc] 56
      have hWz : W.heap.size = w5.heap.size := by rw [hW]; simp
      rw [hWz] at hrc
      clear hWz
      have hr1 : ∀ u ∈ [Value.string ⟨nm.toArray⟩, .bool oB, .slice xa xn xc], u.oneCell' = true := by intro u hu; simp at hu; rcases hu with rfl | rfl | rfl <;> rfl
      have hm1 : (rows.length + 1) * 48 ≤ 140737488355328 := by omega
      have hm2 : rows.length + 1 ≤ 140737488355328 := by omega
      have hBZ : w.heap.size ≤ (W.alloc (.cells #[.string ⟨nm.toArray⟩, .bool oB, .slice xa xn xc] 56)).heap.size := by have := hbZ.size; have := HE.out.2.2.2.2.2.2.2.size; omega
      have HZ := hid (And.intro hownZ (And.intro hrc (And.intro hbZ hBZ)))
      clear hownZ hrc hbZ hBZ hbW ho5 hg5 hb5 q5 q6
      subst hW
      go_wp2_with (at_builtin; refine append_g _ rfl _ _ 26 56 _ 3 48 rfl Try.underlying26 Try.info56 rfl (by decide) w.heap.size _ rows rfl HZ.out.1 _ _ [.string ⟨nm.toArray⟩, .bool oB, .slice xa xn xc] rfl rfl HZ.out.2.1 hr1 hm1 hm2 HZ.out.2.2.2 ?_)
      intro v2 w6 ho6 hg6 hb6
      obtain ⟨ya, yn, yc, rfl⟩ := own_shape ho6
      have H6 := hid (And.intro ho6 ((HE.out.2.2.2.2.2.2.2.trans (HZ.out.2.2.1.mono HE.out.2.2.2.2.2.2.2.size)).trans hb6))
      clear ho6 hg6 hb6 g0 g1 g2 e0 e1 e2 f2 d0 d1 d2
      go_wp2_with fail
      go_roundw
      case rel => exact ⟨k + 1, _, _, _, _, rfl, by go_num, by omega, by simp [hrows], H6.out.1, H6.out.2⟩
      case measure => simp [intOf]; omega
    · obtain rfl : k = ms.length := by omega
      have HB := hid hbl
      clear hown hbl
      go_wp2_with fail
      go_ret
      exact ⟨_, _, _, rfl, HB.out⟩
end Go.Proofs.Ytpgdncpomacghaa
