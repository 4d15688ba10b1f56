import Derived.Test.YtgkabcaodnofnaaGreatTU
namespace Go.Proofs.YtgkabcaodnofnaaGreat
open Go.RowKit Go.Mx Go.Md
set_option linter.unusedVariables false
set_option linter.unusedSimpArgs false
/-- there is an image of that name -/
def HasN (M : MM) (c : Cm) : Prop := (fnd M.all c.name).isSome = true
theorem within_bounds {s : Nat} {a n : Int} (h : withinI s a n = true) (hs : s ≤ 4096) : a = (a.toNat : Int) ∧ n = (n.toNat : Int) ∧ a.toNat ≤ 4096 ∧ n.toNat ≤ 4096 ∧ a.toNat + n.toNat ≤ s := by
  unfold withinI at h
  simp only [Bool.and_eq_true, decide_eq_true_eq] at h
  omega
/-- a reply is laid -/
def st6 (w : World) (rb : Nat) (v0 v1 v2 v3 v4 v5 : Value) : World := (((((w.setCell ⟨rb, 0, none⟩ v0).setCell ⟨rb, 1, none⟩ v1).setCell ⟨rb, 2, none⟩ v2).setCell ⟨rb, 3, none⟩ v3).setCell ⟨rb, 4, none⟩ v4).setCell ⟨rb, 5, none⟩ v5
theorem st6_set (w : World) (rb : Nat) (v0 v1 v2 v3 v4 v5 : Value) : st6 w rb v0 v1 v2 v3 v4 v5 = w.setCells rb 0 [v0, v1, v2, v3, v4, v5] := rfl
theorem st6_kept (w : World) (rb : Nat) (v0 v1 v2 v3 v4 v5 : Value) : Kept w (st6 w rb v0 v1 v2 v3 v4 v5) (· ≠ rb) := by rw [st6_set]; exact Kept.setCells _ _ _ _ (by simp)
theorem st6_cell {w : World} {rb : Nat} {C : Array Value} {t : TypeId} (v0 v1 v2 v3 v4 v5 : Value) (h : w.heap[rb]? = some (.cells C t (0, 0))) (hC : C.size = 6) : ∀ j v, ([v0, v1, v2, v3, v4, v5] : List Value)[j]? = some v → (st6 w rb v0 v1 v2 v3 v4 v5).cell? ⟨rb, j, none⟩ = some v := fun j v hv => by
  obtain ⟨cur9, hcur9, hcl9⟩ := heap_setCells_at [v0, v1, v2, v3, v4, v5] w rb 0 C t (0, 0) h (by simp [hC])
  rw [st6_set]
  simp only [World.cell?, hcur9]
  simp only [List.take_zero, List.nil_append] at hcl9
  rw [← Array.getElem?_toList, hcl9]
  simp only [Option.isSome_none, Bool.false_eq_true, if_false]
  rw [List.getElem?_append_left (by have := (List.getElem?_eq_some_iff.1 hv).1; exact this)]
  exact hv
theorem below6 {w0 w : World} {rb : Nat} (h : Below rb w0 w) (v0 v1 v2 v3 v4 v5 : Value) : Below rb w0 ((((((w.setCell ⟨rb, 0, none⟩ v0).setCell ⟨rb, 1, none⟩ v1).setCell ⟨rb, 2, none⟩ v2).setCell ⟨rb, 3, none⟩ v3).setCell ⟨rb, 4, none⟩ v4).setCell ⟨rb, 5, none⟩ v5) :=
  Below.setCells (g := rb) (o := 0) [v0, v1, v2, v3, v4, v5] h (Nat.le_refl _)
abbrev zrep : Array Value := #[.int .i64 0, .slice none 0 0, .slice none 0 0, .slice none 0 0, .int .i64 0, .int .i64 0]
theorem zcells {w : World} {rb : Nat} (h : w.heap[rb]? = some (.cells zrep 34 (0, 0))) : w.cell? ⟨rb, 0, none⟩ = some (.int .i64 0) ∧ w.cell? ⟨rb, 1, none⟩ = some (.slice none 0 0) ∧ w.cell? ⟨rb, 2, none⟩ = some (.slice none 0 0) ∧ w.cell? ⟨rb, 3, none⟩ = some (.slice none 0 0) ∧ w.cell? ⟨rb, 4, none⟩ = some (.int .i64 0) ∧ w.cell? ⟨rb, 5, none⟩ = some (.int .i64 0) ∧ ∀ j, w.frozen? ⟨rb, j, none⟩ = false := by
  refine ⟨?_, ?_, ?_, ?_, ?_, ?_, fun j => ?_⟩ <;> simp [World.cell?, World.frozen?, h]
/-- a reply that changes nothing else -/
theorem reply_same {w w1 : World} {base mb : Nat} {M : MM} {X : MX} {rb : Nat} {v0 v1 v2 v3 v4 v5 : Value} {p : Rp} (h : MO w base mb M X) (hb : Below w.heap.size w w1) (hq : w1.heap[rb]? = some (.cells zrep 34 (0, 0))) (hrb : w.heap.size ≤ rb) (hr : RepOK w1 w.heap.size (.agg #[v0, v1, v2, v3, v4, v5]) p) :
    RepOK (st6 w1 rb v0 v1 v2 v3 v4 v5) w.heap.size (.agg #[v0, v1, v2, v3, v4, v5]) p ∧ MO (st6 w1 rb v0 v1 v2 v3 v4 v5) base mb M X ∧ Stp w (st6 w1 rb v0 v1 v2 v3 v4 v5) (X.fp mb) (X.fp mb) := by
  have hk := st6_kept w1 rb v0 v1 v2 v3 v4 v5
  refine ⟨hr.kept hk fun b c t f h1 ht e => ?_, (h.below hb).kept hk (fun b h1 e => ?_) fun b c t f h1 ht e => ?_, (Stp.of_below hb _).over hk hrb⟩
  · rw [e, hq] at h1; cases h1; rcases ht with h | h | h <;> cases h
  · have := h.lt b h1; omega
  · rw [e, hq] at h1; cases h1; rcases ht with h | h | h <;> cases h
set_option maxRecDepth 100000 in
set_option maxHeartbeats 1000000 in
/-- function 38 -/
theorem read_any : CmdOk 38 HasN readF := by
  intro w base mb M X c dv h hM hbase hfr hC hp
  obtain ⟨da, dn, dc, rfl⟩ := slB_shape hC.d.slB
  obtain ⟨x, hx, hxn, hfx⟩ : ∃ x ∈ X.xs, x.n = c.name ∧ fnd M.all c.name = some x.i := by
    rcases h.a.at c.name (Nat.le_trans hC.nl (by unfold maxLen; omega)) with ⟨h1, _⟩ | ⟨x, hx, hxn, h1, _⟩
    · unfold HasN at hp; rw [h1] at hp; cases hp
    · exact ⟨x, hx, hxn, h1⟩
  have hok := h.a.ok x hx
  obtain ⟨w1, hw1⟩ : ∃ z, z = w.alloc (.cells #[.int .i64 c.kind, str c.name, str c.tt, .int .i64 c.a, .int .i64 c.n, .int .i64 c.m, .slice da dn dc] 25) := ⟨_, rfl⟩
  obtain ⟨w2, hw2⟩ : ∃ z, z = w1.alloc (.cells #[.int .i64 0, .slice none 0 0, .slice none 0 0, .slice none 0 0, .int .i64 0, .int .i64 0] 34) := ⟨_, rfl⟩
  have hb1 : Below w.heap.size w w1 := by rw [hw1]; exact (Below.refl _ _).alloc (Nat.le_refl _) _
  have hs1 : w1.heap.size = w.heap.size + 1 := by rw [hw1]; simp
  have hb2 : Below w1.heap.size w1 w2 := by rw [hw2]; exact (Below.refl _ _).alloc (Nat.le_refl _) _
  have hs2 : w2.heap.size = w.heap.size + 2 := by rw [hw2]; simp [hs1]
  have hb02 : Below w.heap.size w w2 := hb1.trans (hb2.mono (by omega))
  have hq1 : w2.heap[w.heap.size]? = some (.cells #[.int .i64 c.kind, str c.name, str c.tt, .int .i64 c.a, .int .i64 c.n, .int .i64 c.m, .slice da dn dc] 25 (0, 0)) := (hb2.block _ (by omega)).trans (by rw [hw1]; exact alloc_new w _)
  have hq2 : w2.heap[w.heap.size + 1]? = some (.cells #[.int .i64 0, .slice none 0 0, .slice none 0 0, .slice none 0 0, .int .i64 0, .int .i64 0] 34 (0, 0)) := by rw [hw2, ← hs1]; exact alloc_new w1 _
  have h2 := h.below hb02
  have bel : ∀ w', Below (w.heap.size + 1) w2 w' → MO w' base mb M X := fun w' hB => h.below (hb02.trans (hB.mono (by omega)))
  have cb : ∀ (j : Nat) v, (#[Value.int .i64 c.kind, str c.name, str c.tt, .int .i64 c.a, .int .i64 c.n, .int .i64 c.m, .slice da dn dc] : Array Value)[j]? = some v → ∀ w', Below (w.heap.size + 1) w2 w' → w'.cell? ⟨w.heap.size, j, none⟩ = some v := fun j v hv w' hB => by
    rw [World.cell?_of_block (hB.block w.heap.size (by omega))]; simp [World.cell?, hq1, hv]
  have f0 : ∀ w', Below (w.heap.size + 1) w2 w' → w'.cell? ⟨mb, 0, none⟩ = some (.map (some X.am)) := fun w' hB => (bel w' hB).cells.1
  have f1 := cb 1 _ rfl
  have f3 := cb 3 _ rfl
  have f4 := cb 4 _ rfl
  have lk : ∀ w', Below (w.heap.size + 1) w2 w' → (Instr.lookup 57 (.map (some X.am)) (str c.name) false).run Tryz.prog w' = .ok (pt x.ib) w' := fun w' hB => by rw [← hxn]; exact (bel w' hB).a.atx hx
  have i1 : ∀ w', Below (w.heap.size + 1) w2 w' → w'.cell? ⟨x.ib, 1, none⟩ = some (.int .i64 x.i.size) := fun w' hB => ((bel w' hB).a.i x hx).cells.2.1
  have i3 : ∀ w', Below (w.heap.size + 1) w2 w' → w'.cell? ⟨x.ib, 3, none⟩ = some (.map (some x.x.om)) := fun w' hB => ((bel w' hB).a.i x hx).cells.2.2.2.1
  have HW := hid (fun w' => within_any x.i.size c.a c.n (by omega) (by have := hok.size; omega) w')
  have H := hid (And.intro h (And.intro h2 (And.intro hb02 (And.intro hok (And.intro hx (And.intro hfx (And.intro hq2 (And.intro hs2 hM))))))))
  have HE := hid (And.intro hw1 hw2)
  have hwb : ∀ w', Below w2.heap.size w2 w' → Below (w.heap.size + 1) w2 w' := fun w' h => h.mono (by omega)
  have e0 := f0 w2 (Below.refl _ _)
  have e1 := f1 w2 (Below.refl _ _)
  clear h h2 hb02 hfx hq2 hw1 hw2 hb1 hb2 hs1 hs2 hq1 cb hC hM hok hp
  go_enter Tryz.func38, Tryz.ntmps38
  go_upto_region 1 with (fail)
  rw [← HE.out.1, ← HE.out.2]
  go_region_held (fun w' => Below w2.heap.size w2 w') (first | exact (Below.refl _ _).drew | assumption | exact Below.drew (by assumption)) (fail)
  obtain ⟨w3, hw3⟩ : ∃ z, z = w2.drew := ⟨_, rfl⟩
  have hb3 : Below w2.heap.size w2 w3 := by rw [hw3]; exact (Below.refl _ _).drew
  rw [← hw3]
  clear hw3 e0 e1
  go_upto_region 2 with (fail)
  cases hwi : withinI x.i.size c.a c.n
  · have HI := hid hwi
    rw [hwi] at HW
    clear hwi
    go_region_held (fun w' => Below w2.heap.size w2 w') (first | exact hb3.drew | assumption | exact Below.drew (by assumption)) (first
      | (go_at_call 79; refine (HW.out _).mono ?_; rintro e w5 ⟨rfl, rfl⟩))
    obtain ⟨w4, hw4⟩ : ∃ z, z = w3.drew := ⟨_, rfl⟩
    have hb4 : Below w2.heap.size w2 w4 := by rw [hw4]; exact hb3.drew
    rw [← hw4]
    clear hw4 hb3 HW f0 f1 f3 f4 i1 i3 lk
    go_wp2_with (go_at_call 21; refine (failed_any 6 _).mono ?_; rintro e w5 ⟨rfl, hb5⟩; obtain ⟨x0, x1, x2, x3, x4, x5, xz⟩ := zcells (((hb4.trans (hb5.mono hb4.size)).block (w.heap.size + 1) (by have := H.out.2.2.2.2.2.2.2.1; omega)).trans H.out.2.2.2.2.2.2.1))
    have hq5 := ((hb4.trans (hb5.mono hb4.size)).block (w.heap.size + 1) (by have := H.out.2.2.2.2.2.2.2.1; omega)).trans H.out.2.2.2.2.2.2.1
    have hcj := st6_cell (.int .i64 6) nilS nilS nilS (.int .i64 0) (.int .i64 0) hq5 rfl
    have y0 := hcj 0 _ rfl
    have y1 := hcj 1 _ rfl
    have y2 := hcj 2 _ rfl
    have y3 := hcj 3 _ rfl
    have y4 := hcj 4 _ rfl
    have y5 := hcj 5 _ rfl
    have h9 := reply_same H.out.1 (H.out.2.2.1.trans ((hb4.trans (hb5.mono hb4.size)).mono H.out.2.2.1.size)) hq5 (by omega) (RepOK.fail w5 w.heap.size 6)
    have hF : readF M c = (M, failR 6, 0) := by unfold readF; rw [H.out.2.2.2.2.2.1]; simp only [HI.out]; rfl
    rw [hF]
    clear x0 x1 x2 x3 x4 x5 xz hcj
    change bodyPost _ _ _ _ _ (st6 w5 (w.heap.size + 1) (.int .i64 6) nilS nilS nilS (.int .i64 0) (.int .i64 0))
    exact bodyPost_ret (v := failV 6) (by simp [results, Tryz.results38, go_sem, y0, y1, y2, y3, y4, y5]) rfl ⟨_, X, rfl, h9.1, h9.2.1, rfl, Nat.le_refl _, rfl, h9.2.2⟩
  · have HBD := hid (within_bounds hwi H.out.2.2.2.1.size)
    have HI := hid hwi
    rw [hwi] at HW
    clear hwi
    go_region_held (fun w' => Below w2.heap.size w2 w') (first | exact hb3.drew | assumption | exact Below.drew (by assumption)) (first
      | (go_at_call 79; refine (HW.out _).mono ?_; rintro e w5 ⟨rfl, rfl⟩))
    obtain ⟨w4, hw4⟩ : ∃ z, z = w3.drew := ⟨_, rfl⟩
    have hb4 : Below w2.heap.size w2 w4 := by rw [hw4]; exact hb3.drew
    rw [← hw4]
    clear hw4 hb3 HW
    have HS := hid (fun w' (hB : Below w2.heap.size w2 w') => by
      have hA := (H.out.2.1.below hB).a
      have hok := H.out.2.2.2.1
      have hd : dep M.all 8 x.i.back := by
        obtain ⟨e, h1, h2, _⟩ := dep_min H.out.2.2.2.2.2.1 (H.out.2.2.2.2.2.2.2.2.dp c.name)
        exact dep_le h2 (by omega)
      have := sho_all 8 w' base mb X.am M.all X.xs x.i x.ib base x.x.om x.i.size _ x.i.own x.x.ol c.a.toNat c.n.toNat (H.out.2.1.below hB).mod0 hA (hA.i x H.out.2.2.2.2.1).ic (hA.i x H.out.2.2.2.2.1).own hok.own hok.cl hok.nb hd hok.size HBD.out.2.2.1 HBD.out.2.2.2.1
      rw [← HBD.out.1, ← HBD.out.2.1] at this
      exact this)
    go_upto_region 4 with (fail)
    have hb4' : Below (w.heap.size + 1) w2 w4.drew := hwb _ hb4.drew
    go_region_held (fun w' => Below (w.heap.size + 1) w2 w') (first | with_reducible exact hb4' | with_reducible assumption | with_reducible exact Below.drew (by assumption) | exact below6 (by assumption) _ _ _ _ _ _) (first
      | (go_at_call 27; refine (HS.out _ hb4.drew).mono ?_; rintro e w5 ⟨v5, rfl, ho5, hb5⟩; obtain ⟨ya, yn, yc, rfl⟩ := ownB_sh ho5.o; have hb25 := hb4.drew.trans (hb5.mono (show w2.heap.size ≤ w4.drew.heap.size from hb4.size)); have hB5 : Below (w.heap.size + 1) w2 w5 := hwb _ hb25; obtain ⟨x0, x1, x2, x3, x4, x5, xz⟩ := zcells ((hb25.block (w.heap.size + 1) (by have := H.out.2.2.2.2.2.2.2.1; omega)).trans H.out.2.2.2.2.2.2.1)))
    have hq5 := (hb25.block (w.heap.size + 1) (by have := H.out.2.2.2.2.2.2.2.1; omega)).trans H.out.2.2.2.2.2.2.1
    have hcj := st6_cell (.int .i64 0) (.slice ya yn yc) nilS nilS (.int .i64 0) (.int .i64 0) hq5 rfl
    have hrep : RepOK w5 w.heap.size (rpV 0 (.slice ya yn yc) nilS nilS 0 0) { data := secs (secIn M.all 8 x.i x.i.size x.i.own) c.a.toNat c.n.toNat } := ⟨_, _, _, rfl, ho5.o.any_base (Nat.le_trans H.out.2.2.1.size hb4.size), OwnG.nil _ _ _ _, OwnG.nil _ _ _ _⟩
    have h9 := reply_same H.out.1 (H.out.2.2.1.trans (hb25.mono H.out.2.2.1.size)) hq5 (by omega) hrep
    have hF : readF M c = (M, { data := secs (secIn M.all 8 x.i x.i.size x.i.own) c.a.toNat c.n.toNat }, 0) := by unfold readF; rw [H.out.2.2.2.2.2.1]; simp only [HI.out]; rfl
    obtain ⟨W, hW⟩ : ∃ W, W = st6 w5 (w.heap.size + 1) (.int .i64 0) (.slice ya yn yc) nilS nilS (.int .i64 0) (.int .i64 0) := ⟨_, rfl⟩
    change Exit.then _ _ _ _ (st6 w5 (w.heap.size + 1) (.int .i64 0) (.slice ya yn yc) nilS nilS (.int .i64 0) (.int .i64 0))
    rw [← hW] at hcj h9 ⊢
    have y0 := hcj 0 _ rfl
    have y1 := hcj 1 _ rfl
    have y2 := hcj 2 _ rfl
    have y3 := hcj 3 _ rfl
    have y4 := hcj 4 _ rfl
    have y5 := hcj 5 _ rfl
    have HZ := hid (And.intro h9 hF)
    clear hcj h9 hF hW hrep hq5 x0 x1 x2 x3 x4 x5 xz ho5 hb5 hb25 hB5 hb4' hb4 f0 f1 f3 f4 i1 i3 lk
    go_wp2_with fail
    rw [HZ.out.2]
    exact bodyPost_ret (v := rpV 0 (.slice ya yn yc) nilS nilS 0 0) (by simp [results, Tryz.results38, go_sem, y0, y1, y2, y3, y4, y5]) rfl ⟨_, X, rfl, HZ.out.1.1, HZ.out.1.2.1, rfl, Nat.le_refl _, rfl, HZ.out.1.2.2⟩
end Go.Proofs.YtgkabcaodnofnaaGreat
