import Derived.Test.YtgkabcaodnofnaaGreatL3
set_option linter.unusedSimpArgs false
set_option linter.unusedVariables false
namespace Go.Md
theorem int_count : ∀ (n : Nat) (l : List Int), l.Nodup → (∀ x ∈ l, 0 ≤ x ∧ x < n) → l.length ≤ n
  | 0, l, _, h => by
    cases l with
    | nil => simp
    | cons a r => have := h a (by simp); omega
  | n + 1, l, hn, h => by
    have h1 := int_count n (l.erase (n : Int)) (hn.erase _) fun x hx => by
      have hx2 := (hn.mem_erase_iff).1 hx
      have := h x hx2.2
      have : x ≠ n := hx2.1
      omega
    by_cases hm : (n : Int) ∈ l
    · rw [List.length_erase_of_mem hm] at h1; omega
    · rw [List.erase_of_not_mem hm] at h1; omega
end Go.Md
namespace Go.Proofs.YtgkabcaodnofnaaGreat
open Go.RowKit Go.Mx Go.Md
set_option linter.unusedVariables false
set_option linter.unusedSimpArgs false
/-- bytes that read, in a block of which N holds -/
def SlN (w : World) (N : Nat → Prop) (v : Value) (bs : Bs) : Prop :=
  ∃ oa cap, v = .slice oa bs.length cap ∧ bs.length ≤ cap ∧ cap ≤ maxLen ∧ (bs ≠ [] → ∃ bb bo, oa = some ⟨bb, bo, none⟩ ∧ bb < w.heap.size ∧ N bb ∧ RdB w bb bo bs)
theorem SlN.slB {w : World} {N : Nat → Prop} {v : Value} {bs : Bs} (h : SlN w N v bs) : SlB w w.heap.size v bs := by
  obtain ⟨oa, cap, h1, h2, h3, h4⟩ := h
  exact ⟨oa, cap, h1, h2, h3, fun hn => by obtain ⟨bb, bo, e, hl, _, hr⟩ := h4 hn; exact ⟨bb, bo, e, hl, hr⟩⟩
theorem SlN.kept {w w' : World} {N : Nat → Prop} {v : Value} {bs : Bs} (h : SlN w N v bs) (hk : Kept w w' N) : SlN w' N v bs := by
  obtain ⟨oa, cap, h1, h2, h3, h4⟩ := h
  exact ⟨oa, cap, h1, h2, h3, fun hn => by
    obtain ⟨bb, bo, e, hl, hN, hr⟩ := h4 hn
    exact ⟨bb, bo, e, Nat.lt_of_lt_of_le hl hk.size, hN, fun i hi => (hk.cell hl hN).trans (hr i hi)⟩⟩
theorem SlN.imp {w : World} {N N' : Nat → Prop} {v : Value} {bs : Bs} (h : SlN w N v bs) (hi : ∀ b, b < w.heap.size → N b → N' b) : SlN w N' v bs := by
  obtain ⟨oa, cap, h1, h2, h3, h4⟩ := h
  exact ⟨oa, cap, h1, h2, h3, fun hn => by
    obtain ⟨bb, bo, e, hl, hN, hr⟩ := h4 hn
    exact ⟨bb, bo, e, hl, hi bb hl hN, hr⟩⟩
theorem SlN.of {w : World} {B : Nat} {N : Nat → Prop} {v : Value} {bs : Bs} (h : SlB w B v bs) (hB : B ≤ w.heap.size) (hN : ∀ b, b < B → N b) : SlN w N v bs := by
  obtain ⟨oa, cap, h1, h2, h3, h4⟩ := h
  exact ⟨oa, cap, h1, h2, h3, fun hn => by obtain ⟨bb, bo, e, hl, hr⟩ := h4 hn; exact ⟨bb, bo, e, by omega, hN bb hl, hr⟩⟩
theorem SlN.own {w : World} {base : Nat} {N : Nat → Prop} {v : Value} {bs : Bs} (h : OwnB w base 5 v bs) (hN : ∀ b c f, base ≤ b → w.heap[b]? = some (.cells c 5 f) → N b) : SlN w N v bs := by
  have ht := ownB_type h
  rcases h.shape with ⟨rfl, rfl⟩ | ⟨g, cap, rfl, h1, h2, h3, h4, h5⟩
  · exact ⟨none, 0, rfl, by simp, by simp [maxLen], fun h => absurd rfl h⟩
  · refine ⟨_, cap, rfl, h3, h4, fun _ => ⟨g, 0, rfl, h2, ?_, h5⟩⟩
    obtain ⟨c, f, h9⟩ := ht g rfl
    exact hN g c f h1 h9
theorem enc_own {w : World} {base : Nat} {v : Value} {bs : Bs} (h : OwnB w base 5 v bs) : ∃ d, enc v = some d := by
  rcases h.shape with ⟨rfl, _⟩ | ⟨g, cap, rfl, _⟩ <;> exact ⟨_, rfl⟩
theorem _root_.Go.Mx.Kept.imp {w w' : World} {N N' : Nat → Prop} (h : Kept w w' N) (hi : ∀ k, N' k → N k) : Kept w w' N' := ⟨h.size, fun k hk hn => h.block k hk (hi k hn), h.st⟩
variable {w w' : World} {base ib m k : Nat} {i : IM} {x : IX} {own : Nat → Option Bs} {l : ML Int}
/-- a cluster is laid into a map -/
theorem OM.upd (h : OM w base m own l) (hk : k ≤ 1000000) (hl : l.length < maxLen) {v : Value} {bs : Bs} (hv : OwnB w base 5 v bs) :
    ∃ w', (Instr.mapUpdate 84 (.map (some m)) (.int .i64 k) v).run Tryz.prog w = .ok () w' ∧ OM w' base m (fun j => if j = k then some bs else own j) (Mx.upd l (k : Int) v) ∧ Kept w w' (· ≠ m) ∧ w'.heap.size = w.heap.size ∧ (∀ a, w'.frozen? a = w.frozen? a) ∧ w.grownBy w' (some m) := by
  obtain ⟨d, hd⟩ := enc_own hv
  have hok : EI.ok (k : Int) := by
    show (Lit.int .i64 (k : Int)).wf = true
    simp [Lit.wf, IntKind.min, IntKind.max, IntKind.signed, IntKind.bits]; omega
  obtain ⟨w', h1, h2, h3, h4, h5⟩ := h.g.upd K3 Tryz.underlying84 (k : Int) hok v hd hl
  have hkp : Kept w w' (· ≠ m) := Kept.grown h3 fun b hb => by cases hb; simp
  obtain ⟨es, c, hm⟩ := h.g.isMap
  refine ⟨w', h1, ⟨h2, fun p hp => ?_, fun k' bs' hk' => ?_⟩, hkp, h4, h5, h3⟩
  · rcases mem_upd hp with rfl | ⟨hp1, hp2⟩
    · refine ⟨k, bs, rfl, by simp, hv.kept hkp fun b hb => ?_⟩
      rintro rfl
      obtain ⟨cc, f, h9⟩ := ownB_type hv _ hb
      rw [hm] at h9; cases h9
    · obtain ⟨k1, b1, e1, e2, e3⟩ := h.f p hp1
      refine ⟨k1, b1, e1, ?_, e3.kept hkp fun b hb => ?_⟩
      · rw [if_neg (fun e => hp2 (by rw [e1, e])), e2]
      · rintro rfl
        obtain ⟨cc, f, h9⟩ := ownB_type e3 _ hb
        rw [hm] at h9; cases h9
  · by_cases e : k' = k
    · subst e
      rw [if_pos rfl] at hk'
      exact ⟨v, by
        have : Mx.look (Mx.upd l (k' : Int) v) (k' : Int) = some v := by rw [look_upd]; simp
        exact look_mem this⟩
    · rw [if_neg e] at hk'
      obtain ⟨v', hv'⟩ := h.b k' bs' hk'
      refine ⟨v', ?_⟩
      have h9 : Mx.look l (k' : Int) = some v' := look_of_mem h.g.nodup hv'
      have : Mx.look (Mx.upd l (k : Int) v) (k' : Int) = some v' := by rw [look_upd, if_neg (by omega)]; exact h9
      exact look_mem this
theorem OM.len {nc cl : Nat} (h : OM w base m own l) (ho : OwnOk cl nc own) : l.length ≤ nc := by
  have := int_count nc (l.map (·.1)) h.g.nodup fun z hz => by
    obtain ⟨p, hp, rfl⟩ := List.mem_map.1 hz
    obtain ⟨k, bs, e1, e2, _⟩ := h.f p hp
    have := (ho k bs e2).1
    omega
  simpa using this
theorem putI_ok {i : IM} (h : IOk i) {k : Nat} {bs : Bs} (hk : k < i.size / 2 ^ i.cl) (hb : bs.length = 16 * 2 ^ i.cl) : IOk (putI i k bs) where
  cl := h.cl
  size := h.size
  whole := h.whole
  own := fun j b hj => by
    simp only [putI] at hj
    split at hj
    · rename_i e; subst e; cases hj; exact ⟨hk, hb⟩
    · exact h.own j b hj
  shots := h.shots
  ns := h.ns
  nb := h.nb
set_option maxRecDepth 100000 in
set_option maxHeartbeats 1000000 in
/-- function 102 -/
theorem put_any (h : II w base ib i x) (hbase : base ≤ w.heap.size) (hsm : x.om ∉ x.ss.map (·.m)) (hk : k ≤ 1000000) (hl : x.ol.length ≤ 1000000) {v : Value} {bs : Bs} (hv : OwnB w base 5 v bs) :
    Calls Tryz.prog 102 #[pt ib, .int .i64 k, v] w fun e w' => e = .returned (.tuple #[]) ∧ ∃ x', II w' base ib (putI i k bs) x' ∧ x'.om = x.om ∧ x'.ss = x.ss ∧ x'.sv = x.sv ∧ Kept w w' (fun b => b ≠ ib ∧ b ≠ x.om) := by
  obtain ⟨c0, c1, c2, c3, c4, c5, cf⟩ := h.cells
  obtain ⟨va, vn, vc, rfl⟩ := ownB_sh hv
  obtain ⟨es, mc, hmap⟩ := h.own.g.isMap
  have hne : ib ≠ x.om := by
    intro e
    have := h.ck
    rw [e, hmap] at this; cases this
  obtain ⟨w1, hrun, hom, hk1, hs1, hfz, hgr⟩ := h.own.upd hk (by unfold maxLen; omega) hv
  have c5' : w1.cell? ⟨ib, 5, none⟩ = some x.mv := (hk1.cell (blk_lt h.ck) hne).trans c5
  have hN1 : NI w (fun b => b ≠ x.om) := fun b c t f hb _ e => by rw [e, hmap] at hb; cases hb
  have hm1 : BMS w1 base x.mv i.maps x.ps := h.maps.kept hk1 fun b c t f hb ht => hN1 b c t f hb (by rcases ht with rfl | rfl <;> simp)
  have hb1 : base ≤ w1.heap.size := by omega
  have hck1 : w1.heap[ib]? = some (.cells #[.int .i64 i.cl, .int .i64 i.size, str i.back, .map (some x.om), x.sv, x.mv] 87 (0, 0)) := (hk1.block ib (blk_lt h.ck) hne).trans h.ck
  have hkk : IntKind.i64.wrap ((k : Int) + 1) = (k : Int) + 1 := by rw [IntWalk.i64_in _ (by omega)]
  have cf1 : ∀ j, w1.frozen? ⟨ib, j, none⟩ = false := fun j => by simp [World.frozen?, hck1]
  have H := hid (And.intro h (And.intro hom (And.intro hk1 (And.intro hm1 (And.intro hck1 hsm)))))
  obtain ⟨ma, mn, mc', hmv⟩ := ownG_sh hm1.o
  rw [hmv] at c5 c5' hm1
  have HT := hid (fun w2 (hB : Below w1.heap.size w1 w2) => touch_any (hm1.below hB) (Nat.le_trans hb1 hB.size) ((k : Int), (k : Int) + 1))
  clear h hom hk1 hm1 hck1 hv hmap hgr hN1
  go_enter Tryz.func102, Tryz.ntmps102
  go_wp2_with fail
  refine (HT.out w1 (Below.refl _ _)).mono ?_
  rintro e w5 ⟨v5, ps5, rfl, hB5, hnew, hb5⟩
  obtain ⟨ya, yn, yc, rfl⟩ := ownG_sh hB5.o
  have hck5 := (hb5.block ib (blk_lt H.out.2.2.2.2.1)).trans H.out.2.2.2.2.1
  have cf5 : ∀ j, w5.frozen? ⟨ib, j, none⟩ = false := fun j => by simp [World.frozen?, hck5]
  have d5 : w5.cell? ⟨ib, 5, none⟩ = some (.slice ma mn mc') := (World.cell?_of_block (hb5.block ib (blk_lt H.out.2.2.2.2.1))).trans c5'
  have H5 := hid (And.intro hB5 (And.intro hnew (And.intro hb5 hck5)))
  clear hB5 hnew hb5 hck5 c0 c1 c2 c3 c4 c5 cf
  go_wp2_with fail
  go_end0
  obtain ⟨h, hom, hk1, _, _, hsm⟩ := H.out
  obtain ⟨hB5, hnew, hb5, hck5⟩ := H5.out
  have hlt : ib < w5.heap.size := blk_lt hck5
  have hk5 : Kept w1 w5 (fun _ => True) := Kept.of_below hb5 fun k hk _ => hk
  have hk6 : Kept w5 (w5.setCell ⟨ib, 5, none⟩ (.slice ya yn yc)) (· ≠ ib) := Kept.set _ _ _ _ (by simp)
  have hkk6 : Kept w (w5.setCell ⟨ib, 5, none⟩ (.slice ya yn yc)) (fun b => b ≠ ib ∧ b ≠ x.om) :=
    ((hk1.imp fun b hb => hb.2).trans (hk5.imp fun _ _ => trivial)).trans (hk6.imp fun b hb => hb.1)
  have hT : ∀ {W : World} (b : Nat) (c : Array Value) (t : TypeId) (f : Nat × Nat), W.heap[ib]? = some (.cells #[.int .i64 i.cl, .int .i64 i.size, str i.back, .map (some x.om), x.sv, x.mv] 87 (0, 0)) → W.heap[b]? = some (.cells c t f) → t ≠ 87 → b ≠ ib := fun b c t f h1 h2 h3 e => by rw [e, h1] at h2; cases h2; exact h3 rfl
  have hom5 : OM w5 base x.om (fun j => if j = k then some bs else i.own j) (Mx.upd x.ol (k : Int) (.slice va vn vc)) := hom.below hb5
  have hmb : ∀ b, b < w.heap.size → (∃ c t f, w.heap[b]? = some (.cells c t f)) → b ≠ x.om := fun b _ ⟨c, t, f, hb⟩ e => by
    obtain ⟨es', mc', hmap'⟩ := h.own.g.isMap
    rw [e, hmap'] at hb; cases hb
  refine ⟨rfl, { x with ol := _, mv := .slice ya yn yc, ps := ps5 }, ⟨?_, hom5.kept hk6 (Ne.symm hne) fun b c f hb => hT b c 5 f hck5 hb (by decide), h.se, ?_, ?_, hB5.kept hk6 fun b c t f hb ht => hT b c t f hck5 hb (by rcases ht with rfl | rfl <;> decide)⟩, rfl, rfl, rfl, hkk6⟩
  · rw [heap_setCell_at' w5 ib 5 _ _ 87 _ hck5]; rfl
  · refine h.so.kept hkk6 fun q hq => ?_
    obtain ⟨c, f, h9⟩ := ownG_type h.so q hq
    exact ⟨hT q c 90 f h.ck h9 (by decide), hmb q (blk_lt h9) ⟨_, _, _, h9⟩⟩
  · intro s hs
    refine (h.sm s hs).kept hkk6 ⟨?_, ?_⟩ fun b c f hb => ⟨hT b c 5 f h.ck hb (by decide), hmb b (blk_lt hb) ⟨_, _, _, hb⟩⟩
    · intro e
      obtain ⟨es', mc', hmap'⟩ := (h.sm s hs).g.isMap
      have := h.ck
      rw [← e, hmap'] at this; cases this
    · intro e; exact hsm (List.mem_map.2 ⟨s, hs, e⟩)
end Go.Proofs.YtgkabcaodnofnaaGreat
