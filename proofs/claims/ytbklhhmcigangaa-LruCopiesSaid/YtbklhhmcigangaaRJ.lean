import Derived.Test.YtbklhhmcigangaaL9
import Derived.Test.YtbklhhmcigangaaP4
import Derived.Deep.RegionHeld
import Derived.Deep.CutBlock
namespace Go.Proofs.Ytbklhhmcigangaa
open Go.RowKit Go.Mx Go.Lr Go.Maps
set_option linter.unusedVariables false
set_option linter.unusedSimpArgs false
/-- both caches, alike -/
structure AS (w : World) (base p q t : Nat) (c : CM) (r : RC) : Prop where
  hc : HC w base p c
  hx : RX w base q r
  sim : Sim t c r
  len : c.all.length ≤ c.room
  room : c.room ≤ 1024
theorem AS.below {w w' : World} {base p q t : Nat} {c : CM} {r : RC} (h : AS w base p q t c r) (hb : Below w.heap.size w w') : AS w' base p q t c r := { h with hc := h.hc.below hb, hx := h.hx.below hb }
theorem AS.base_le {w : World} {base p q t : Nat} {c : CM} {r : RC} (h : AS w base p q t c r) : base ≤ w.heap.size := h.hc.base_le
theorem ok_of {w : World} {base p t : Nat} {c : CM} {r : RC} (hc : HC w base p c) (S : Sim t c r) (ht : t ≤ 1000) (hl : c.all.length ≤ 1999) : OkC c := by
  obtain ⟨m, fs, h⟩ := hc
  have hks := h.ksI
  have haft : ∀ e ∈ c.all, e.pg.after = (r.r.filter fun q => q.1 == e.k).map (·.2) := fun e he => by
    rw [← S.aft e.k]; unfold aft; rw [find_of_mem S.kn he]; rfl
  refine ⟨fun e he y hy => ?_, fun e he => ?_, by omega, hks⟩
  · rw [haft e he] at hy
    obtain ⟨q, hq, rfl⟩ := List.mem_map.1 hy
    have hd := (S.drt q (List.mem_filter.1 hq).1).2
    obtain ⟨e2, he2, hk⟩ := List.mem_map.1 (dirty_key hd)
    rw [← hk]; exact hks e2 he2
  · rw [haft e he, List.length_map]
    have h1 := List.length_filter_le (fun q : Int × Int => q.1 == e.k) r.r
    have h2 := S.rt
    omega
theorem put_len {c : CM} {k : Int} {b : List UInt8} {d : Bool} {c' : CM} {out : List Int} (hn : (c.all.map (·.k)).Nodup) (hl : c.all.length ≤ c.room) (hp : PutR c k b d c' out) : c'.all.length ≤ c'.room ∧ c'.room = c.room := by
  rcases hp with ⟨h1, rfl, _⟩ | ⟨h1, x, hx, he⟩
  · rw [lay_room]; exact ⟨h1, rfl⟩
  · have h2 := evict_len (lay c k b d) x [] (lay_nodup hn _ _ _) hx.1
    have h3 := evict_room (lay c k b d) x []
    rw [he] at h2 h3
    simp only at h2 h3
    rw [lay_room] at h3
    rw [lay_len] at h2
    refine ⟨?_, h3⟩
    rw [h3]
    split at h2 <;> omega
theorem Out.box {w w' : World} {b : Nat} {c : Array Value} (h : w.heap[b]? = some (.cells c 45 (0, 0))) (hk : KT w w') : w'.heap[b]? = some (.cells c 45 (0, 0)) := (hk.block b (blk_lt h) ⟨_, _, _, h, by decide, by decide, by decide⟩).trans h
theorem KR.box {w w' : World} {b : Nat} {c : Array Value} (h : w.heap[b]? = some (.cells c 45 (0, 0))) (hk : KR w w') : w'.heap[b]? = some (.cells c 45 (0, 0)) := (hk.block b (blk_lt h) fun c t f hc => by rw [h] at hc; cases hc; decide).trans h
section
variable {w w' : World} {base p q t : Nat} {c : CM} {r : RC}
/-- the document's Put, its blocks not told -/
theorem rput_X (h : RX w base q r) (k : Int) (v : Value) (b : List UInt8) (B : Nat) (hb : SlB w B v b) (hB : B ≤ base) (hl : b.length ≤ 1000000) (d : Bool) (hroom : r.l.length ≤ r.room) (hr2 : r.l.length + 1 ≤ 2000) (ρ : Int → Nat) (hρ : ∀ q ∈ r.r, ρ q.2 < ρ q.1) :
    Calls Try.prog 40 #[cp q, .int .i64 k, v, .bool d] w fun e w' => ∃ v out r', e = .returned v ∧ PutRR r ρ k b d r' out ∧ OwnI w' w.heap.size v out ∧ RX w' base q r' ∧ RStp base w w' := by
  obtain ⟨ls, lv, rv, h⟩ := h
  exact (rput_any h k v b B hb hB hl d hroom hr2 ρ hρ).mono fun e w' ⟨v, he, out, r', h1, h2, h3, h4⟩ => ⟨v, out, r', he, h1, h2, h3, h4⟩
theorem putRR_len {r r' : RC} {ρ : Int → Nat} {k : Int} {b : List UInt8} {d : Bool} {out : List Int} (h : PutRR r ρ k b d r' out) (hρ : ∀ q ∈ r.r, ρ q.2 < ρ q.1) (hl : r.r.length ≤ 2000) : out.length ≤ 2001 := by
  have hrr : (layR r k b d).r = r.r := by unfold layR; split <;> rfl
  rcases h with ⟨_, _, rfl⟩ | ⟨x, t, _, _, rfl, _⟩
  · simp
  · exact writeL_len (by rw [hrr]; exact hρ) (by rw [hrr]; exact hl) x.k
theorem get_X {c : CM} (h : HC w base p c) (k : Int) (hk : isI k) (hu : c.uses ≤ 1000000000) (hbl : ∀ e ∈ c.all, e.pg.b.length ≤ 1000000) : Calls Try.prog 20 #[cp p, .int .i64 k] w fun e w' => Below base w w' ∧ KT w w' ∧
    ((Lr.find c.all k = none ∧ e = .returned (.tuple #[.slice none 0 0, .bool false]) ∧ HC w' base p c) ∨ ∃ g v, Lr.find c.all k = some g ∧ e = .returned (.tuple #[v, .bool true]) ∧ HC w' base p (getM c k) ∧ OwnB w' w.heap.size 5 v g.b) := by
  obtain ⟨m, fs, h⟩ := h
  refine (get_any h k hk hu hbl).mono fun e w' hg => ?_
  rcases hg with ⟨hf, he, hb⟩ | ⟨g, v, fs', w1, hf, he, hc1, hs1, hb1, ho1⟩
  · exact ⟨hb.mono h.base_le, KT.below hb, .inl ⟨hf, he, ⟨m, fs, h.below hb⟩⟩⟩
  · exact ⟨hs1.bel.trans (hb1.mono hc1.base_le), (KT.of_stp h hs1).trans (KT.below hb1), .inr ⟨g, v, hf, he, ⟨m, fs', hc1.below hb1⟩, ho1.any_base hs1.kept.size⟩⟩
theorem drop_X {c : CM} (h : HC w base p c) (k : Int) (hk : isI k) (hs : Sm c.all) : Calls Try.prog 26 #[cp p, .int .i64 k] w fun e w' => e = .returned (.tuple #[]) ∧ HC w' base p (dropM c k) ∧ Below base w w' ∧ KT w w' := by
  obtain ⟨m, fs, h⟩ := h
  exact (drop_any h k hk hs).mono fun e w' ⟨he, fs', hc, hs'⟩ => ⟨he, ⟨m, fs', hc⟩, hs'.bel, KT.of_stp h hs'⟩
theorem Sim.bs {t : Nat} {c : CM} {r : RC} (h : Lr.Sim t c r) : ∀ e ∈ c.all, e.pg.b.length ≤ 1000000 := fun e he => by
  have hm := (h.ul.mem e.k).2 (List.mem_map_of_mem he)
  obtain ⟨it, hit, hk⟩ := List.mem_map.1 hm
  obtain ⟨g, g1, g2, _⟩ := h.val it hit
  rw [hk, find_of_mem h.kn he] at g1
  cases g1
  rw [g2]; exact h.bl it hit
theorem flush_len (c : CM) : (flushM c).1.all.length = c.all.length ∧ (flushM c).1.room = c.room := by
  have key : ∀ (l : List Int) (st : CM × List Int), (l.foldl (fun s k => lineM s.1 k s.2) st).1.all.length = st.1.all.length ∧ (l.foldl (fun s k => lineM s.1 k s.2) st).1.room = st.1.room := by
    intro l
    induction l with
    | nil => exact fun st => ⟨rfl, rfl⟩
    | cons k l ih => exact fun st => ⟨(ih _).1.trans (line_len ..), (ih _).2⟩
  exact key _ _
theorem flushM_out (c : CM) : (flushM c).2.length ≤ c.all.length * c.all.length := by
  have key : ∀ (l : List Int) (st : CM × List Int), (l.foldl (fun s k => lineM s.1 k s.2) st).2.length ≤ st.2.length + l.length * st.1.all.length := by
    intro l
    induction l with
    | nil => intro st; simp
    | cons k l ih =>
      intro st
      have h1 := ih (lineM st.1 k st.2)
      rw [line_len] at h1
      have h2 := line_out st.1 k st.2
      rw [List.foldl_cons, List.length_cons, Nat.succ_mul]
      omega
  have h1 := key (dirtyL c.all) (c, [])
  have h2 := dirtyL_len c.all
  have h3 : (dirtyL c.all).length * c.all.length ≤ c.all.length * c.all.length := Nat.mul_le_mul_right _ h2
  unfold flushM
  simp at h1
  omega
theorem after_len (c : CM) (k f : Int) : (afterM c k f).1.all.length = c.all.length ∧ (afterM c k f).1.room = c.room := by
  unfold afterM
  split
  · exact ⟨rfl, rfl⟩
  · split
    · exact ⟨rfl, rfl⟩
    · exact ⟨by simp [addAft, setE], rfl⟩
theorem drop_len (c : CM) (k : Int) : (dropM c k).all.length ≤ c.all.length ∧ (dropM c k).room = c.room := by
  refine ⟨?_, rfl⟩
  show (delE (loose c.all k) k).length ≤ _
  refine Nat.le_trans (List.length_filter_le _ _) ?_
  simp [loose]
/-- the two ends are alike -/
theorem ends_any (h : AS w base p q t c r) (ht : t ≤ 1000) : Calls Try.prog 16 #[cp p] w fun e w1 => ∃ v1, e = .returned v1 ∧ Below w.heap.size w w1 ∧ OwnI w1 w.heap.size v1 (dirtyL c.all) ∧ Calls Try.prog 44 #[cp q] w1 fun e w2 => ∃ v2, e = .returned v2 ∧ Below w1.heap.size w1 w2 ∧ Calls Try.prog 39 #[v1, v2] w2 fun e w3 => e = .returned (.bool true) ∧ Below w2.heap.size w2 w3 := by
  have hl := h.len
  have hr := h.room
  refine (dirty_H h.hc (by omega)).mono fun e w1 ⟨v1, he, ho1, hb1⟩ => ⟨v1, he, hb1, ho1, ?_⟩
  obtain ⟨ls, lv, rv, hR⟩ := h.hx.below hb1
  refine (rdirtyL_any hR).mono fun e w2 ⟨v2, he2, ho2, hb2⟩ => ⟨v2, he2, hb2, ?_⟩
  rw [← h.sim.dirtyL] at ho2
  have hs1 : SlI w2 w2.heap.size v1 (dirtyL c.all) := (ho1.slI.below hb2 (Nat.le_refl _)).mono hb2.size
  exact ints39 (dirtyL c.all) v1 v2 w2 hs1 ho2.slI (by have := dirtyL_len c.all; omega)
set_option maxRecDepth 100000 in
set_option maxHeartbeats 2000000 in
theorem act_any (h : AS w base p q t c r) (ht : t ≤ 900) (f : AI) (B : Nat) (hB : B ≤ base) (hb : SlB w B f.bv f.a.b) (hl : f.a.b.length ≤ 1000000) (hk : isI f.a.k) (hf : isI f.a.first) : Calls Try.prog 19 #[cp p, cp q, .agg #[.int .i64 f.a.what, .int .i64 f.a.k, .int .i64 f.a.first, f.bv, .bool f.a.d]] w fun e w' => e = .returned (.bool true) ∧ (∃ c' r', AS w' base p q (t + 1) c' r') ∧ Below base w w' := by
  obtain ⟨⟨WH, KY, FI, BY, DI⟩, bv⟩ := f
  simp only at hb hl hk hf ⊢
  obtain ⟨va, vn, vc, rfl⟩ := slB_shape hb
  obtain ⟨ρ, hρ⟩ := h.sim.rank
  have hA : Below w.heap.size w (w.alloc (.cells #[.int .i64 WH, .int .i64 KY, .int .i64 FI, .slice va vn vc, .bool DI] 45)) := (Below.refl _ _).alloc (Nat.le_refl _) _
  have hbx := alloc_new w (.cells #[.int .i64 WH, .int .i64 KY, .int .i64 FI, .slice va vn vc, .bool DI] 45)
  obtain ⟨wA, hwA⟩ : ∃ x, x = w.alloc (.cells #[.int .i64 WH, .int .i64 KY, .int .i64 FI, .slice va vn vc, .bool DI] 45) := ⟨_, rfl⟩
  rw [← hwA] at hA hbx
  have hAS := h.below hA
  have hbA : SlB wA B (.slice va vn vc) BY := hb.below hA (by have := h.base_le; omega)
  have hcl : ∀ w' : World, w'.heap[w.heap.size]? = some (.cells #[.int .i64 WH, .int .i64 KY, .int .i64 FI, .slice va vn vc, .bool DI] 45 (0, 0)) → (w'.cell? ⟨w.heap.size, 0, none⟩ = some (.int .i64 WH) ∧ w'.cell? ⟨w.heap.size, 1, none⟩ = some (.int .i64 KY) ∧ w'.cell? ⟨w.heap.size, 2, none⟩ = some (.int .i64 FI) ∧ w'.cell? ⟨w.heap.size, 3, none⟩ = some (.slice va vn vc) ∧ w'.cell? ⟨w.heap.size, 4, none⟩ = some (.bool DI)) := fun w' h9 => by
    refine ⟨?_, ?_, ?_, ?_, ?_⟩ <;> simp [World.cell?, h9]
  have hs0 : base ≤ w.heap.size := h.base_le
  -- the end of every act
  have HEND : Hid (∀ (w5 : World) (c' : CM) (r' : RC), AS w5 base p q (t + 1) c' r' → Calls Try.prog 16 #[cp p] w5 fun e w1 => ∃ v1, e = .returned v1 ∧ Below w5.heap.size w5 w1 ∧ OwnI w1 w5.heap.size v1 (dirtyL c'.all) ∧ Calls Try.prog 44 #[cp q] w1 fun e w2 => ∃ v2, e = .returned v2 ∧ Below w1.heap.size w1 w2 ∧ Calls Try.prog 39 #[v1, v2] w2 fun e w3 => e = .returned (.bool true) ∧ Below w2.heap.size w2 w3) := hid fun w5 c' r' h5 => ends_any h5 (by omega)
  have HA := hid (And.intro hAS (And.intro hbA (And.intro hbx (And.intro hA (And.intro hs0 hρ)))))
  have HCL := hid hcl
  obtain ⟨e0, e1, e2, e3, e4⟩ := hcl wA hbx
  have HW := hid hwA
  clear h hb hA hbx hAS hbA hcl hs0 hρ hwA
  go_enter Try.func19, Try.ntmps19
  go_upto_block 0 with (fail)
  rw [← HW.out]
  clear HW
  go_cut [] from 11 (fun wx => ∃ c' r', AS wx base p q (t + 1) c' r' ∧ Below base w wx)
  case first =>
    by_cases h0 : WH = 0
    · subst h0
      have hfacts : ∀ w' : World, w'.heap[w.heap.size]? = some (.cells #[.int .i64 0, .int .i64 KY, .int .i64 FI, .slice va vn vc, .bool DI] 45 (0, 0)) → (w'.cell? ⟨w.heap.size, 1, none⟩ = some (.int .i64 KY) ∧ w'.cell? ⟨w.heap.size, 3, none⟩ = some (.slice va vn vc) ∧ w'.cell? ⟨w.heap.size, 4, none⟩ = some (.bool DI)) := fun w' h9 => ⟨(HCL.out w' h9).2.1, (HCL.out w' h9).2.2.2.1, (HCL.out w' h9).2.2.2.2⟩
      have f1 := fun w' h => (hfacts w' h).1
      have f3 := fun w' h => (hfacts w' h).2.1
      have f4 := fun w' h => (hfacts w' h).2.2
      clear hfacts
      have hAS0 : AS wA.drew base p q t c r := HA.out.1.below (Below.refl _ _).drew
      have hBz : B ≤ wA.drew.heap.size := Nat.le_trans hB hAS0.base_le
      have hsb0 : SlB wA.drew B (.slice va vn vc) BY := HA.out.2.1.below (Below.refl _ _).drew (Nat.le_trans hB HA.out.1.base_le)
      have hln := hAS0.len
      have hrm := hAS0.room
      have HPUT := hid (put_W hAS0.hc (ok_of hAS0.hc hAS0.sim (by omega) (by omega)) KY hk (.slice va vn vc) BY B hsb0 hBz hl DI (by have := hAS0.sim.ut; omega) hAS0.sim.us hAS0.len (by omega))
      have H0 := hid (And.intro hAS0 hsb0)
      clear hAS0 hsb0 hBz hln hrm
      go_wp2_with fail
      refine wp_region_held_drew (S := fun w' => w'.heap[w.heap.size]? = some (.cells #[.int .i64 0, .int .i64 KY, .int .i64 FI, .slice va vn vc, .bool DI] 45 (0, 0))) (by kernel_rfl) (by exact HA.out.2.2.1) (fun hHeld => ?_)
      refine wpAnyH_take (i := 0) (v := ?_) rfl (by kernel_rfl) (by kernel_rfl) (by kernel_rfl) (fun _ _ _ h => h) (Or.inl ⟨by rfl, ?_⟩) (by assumption) ?_
      rotate_left
      · (intro w hSw; (try dsimp only at hSw); go_simp; try (with_reducible rfl))
      try simp only [Act.put, List.getElem_toArray, List.getElem_cons_succ, List.getElem_cons_zero, List.setIfInBounds_toArray, List.set_cons_zero, List.set_cons_succ]
      refine wpAnyH_take (i := 1) (v := ?_) rfl (by kernel_rfl) (by kernel_rfl) (by kernel_rfl) (fun _ _ _ h => h) (Or.inl ⟨by rfl, ?_⟩) (by assumption) ?_
      rotate_left
      · (intro w hSw; (try dsimp only at hSw); go_simp; try (with_reducible rfl))
      try simp only [Act.put, List.getElem_toArray, List.getElem_cons_succ, List.getElem_cons_zero, List.setIfInBounds_toArray, List.set_cons_zero, List.set_cons_succ]
      refine wpAnyH_take (i := 2) (v := ?_) rfl (by kernel_rfl) (by kernel_rfl) (by kernel_rfl) (fun _ _ _ h => h) (Or.inl ⟨by rfl, ?_⟩) (by assumption) ?_
      rotate_left
      · (intro w hSw; (try dsimp only at hSw); go_simp; try (with_reducible rfl))
      try simp only [Act.put, List.getElem_toArray, List.getElem_cons_succ, List.getElem_cons_zero, List.setIfInBounds_toArray, List.set_cons_zero, List.set_cons_succ]
      refine wpAnyH_take (i := 3) (v := ?_) rfl (by kernel_rfl) (by kernel_rfl) (by kernel_rfl) (fun _ _ _ h => h) (Or.inl ⟨by rfl, ?_⟩) (by assumption) ?_
      rotate_left
      · (intro w hSw; (try dsimp only at hSw); go_simp; try (with_reducible rfl))
      try simp only [Act.put, List.getElem_toArray, List.getElem_cons_succ, List.getElem_cons_zero, List.setIfInBounds_toArray, List.set_cons_zero, List.set_cons_succ]
      refine wpAnyH_take (i := 4) (v := ?_) rfl (by kernel_rfl) (by kernel_rfl) (by kernel_rfl) (fun _ _ _ h => h) (Or.inl ⟨by rfl, ?_⟩) (by assumption) ?_
      rotate_left
      · (intro w hSw; (try dsimp only at hSw); go_simp; try (with_reducible rfl))
      try simp only [Act.put, List.getElem_toArray, List.getElem_cons_succ, List.getElem_cons_zero, List.setIfInBounds_toArray, List.set_cons_zero, List.set_cons_succ]
      refine wpAnyH_take (i := 5) (v := ?_) rfl (by kernel_rfl) (by kernel_rfl) (by kernel_rfl) (fun _ _ _ h => h) (Or.inl ⟨by rfl, ?_⟩) (by assumption) ?_
      rotate_left
      · (intro w hSw; (try dsimp only at hSw); go_simp; try (with_reducible rfl))
      try simp only [Act.put, List.getElem_toArray, List.getElem_cons_succ, List.getElem_cons_zero, List.setIfInBounds_toArray, List.set_cons_zero, List.set_cons_succ]
      refine wpAnyH_take (i := 6) (v := ?_) rfl (by kernel_rfl) (by kernel_rfl) (by kernel_rfl) (fun _ _ _ h => h) (Or.inl ⟨by rfl, ?_⟩) (by assumption) ?_
      rotate_left
      · (intro w hSw; (try dsimp only at hSw); go_simp; try (with_reducible rfl))
      try simp only [Act.put, List.getElem_toArray, List.getElem_cons_succ, List.getElem_cons_zero, List.setIfInBounds_toArray, List.set_cons_zero, List.set_cons_succ]
      refine wpAnyH_take (i := 8) (v := ?_) rfl (by kernel_rfl) (by kernel_rfl) (by kernel_rfl) (fun _ _ _ h => h) (Or.inl ⟨by rfl, ?_⟩) (by assumption) ?_
      rotate_left
      · (intro w hSw; (try dsimp only at hSw); go_simp; try (with_reducible rfl))
      try simp only [Act.put, List.getElem_toArray, List.getElem_cons_succ, List.getElem_cons_zero, List.setIfInBounds_toArray, List.set_cons_zero, List.set_cons_succ]
      refine wpAnyH_take (i := 9) (v := ?_) rfl (by kernel_rfl) (by kernel_rfl) (by kernel_rfl) (fun _ _ _ h => h) (Or.inl ⟨by rfl, ?_⟩) (by assumption) ?_
      rotate_left
      · (intro w hSw; (try dsimp only at hSw); go_simp; try (with_reducible rfl))
      try simp only [Act.put, List.getElem_toArray, List.getElem_cons_succ, List.getElem_cons_zero, List.setIfInBounds_toArray, List.set_cons_zero, List.set_cons_succ]
      refine wpAnyH_take (i := 10) (v := ?_) rfl (by kernel_rfl) (by kernel_rfl) (by kernel_rfl) (fun _ _ _ h => h) (Or.inl ⟨by rfl, ?_⟩) (by assumption) ?_
      rotate_left
      · (intro w hSw; (try dsimp only at hSw); go_simp; try (with_reducible rfl))
      try simp only [Act.put, List.getElem_toArray, List.getElem_cons_succ, List.getElem_cons_zero, List.setIfInBounds_toArray, List.set_cons_zero, List.set_cons_succ]
      refine wpAnyH_take (i := 11) (v := ?_) rfl (by kernel_rfl) (by kernel_rfl) (by kernel_rfl) (fun _ _ _ h => h) (Or.inl ⟨by rfl, ?_⟩) (by assumption) ?_
      rotate_left
      · (intro w hSw; (try dsimp only at hSw); go_simp; try (with_reducible rfl))
      try simp only [Act.put, List.getElem_toArray, List.getElem_cons_succ, List.getElem_cons_zero, List.setIfInBounds_toArray, List.set_cons_zero, List.set_cons_succ]
      refine wpAnyH_take (i := 12) (v := ?_) rfl (by kernel_rfl) (by kernel_rfl) (by kernel_rfl) (fun _ _ _ h => h) (Or.inl ⟨by rfl, ?_⟩) (by assumption) ?_
      rotate_left
      · (intro w hSw; (try dsimp only at hSw); go_simp; try (with_reducible rfl))
      try simp only [Act.put, List.getElem_toArray, List.getElem_cons_succ, List.getElem_cons_zero, List.setIfInBounds_toArray, List.set_cons_zero, List.set_cons_succ]
      refine wpAnyH_take (i := 13) (v := ?_) rfl (by kernel_rfl) (by kernel_rfl) (by kernel_rfl) (fun _ _ _ h => h) (Or.inl ⟨by rfl, ?_⟩) (by assumption) ?_
      rotate_left
      · (intro w hSw; (try dsimp only at hSw); go_simp; try (with_reducible rfl))
      try simp only [Act.put, List.getElem_toArray, List.getElem_cons_succ, List.getElem_cons_zero, List.setIfInBounds_toArray, List.set_cons_zero, List.set_cons_succ]
      refine wpAnyH_take (i := 14) (v := ?_) rfl (by kernel_rfl) (by kernel_rfl) (by kernel_rfl) (fun _ _ _ h => h) (Or.inl ⟨by rfl, ?_⟩) (by assumption) ?_
      rotate_left
      · (intro w hSw; (try dsimp only at hSw); go_simp; try (with_reducible rfl))
      try simp only [Act.put, List.getElem_toArray, List.getElem_cons_succ, List.getElem_cons_zero, List.setIfInBounds_toArray, List.set_cons_zero, List.set_cons_succ]
      refine wpAnyH_ready (rs := [7]) (by kernel_rfl) (by simp) (AllReadyH.cons rfl (fun K hK => ?_) AllReadyH.nil)
      go_simp
      go_wp2_with (fail)
      refine HPUT.out.mono ?_
      rintro e w5 ⟨v5, o5, c5, rfl, hpr5, hc5, hb5, hk5, ho5⟩
      have hS5 := Out.box (w := wA.drew) HA.out.2.2.1 hk5
      have hx5 := H0.out.1.hx.kt hk5
      have hsb5 := H0.out.2.below hb5 hB
      have hle := H0.out.1.sim.len
      have hln := H0.out.1.len
      have hrm := H0.out.1.room
      have hro := H0.out.1.sim.room
      have HRP := hid (rput_X hx5 KY (.slice va vn vc) BY B hsb5 hB hl DI (by omega) (by omega) ρ HA.out.2.2.2.2.2)
      obtain ⟨xa, xn, xc, rfl⟩ := ownG_shape (ownI_G ho5)
      have H5 := hid (And.intro hpr5 (And.intro hc5 (And.intro hb5 (And.intro hS5 ho5))))
      clear hx5 hsb5 hle hln hrm hro hpr5 hc5 hb5 hk5 ho5 hS5
      go_wp2_with (fail)
      refine hK.out _ _ (by exact H5.out.2.2.2.1) (fun hHeld5 => ?_)
      clear hK K hHeld
      have hHeld := hHeld5
      clear hHeld5
      try simp only [Act.put, List.getElem_toArray, List.getElem_cons_succ, List.getElem_cons_zero, List.setIfInBounds_toArray, List.set_cons_zero, List.set_cons_succ]
      refine wpAnyH_ready (rs := [15]) (by kernel_rfl) (by simp) (AllReadyH.cons rfl (fun K hK => ?_) AllReadyH.nil)
      go_simp
      go_wp2_with (fail)
      refine HRP.out.mono ?_
      rintro e w6 ⟨v6, o6, r6, rfl, hpr6, ho6, hx6, hs6⟩
      obtain ⟨hsim, heq⟩ := H0.out.1.sim.put hl HA.out.2.2.2.2.2 H5.out.1 hpr6
      subst heq
      have hS6 := KR.box H5.out.2.2.2.1 hs6.kr
      have ho56 := ownI_kr H5.out.2.2.2.2 hs6.kr
      have hol : o5.length ≤ 1000000000 := Nat.le_trans (putRR_len hpr6 HA.out.2.2.2.2.2 (Nat.le_trans H0.out.1.sim.rt (by omega))) (by omega)
      have HI := hid (ints39 o5 (.slice xa xn xc) v6 w6 ho56.slI ho6.slI hol)
      obtain ⟨ya, yn, yc, rfl⟩ := ownG_shape (ownI_G ho6)
      have hpl := put_len H0.out.1.sim.kn H0.out.1.len H5.out.1
      have hrm := H0.out.1.room
      have H6 := hid (show AS w6 base p q (t + 1) c5 r6 ∧ Below base wA.drew w6 ∧ _ from ⟨⟨H5.out.2.1.kr hs6.kr, hx6, hsim, hpl.1, by omega⟩, H5.out.2.2.1.trans hs6.bel, hS6⟩)
      clear hpr6 ho6 hx6 hs6 hsim hS6 ho56 hol hpl hrm
      go_wp2_with (fail)
      refine hK.out _ _ (by exact H6.out.2.2) (fun hHeld5 => ?_)
      clear hK K hHeld
      have hHeld := hHeld5
      clear hHeld5
      try simp only [Act.put, List.getElem_toArray, List.getElem_cons_succ, List.getElem_cons_zero, List.setIfInBounds_toArray, List.set_cons_zero, List.set_cons_succ]
      refine wpAnyH_ready (rs := [16]) (by kernel_rfl) (by simp) (AllReadyH.cons rfl (fun K hK => ?_) AllReadyH.nil)
      go_simp
      go_wp2_with (fail)
      refine HI.out.mono ?_
      rintro e w7 ⟨rfl, hb7⟩
      have hS7 := (hb7.block _ (blk_lt H6.out.2.2)).trans H6.out.2.2
      have H7 := hid (And.intro (H6.out.1.below hb7) (And.intro (H6.out.2.1.trans (hb7.mono H6.out.1.base_le)) hS7))
      clear hb7 hS7
      go_wp2_with (fail)
      refine hK.out _ _ (by exact H7.out.2.2) (fun hHeld5 => ?_)
      clear hK K hHeld
      have hHeld := hHeld5
      clear hHeld5
      try simp only [Act.put, List.getElem_toArray, List.getElem_cons_succ, List.getElem_cons_zero, List.setIfInBounds_toArray, List.set_cons_zero, List.set_cons_succ]
      refine wpAnyH_take (i := 17) (v := ?_) rfl (by kernel_rfl) (by kernel_rfl) (by kernel_rfl) (fun _ _ _ h => h) (Or.inl ⟨by rfl, ?_⟩) (by assumption) ?_
      rotate_left
      · (intro w hSw; (try dsimp only at hSw); go_simp; try (with_reducible rfl))
      try simp only [Act.put, List.getElem_toArray, List.getElem_cons_succ, List.getElem_cons_zero, List.setIfInBounds_toArray, List.set_cons_zero, List.set_cons_succ]
      refine wpAnyH_done (by kernel_rfl) ?_ _
      clear f1 f3 f4 hHeld
      go_wp2_with fail
      go_meet
      case rel => exact ⟨_, _, H7.out.1, (HA.out.2.2.2.1.mono HA.out.2.2.2.2.1).drew.trans H7.out.2.1⟩
    have g0 : (WH == 0) = false := by simpa using h0
    by_cases h1 : WH = 1
    · subst h1
      have hfacts : ∀ w' : World, w'.heap[w.heap.size]? = some (.cells #[.int .i64 1, .int .i64 KY, .int .i64 FI, .slice va vn vc, .bool DI] 45 (0, 0)) → (w'.cell? ⟨w.heap.size, 1, none⟩ = some (.int .i64 KY) ∧ w'.cell? ⟨w.heap.size, 3, none⟩ = some (.slice va vn vc) ∧ w'.cell? ⟨w.heap.size, 4, none⟩ = some (.bool DI)) := fun w' h9 => ⟨(HCL.out w' h9).2.1, (HCL.out w' h9).2.2.2.1, (HCL.out w' h9).2.2.2.2⟩
      have f1 := fun w' h => (hfacts w' h).1
      have f3 := fun w' h => (hfacts w' h).2.1
      have f4 := fun w' h => (hfacts w' h).2.2
      clear hfacts
      have hAS0 : AS wA.drew base p q t c r := HA.out.1.below (Below.refl _ _).drew
      have hBz : B ≤ wA.drew.heap.size := Nat.le_trans hB hAS0.base_le
      have hsb0 : SlB wA.drew B (.slice va vn vc) BY := HA.out.2.1.below (Below.refl _ _).drew (Nat.le_trans hB HA.out.1.base_le)
      have hln := hAS0.len
      have hrm := hAS0.room
      have HPUT := hid (put_W hAS0.hc (ok_of hAS0.hc hAS0.sim (by omega) (by omega)) KY hk (.slice va vn vc) BY B hsb0 hBz hl DI (by have := hAS0.sim.ut; omega) hAS0.sim.us hAS0.len (by omega))
      have H0 := hid (And.intro hAS0 hsb0)
      clear hAS0 hsb0 hBz hln hrm
      go_wp2_with fail
      refine wp_region_held_drew (S := fun w' => w'.heap[w.heap.size]? = some (.cells #[.int .i64 1, .int .i64 KY, .int .i64 FI, .slice va vn vc, .bool DI] 45 (0, 0))) (by kernel_rfl) (by exact HA.out.2.2.1) (fun hHeld => ?_)
      refine wpAnyH_take (i := 0) (v := ?_) rfl (by kernel_rfl) (by kernel_rfl) (by kernel_rfl) (fun _ _ _ h => h) (Or.inl ⟨by rfl, ?_⟩) (by assumption) ?_
      rotate_left
      · (intro w hSw; (try dsimp only at hSw); go_simp; try (with_reducible rfl))
      try simp only [Act.put, List.getElem_toArray, List.getElem_cons_succ, List.getElem_cons_zero, List.setIfInBounds_toArray, List.set_cons_zero, List.set_cons_succ]
      refine wpAnyH_take (i := 1) (v := ?_) rfl (by kernel_rfl) (by kernel_rfl) (by kernel_rfl) (fun _ _ _ h => h) (Or.inl ⟨by rfl, ?_⟩) (by assumption) ?_
      rotate_left
      · (intro w hSw; (try dsimp only at hSw); go_simp; try (with_reducible rfl))
      try simp only [Act.put, List.getElem_toArray, List.getElem_cons_succ, List.getElem_cons_zero, List.setIfInBounds_toArray, List.set_cons_zero, List.set_cons_succ]
      refine wpAnyH_take (i := 2) (v := ?_) rfl (by kernel_rfl) (by kernel_rfl) (by kernel_rfl) (fun _ _ _ h => h) (Or.inl ⟨by rfl, ?_⟩) (by assumption) ?_
      rotate_left
      · (intro w hSw; (try dsimp only at hSw); go_simp; try (with_reducible rfl))
      try simp only [Act.put, List.getElem_toArray, List.getElem_cons_succ, List.getElem_cons_zero, List.setIfInBounds_toArray, List.set_cons_zero, List.set_cons_succ]
      refine wpAnyH_take (i := 3) (v := ?_) rfl (by kernel_rfl) (by kernel_rfl) (by kernel_rfl) (fun _ _ _ h => h) (Or.inl ⟨by rfl, ?_⟩) (by assumption) ?_
      rotate_left
      · (intro w hSw; (try dsimp only at hSw); go_simp; try (with_reducible rfl))
      try simp only [Act.put, List.getElem_toArray, List.getElem_cons_succ, List.getElem_cons_zero, List.setIfInBounds_toArray, List.set_cons_zero, List.set_cons_succ]
      refine wpAnyH_take (i := 4) (v := ?_) rfl (by kernel_rfl) (by kernel_rfl) (by kernel_rfl) (fun _ _ _ h => h) (Or.inl ⟨by rfl, ?_⟩) (by assumption) ?_
      rotate_left
      · (intro w hSw; (try dsimp only at hSw); go_simp; try (with_reducible rfl))
      try simp only [Act.put, List.getElem_toArray, List.getElem_cons_succ, List.getElem_cons_zero, List.setIfInBounds_toArray, List.set_cons_zero, List.set_cons_succ]
      refine wpAnyH_take (i := 5) (v := ?_) rfl (by kernel_rfl) (by kernel_rfl) (by kernel_rfl) (fun _ _ _ h => h) (Or.inl ⟨by rfl, ?_⟩) (by assumption) ?_
      rotate_left
      · (intro w hSw; (try dsimp only at hSw); go_simp; try (with_reducible rfl))
      try simp only [Act.put, List.getElem_toArray, List.getElem_cons_succ, List.getElem_cons_zero, List.setIfInBounds_toArray, List.set_cons_zero, List.set_cons_succ]
      refine wpAnyH_take (i := 6) (v := ?_) rfl (by kernel_rfl) (by kernel_rfl) (by kernel_rfl) (fun _ _ _ h => h) (Or.inl ⟨by rfl, ?_⟩) (by assumption) ?_
      rotate_left
      · (intro w hSw; (try dsimp only at hSw); go_simp; try (with_reducible rfl))
      try simp only [Act.put, List.getElem_toArray, List.getElem_cons_succ, List.getElem_cons_zero, List.setIfInBounds_toArray, List.set_cons_zero, List.set_cons_succ]
      refine wpAnyH_take (i := 8) (v := ?_) rfl (by kernel_rfl) (by kernel_rfl) (by kernel_rfl) (fun _ _ _ h => h) (Or.inl ⟨by rfl, ?_⟩) (by assumption) ?_
      rotate_left
      · (intro w hSw; (try dsimp only at hSw); go_simp; try (with_reducible rfl))
      try simp only [Act.put, List.getElem_toArray, List.getElem_cons_succ, List.getElem_cons_zero, List.setIfInBounds_toArray, List.set_cons_zero, List.set_cons_succ]
      refine wpAnyH_take (i := 9) (v := ?_) rfl (by kernel_rfl) (by kernel_rfl) (by kernel_rfl) (fun _ _ _ h => h) (Or.inl ⟨by rfl, ?_⟩) (by assumption) ?_
      rotate_left
      · (intro w hSw; (try dsimp only at hSw); go_simp; try (with_reducible rfl))
      try simp only [Act.put, List.getElem_toArray, List.getElem_cons_succ, List.getElem_cons_zero, List.setIfInBounds_toArray, List.set_cons_zero, List.set_cons_succ]
      refine wpAnyH_take (i := 10) (v := ?_) rfl (by kernel_rfl) (by kernel_rfl) (by kernel_rfl) (fun _ _ _ h => h) (Or.inl ⟨by rfl, ?_⟩) (by assumption) ?_
      rotate_left
      · (intro w hSw; (try dsimp only at hSw); go_simp; try (with_reducible rfl))
      try simp only [Act.put, List.getElem_toArray, List.getElem_cons_succ, List.getElem_cons_zero, List.setIfInBounds_toArray, List.set_cons_zero, List.set_cons_succ]
      refine wpAnyH_take (i := 11) (v := ?_) rfl (by kernel_rfl) (by kernel_rfl) (by kernel_rfl) (fun _ _ _ h => h) (Or.inl ⟨by rfl, ?_⟩) (by assumption) ?_
      rotate_left
      · (intro w hSw; (try dsimp only at hSw); go_simp; try (with_reducible rfl))
      try simp only [Act.put, List.getElem_toArray, List.getElem_cons_succ, List.getElem_cons_zero, List.setIfInBounds_toArray, List.set_cons_zero, List.set_cons_succ]
      refine wpAnyH_take (i := 12) (v := ?_) rfl (by kernel_rfl) (by kernel_rfl) (by kernel_rfl) (fun _ _ _ h => h) (Or.inl ⟨by rfl, ?_⟩) (by assumption) ?_
      rotate_left
      · (intro w hSw; (try dsimp only at hSw); go_simp; try (with_reducible rfl))
      try simp only [Act.put, List.getElem_toArray, List.getElem_cons_succ, List.getElem_cons_zero, List.setIfInBounds_toArray, List.set_cons_zero, List.set_cons_succ]
      refine wpAnyH_take (i := 13) (v := ?_) rfl (by kernel_rfl) (by kernel_rfl) (by kernel_rfl) (fun _ _ _ h => h) (Or.inl ⟨by rfl, ?_⟩) (by assumption) ?_
      rotate_left
      · (intro w hSw; (try dsimp only at hSw); go_simp; try (with_reducible rfl))
      try simp only [Act.put, List.getElem_toArray, List.getElem_cons_succ, List.getElem_cons_zero, List.setIfInBounds_toArray, List.set_cons_zero, List.set_cons_succ]
      refine wpAnyH_take (i := 14) (v := ?_) rfl (by kernel_rfl) (by kernel_rfl) (by kernel_rfl) (fun _ _ _ h => h) (Or.inl ⟨by rfl, ?_⟩) (by assumption) ?_
      rotate_left
      · (intro w hSw; (try dsimp only at hSw); go_simp; try (with_reducible rfl))
      try simp only [Act.put, List.getElem_toArray, List.getElem_cons_succ, List.getElem_cons_zero, List.setIfInBounds_toArray, List.set_cons_zero, List.set_cons_succ]
      refine wpAnyH_ready (rs := [7]) (by kernel_rfl) (by simp) (AllReadyH.cons rfl (fun K hK => ?_) AllReadyH.nil)
      go_simp
      go_wp2_with (fail)
      refine HPUT.out.mono ?_
      rintro e w5 ⟨v5, o5, c5, rfl, hpr5, hc5, hb5, hk5, ho5⟩
      have hS5 := Out.box (w := wA.drew) HA.out.2.2.1 hk5
      have hx5 := H0.out.1.hx.kt hk5
      have hsb5 := H0.out.2.below hb5 hB
      have hle := H0.out.1.sim.len
      have hln := H0.out.1.len
      have hrm := H0.out.1.room
      have hro := H0.out.1.sim.room
      have HRP := hid (rput_X hx5 KY (.slice va vn vc) BY B hsb5 hB hl DI (by omega) (by omega) ρ HA.out.2.2.2.2.2)
      obtain ⟨xa, xn, xc, rfl⟩ := ownG_shape (ownI_G ho5)
      have H5 := hid (And.intro hpr5 (And.intro hc5 (And.intro hb5 (And.intro hS5 ho5))))
      clear hx5 hsb5 hle hln hrm hro hpr5 hc5 hb5 hk5 ho5 hS5
      go_wp2_with (fail)
      refine hK.out _ _ (by exact H5.out.2.2.2.1) (fun hHeld5 => ?_)
      clear hK K hHeld
      have hHeld := hHeld5
      clear hHeld5
      try simp only [Act.put, List.getElem_toArray, List.getElem_cons_succ, List.getElem_cons_zero, List.setIfInBounds_toArray, List.set_cons_zero, List.set_cons_succ]
      refine wpAnyH_ready (rs := [15]) (by kernel_rfl) (by simp) (AllReadyH.cons rfl (fun K hK => ?_) AllReadyH.nil)
      go_simp
      go_wp2_with (fail)
      refine HRP.out.mono ?_
      rintro e w6 ⟨v6, o6, r6, rfl, hpr6, ho6, hx6, hs6⟩
      obtain ⟨hsim, heq⟩ := H0.out.1.sim.put hl HA.out.2.2.2.2.2 H5.out.1 hpr6
      subst heq
      have hS6 := KR.box H5.out.2.2.2.1 hs6.kr
      have ho56 := ownI_kr H5.out.2.2.2.2 hs6.kr
      have hol : o5.length ≤ 1000000000 := Nat.le_trans (putRR_len hpr6 HA.out.2.2.2.2.2 (Nat.le_trans H0.out.1.sim.rt (by omega))) (by omega)
      have HI := hid (ints39 o5 (.slice xa xn xc) v6 w6 ho56.slI ho6.slI hol)
      obtain ⟨ya, yn, yc, rfl⟩ := ownG_shape (ownI_G ho6)
      have hpl := put_len H0.out.1.sim.kn H0.out.1.len H5.out.1
      have hrm := H0.out.1.room
      have H6 := hid (show AS w6 base p q (t + 1) c5 r6 ∧ Below base wA.drew w6 ∧ _ from ⟨⟨H5.out.2.1.kr hs6.kr, hx6, hsim, hpl.1, by omega⟩, H5.out.2.2.1.trans hs6.bel, hS6⟩)
      clear hpr6 ho6 hx6 hs6 hsim hS6 ho56 hol hpl hrm
      go_wp2_with (fail)
      refine hK.out _ _ (by exact H6.out.2.2) (fun hHeld5 => ?_)
      clear hK K hHeld
      have hHeld := hHeld5
      clear hHeld5
      try simp only [Act.put, List.getElem_toArray, List.getElem_cons_succ, List.getElem_cons_zero, List.setIfInBounds_toArray, List.set_cons_zero, List.set_cons_succ]
      refine wpAnyH_ready (rs := [16]) (by kernel_rfl) (by simp) (AllReadyH.cons rfl (fun K hK => ?_) AllReadyH.nil)
      go_simp
      go_wp2_with (fail)
      refine HI.out.mono ?_
      rintro e w7 ⟨rfl, hb7⟩
      have hS7 := (hb7.block _ (blk_lt H6.out.2.2)).trans H6.out.2.2
      have H7 := hid (And.intro (H6.out.1.below hb7) (And.intro (H6.out.2.1.trans (hb7.mono H6.out.1.base_le)) hS7))
      clear hb7 hS7
      go_wp2_with (fail)
      refine hK.out _ _ (by exact H7.out.2.2) (fun hHeld5 => ?_)
      clear hK K hHeld
      have hHeld := hHeld5
      clear hHeld5
      try simp only [Act.put, List.getElem_toArray, List.getElem_cons_succ, List.getElem_cons_zero, List.setIfInBounds_toArray, List.set_cons_zero, List.set_cons_succ]
      refine wpAnyH_take (i := 17) (v := ?_) rfl (by kernel_rfl) (by kernel_rfl) (by kernel_rfl) (fun _ _ _ h => h) (Or.inl ⟨by rfl, ?_⟩) (by assumption) ?_
      rotate_left
      · (intro w hSw; (try dsimp only at hSw); go_simp; try (with_reducible rfl))
      try simp only [Act.put, List.getElem_toArray, List.getElem_cons_succ, List.getElem_cons_zero, List.setIfInBounds_toArray, List.set_cons_zero, List.set_cons_succ]
      refine wpAnyH_done (by kernel_rfl) ?_ _
      clear f1 f3 f4 hHeld
      go_wp2_with fail
      go_meet
      case rel => exact ⟨_, _, H7.out.1, (HA.out.2.2.2.1.mono HA.out.2.2.2.2.1).drew.trans H7.out.2.1⟩
    have g1 : (WH == 1) = false := by simpa using h1
    by_cases h2 : WH = 2
    · subst h2
      have hfacts : ∀ w' : World, w'.heap[w.heap.size]? = some (.cells #[.int .i64 2, .int .i64 KY, .int .i64 FI, .slice va vn vc, .bool DI] 45 (0, 0)) → (w'.cell? ⟨w.heap.size, 1, none⟩ = some (.int .i64 KY) ∧ w'.cell? ⟨w.heap.size, 3, none⟩ = some (.slice va vn vc) ∧ w'.cell? ⟨w.heap.size, 4, none⟩ = some (.bool DI)) := fun w' h9 => ⟨(HCL.out w' h9).2.1, (HCL.out w' h9).2.2.2.1, (HCL.out w' h9).2.2.2.2⟩
      have f1 := fun w' h => (hfacts w' h).1
      have f3 := fun w' h => (hfacts w' h).2.1
      have f4 := fun w' h => (hfacts w' h).2.2
      clear hfacts
      have hAS0 : AS wA.drew base p q t c r := HA.out.1.below (Below.refl _ _).drew
      have hBz : B ≤ wA.drew.heap.size := Nat.le_trans hB hAS0.base_le
      have hsb0 : SlB wA.drew B (.slice va vn vc) BY := HA.out.2.1.below (Below.refl _ _).drew (Nat.le_trans hB HA.out.1.base_le)
      have hln := hAS0.len
      have hrm := hAS0.room
      have HPUT := hid (put_W hAS0.hc (ok_of hAS0.hc hAS0.sim (by omega) (by omega)) KY hk (.slice va vn vc) BY B hsb0 hBz hl DI (by have := hAS0.sim.ut; omega) hAS0.sim.us hAS0.len (by omega))
      have H0 := hid (And.intro hAS0 hsb0)
      clear hAS0 hsb0 hBz hln hrm
      go_wp2_with fail
      refine wp_region_held_drew (S := fun w' => w'.heap[w.heap.size]? = some (.cells #[.int .i64 2, .int .i64 KY, .int .i64 FI, .slice va vn vc, .bool DI] 45 (0, 0))) (by kernel_rfl) (by exact HA.out.2.2.1) (fun hHeld => ?_)
      refine wpAnyH_take (i := 0) (v := ?_) rfl (by kernel_rfl) (by kernel_rfl) (by kernel_rfl) (fun _ _ _ h => h) (Or.inl ⟨by rfl, ?_⟩) (by assumption) ?_
      rotate_left
      · (intro w hSw; (try dsimp only at hSw); go_simp; try (with_reducible rfl))
      try simp only [Act.put, List.getElem_toArray, List.getElem_cons_succ, List.getElem_cons_zero, List.setIfInBounds_toArray, List.set_cons_zero, List.set_cons_succ]
      refine wpAnyH_take (i := 1) (v := ?_) rfl (by kernel_rfl) (by kernel_rfl) (by kernel_rfl) (fun _ _ _ h => h) (Or.inl ⟨by rfl, ?_⟩) (by assumption) ?_
      rotate_left
      · (intro w hSw; (try dsimp only at hSw); go_simp; try (with_reducible rfl))
      try simp only [Act.put, List.getElem_toArray, List.getElem_cons_succ, List.getElem_cons_zero, List.setIfInBounds_toArray, List.set_cons_zero, List.set_cons_succ]
      refine wpAnyH_take (i := 2) (v := ?_) rfl (by kernel_rfl) (by kernel_rfl) (by kernel_rfl) (fun _ _ _ h => h) (Or.inl ⟨by rfl, ?_⟩) (by assumption) ?_
      rotate_left
      · (intro w hSw; (try dsimp only at hSw); go_simp; try (with_reducible rfl))
      try simp only [Act.put, List.getElem_toArray, List.getElem_cons_succ, List.getElem_cons_zero, List.setIfInBounds_toArray, List.set_cons_zero, List.set_cons_succ]
      refine wpAnyH_take (i := 3) (v := ?_) rfl (by kernel_rfl) (by kernel_rfl) (by kernel_rfl) (fun _ _ _ h => h) (Or.inl ⟨by rfl, ?_⟩) (by assumption) ?_
      rotate_left
      · (intro w hSw; (try dsimp only at hSw); go_simp; try (with_reducible rfl))
      try simp only [Act.put, List.getElem_toArray, List.getElem_cons_succ, List.getElem_cons_zero, List.setIfInBounds_toArray, List.set_cons_zero, List.set_cons_succ]
      refine wpAnyH_take (i := 4) (v := ?_) rfl (by kernel_rfl) (by kernel_rfl) (by kernel_rfl) (fun _ _ _ h => h) (Or.inl ⟨by rfl, ?_⟩) (by assumption) ?_
      rotate_left
      · (intro w hSw; (try dsimp only at hSw); go_simp; try (with_reducible rfl))
      try simp only [Act.put, List.getElem_toArray, List.getElem_cons_succ, List.getElem_cons_zero, List.setIfInBounds_toArray, List.set_cons_zero, List.set_cons_succ]
      refine wpAnyH_take (i := 5) (v := ?_) rfl (by kernel_rfl) (by kernel_rfl) (by kernel_rfl) (fun _ _ _ h => h) (Or.inl ⟨by rfl, ?_⟩) (by assumption) ?_
      rotate_left
      · (intro w hSw; (try dsimp only at hSw); go_simp; try (with_reducible rfl))
      try simp only [Act.put, List.getElem_toArray, List.getElem_cons_succ, List.getElem_cons_zero, List.setIfInBounds_toArray, List.set_cons_zero, List.set_cons_succ]
      refine wpAnyH_take (i := 6) (v := ?_) rfl (by kernel_rfl) (by kernel_rfl) (by kernel_rfl) (fun _ _ _ h => h) (Or.inl ⟨by rfl, ?_⟩) (by assumption) ?_
      rotate_left
      · (intro w hSw; (try dsimp only at hSw); go_simp; try (with_reducible rfl))
      try simp only [Act.put, List.getElem_toArray, List.getElem_cons_succ, List.getElem_cons_zero, List.setIfInBounds_toArray, List.set_cons_zero, List.set_cons_succ]
      refine wpAnyH_take (i := 8) (v := ?_) rfl (by kernel_rfl) (by kernel_rfl) (by kernel_rfl) (fun _ _ _ h => h) (Or.inl ⟨by rfl, ?_⟩) (by assumption) ?_
      rotate_left
      · (intro w hSw; (try dsimp only at hSw); go_simp; try (with_reducible rfl))
      try simp only [Act.put, List.getElem_toArray, List.getElem_cons_succ, List.getElem_cons_zero, List.setIfInBounds_toArray, List.set_cons_zero, List.set_cons_succ]
      refine wpAnyH_take (i := 9) (v := ?_) rfl (by kernel_rfl) (by kernel_rfl) (by kernel_rfl) (fun _ _ _ h => h) (Or.inl ⟨by rfl, ?_⟩) (by assumption) ?_
      rotate_left
      · (intro w hSw; (try dsimp only at hSw); go_simp; try (with_reducible rfl))
      try simp only [Act.put, List.getElem_toArray, List.getElem_cons_succ, List.getElem_cons_zero, List.setIfInBounds_toArray, List.set_cons_zero, List.set_cons_succ]
      refine wpAnyH_take (i := 10) (v := ?_) rfl (by kernel_rfl) (by kernel_rfl) (by kernel_rfl) (fun _ _ _ h => h) (Or.inl ⟨by rfl, ?_⟩) (by assumption) ?_
      rotate_left
      · (intro w hSw; (try dsimp only at hSw); go_simp; try (with_reducible rfl))
      try simp only [Act.put, List.getElem_toArray, List.getElem_cons_succ, List.getElem_cons_zero, List.setIfInBounds_toArray, List.set_cons_zero, List.set_cons_succ]
      refine wpAnyH_take (i := 11) (v := ?_) rfl (by kernel_rfl) (by kernel_rfl) (by kernel_rfl) (fun _ _ _ h => h) (Or.inl ⟨by rfl, ?_⟩) (by assumption) ?_
      rotate_left
      · (intro w hSw; (try dsimp only at hSw); go_simp; try (with_reducible rfl))
      try simp only [Act.put, List.getElem_toArray, List.getElem_cons_succ, List.getElem_cons_zero, List.setIfInBounds_toArray, List.set_cons_zero, List.set_cons_succ]
      refine wpAnyH_take (i := 12) (v := ?_) rfl (by kernel_rfl) (by kernel_rfl) (by kernel_rfl) (fun _ _ _ h => h) (Or.inl ⟨by rfl, ?_⟩) (by assumption) ?_
      rotate_left
      · (intro w hSw; (try dsimp only at hSw); go_simp; try (with_reducible rfl))
      try simp only [Act.put, List.getElem_toArray, List.getElem_cons_succ, List.getElem_cons_zero, List.setIfInBounds_toArray, List.set_cons_zero, List.set_cons_succ]
      refine wpAnyH_take (i := 13) (v := ?_) rfl (by kernel_rfl) (by kernel_rfl) (by kernel_rfl) (fun _ _ _ h => h) (Or.inl ⟨by rfl, ?_⟩) (by assumption) ?_
      rotate_left
      · (intro w hSw; (try dsimp only at hSw); go_simp; try (with_reducible rfl))
      try simp only [Act.put, List.getElem_toArray, List.getElem_cons_succ, List.getElem_cons_zero, List.setIfInBounds_toArray, List.set_cons_zero, List.set_cons_succ]
      refine wpAnyH_take (i := 14) (v := ?_) rfl (by kernel_rfl) (by kernel_rfl) (by kernel_rfl) (fun _ _ _ h => h) (Or.inl ⟨by rfl, ?_⟩) (by assumption) ?_
      rotate_left
      · (intro w hSw; (try dsimp only at hSw); go_simp; try (with_reducible rfl))
      try simp only [Act.put, List.getElem_toArray, List.getElem_cons_succ, List.getElem_cons_zero, List.setIfInBounds_toArray, List.set_cons_zero, List.set_cons_succ]
      refine wpAnyH_ready (rs := [7]) (by kernel_rfl) (by simp) (AllReadyH.cons rfl (fun K hK => ?_) AllReadyH.nil)
      go_simp
      go_wp2_with (fail)
      refine HPUT.out.mono ?_
      rintro e w5 ⟨v5, o5, c5, rfl, hpr5, hc5, hb5, hk5, ho5⟩
      have hS5 := Out.box (w := wA.drew) HA.out.2.2.1 hk5
      have hx5 := H0.out.1.hx.kt hk5
      have hsb5 := H0.out.2.below hb5 hB
      have hle := H0.out.1.sim.len
      have hln := H0.out.1.len
      have hrm := H0.out.1.room
      have hro := H0.out.1.sim.room
      have HRP := hid (rput_X hx5 KY (.slice va vn vc) BY B hsb5 hB hl DI (by omega) (by omega) ρ HA.out.2.2.2.2.2)
      obtain ⟨xa, xn, xc, rfl⟩ := ownG_shape (ownI_G ho5)
      have H5 := hid (And.intro hpr5 (And.intro hc5 (And.intro hb5 (And.intro hS5 ho5))))
      clear hx5 hsb5 hle hln hrm hro hpr5 hc5 hb5 hk5 ho5 hS5
      go_wp2_with (fail)
      refine hK.out _ _ (by exact H5.out.2.2.2.1) (fun hHeld5 => ?_)
      clear hK K hHeld
      have hHeld := hHeld5
      clear hHeld5
      try simp only [Act.put, List.getElem_toArray, List.getElem_cons_succ, List.getElem_cons_zero, List.setIfInBounds_toArray, List.set_cons_zero, List.set_cons_succ]
      refine wpAnyH_ready (rs := [15]) (by kernel_rfl) (by simp) (AllReadyH.cons rfl (fun K hK => ?_) AllReadyH.nil)
      go_simp
      go_wp2_with (fail)
      refine HRP.out.mono ?_
      rintro e w6 ⟨v6, o6, r6, rfl, hpr6, ho6, hx6, hs6⟩
      obtain ⟨hsim, heq⟩ := H0.out.1.sim.put hl HA.out.2.2.2.2.2 H5.out.1 hpr6
      subst heq
      have hS6 := KR.box H5.out.2.2.2.1 hs6.kr
      have ho56 := ownI_kr H5.out.2.2.2.2 hs6.kr
      have hol : o5.length ≤ 1000000000 := Nat.le_trans (putRR_len hpr6 HA.out.2.2.2.2.2 (Nat.le_trans H0.out.1.sim.rt (by omega))) (by omega)
      have HI := hid (ints39 o5 (.slice xa xn xc) v6 w6 ho56.slI ho6.slI hol)
      obtain ⟨ya, yn, yc, rfl⟩ := ownG_shape (ownI_G ho6)
      have hpl := put_len H0.out.1.sim.kn H0.out.1.len H5.out.1
      have hrm := H0.out.1.room
      have H6 := hid (show AS w6 base p q (t + 1) c5 r6 ∧ Below base wA.drew w6 ∧ _ from ⟨⟨H5.out.2.1.kr hs6.kr, hx6, hsim, hpl.1, by omega⟩, H5.out.2.2.1.trans hs6.bel, hS6⟩)
      clear hpr6 ho6 hx6 hs6 hsim hS6 ho56 hol hpl hrm
      go_wp2_with (fail)
      refine hK.out _ _ (by exact H6.out.2.2) (fun hHeld5 => ?_)
      clear hK K hHeld
      have hHeld := hHeld5
      clear hHeld5
      try simp only [Act.put, List.getElem_toArray, List.getElem_cons_succ, List.getElem_cons_zero, List.setIfInBounds_toArray, List.set_cons_zero, List.set_cons_succ]
      refine wpAnyH_ready (rs := [16]) (by kernel_rfl) (by simp) (AllReadyH.cons rfl (fun K hK => ?_) AllReadyH.nil)
      go_simp
      go_wp2_with (fail)
      refine HI.out.mono ?_
      rintro e w7 ⟨rfl, hb7⟩
      have hS7 := (hb7.block _ (blk_lt H6.out.2.2)).trans H6.out.2.2
      have H7 := hid (And.intro (H6.out.1.below hb7) (And.intro (H6.out.2.1.trans (hb7.mono H6.out.1.base_le)) hS7))
      clear hb7 hS7
      go_wp2_with (fail)
      refine hK.out _ _ (by exact H7.out.2.2) (fun hHeld5 => ?_)
      clear hK K hHeld
      have hHeld := hHeld5
      clear hHeld5
      try simp only [Act.put, List.getElem_toArray, List.getElem_cons_succ, List.getElem_cons_zero, List.setIfInBounds_toArray, List.set_cons_zero, List.set_cons_succ]
      refine wpAnyH_take (i := 17) (v := ?_) rfl (by kernel_rfl) (by kernel_rfl) (by kernel_rfl) (fun _ _ _ h => h) (Or.inl ⟨by rfl, ?_⟩) (by assumption) ?_
      rotate_left
      · (intro w hSw; (try dsimp only at hSw); go_simp; try (with_reducible rfl))
      try simp only [Act.put, List.getElem_toArray, List.getElem_cons_succ, List.getElem_cons_zero, List.setIfInBounds_toArray, List.set_cons_zero, List.set_cons_succ]
      refine wpAnyH_done (by kernel_rfl) ?_ _
      clear f1 f3 f4 hHeld
      go_wp2_with fail
      go_meet
      case rel => exact ⟨_, _, H7.out.1, (HA.out.2.2.2.1.mono HA.out.2.2.2.2.1).drew.trans H7.out.2.1⟩
    have g2 : (WH == 2) = false := by simpa using h2
    by_cases h3 : WH = 3
    · subst h3
      have hln := HA.out.1.len
      have hrm := HA.out.1.room
      have HG := hid (get_X HA.out.1.hc KY hk (by have := HA.out.1.sim.ut; omega) (Sim.bs HA.out.1.sim))
      have f1 := e1
      go_wp2_with fail
      refine HG.out.mono ?_
      rintro e w5 ⟨hb5, hk5, hr⟩
      have hS5 := Out.box HA.out.2.2.1 hk5
      have d1 := (HCL.out w5 hS5).2.1
      have hx5 := HA.out.1.hx.kt hk5
      obtain ⟨ls5, lv5, rv5, hR5⟩ := hx5
      have HRG := hid (rget_any hR5 KY HA.out.1.sim.bl)
      rcases hr with ⟨hfn, rfl, hc5⟩ | ⟨g, v5, hfs, rfl, hc5, ho5⟩
      · have H5 := hid (And.intro hb5 (And.intro hc5 hfn))
        clear hb5 hk5 hS5 hR5 hc5 hfn HG
        go_wp2_with fail
        refine HRG.out.mono ?_
        rintro e w6 ⟨hs6, hr6⟩
        rcases hr6 with ⟨ha, rfl, hx6⟩ | ⟨i, it, v6, ha, hi, rfl, hx6, ho6⟩
        · have hcn := conv_sl (P := Try.prog) (src := 22) (dst := 9) (e := 5) Try.underlying22 Try.underlying5 Try.underlying9 (SlB.nil w6 0)
          have H6 := hid (show AS w6 base p q (t + 1) c r from { hc := H5.out.2.1.kr hs6.kr, hx := hx6, sim := HA.out.1.sim.mono (Nat.le_succ _), len := HA.out.1.len, room := HA.out.1.room })
          have HB := hid (H5.out.1.trans hs6.bel)
          clear hs6 hx6 ha
          go_wp2_with fail
          go_meet
          case rel => exact ⟨_, _, H6.out, (HA.out.2.2.2.1.mono HA.out.2.2.2.2.1).trans HB.out⟩
        · exfalso
          have := HA.out.1.sim.at_none.2 H5.out.2.2
          rw [this] at ha; cases ha
      · have H5 := hid (And.intro hb5 (And.intro hc5 (And.intro hfs ho5)))
        obtain ⟨xa, xn, xc, rfl⟩ := slB_shape ho5.slB
        clear hb5 hk5 hS5 hR5 hc5 hfs ho5 HG
        go_wp2_with fail
        refine HRG.out.mono ?_
        rintro e w6 ⟨hs6, hr6⟩
        rcases hr6 with ⟨ha, rfl, hx6⟩ | ⟨i, it, v6, ha, hi, rfl, hx6, ho6⟩
        · exfalso
          have := HA.out.1.sim.at_none.1 ha
          rw [H5.out.2.2.1] at this; cases this
        · have hgb := HA.out.1.sim.getv ha hi H5.out.2.2.1
          have hcn := conv_sl (P := Try.prog) (src := 22) (dst := 9) (e := 5) Try.underlying22 Try.underlying5 Try.underlying9 (ownB_kr H5.out.2.2.2 hs6.kr).slB
          have hcm := conv_sl (P := Try.prog) (src := 22) (dst := 9) (e := 5) Try.underlying22 Try.underlying5 Try.underlying9 ho6.slB
          rw [hgb] at hcn
          obtain ⟨Z, hZ⟩ : ∃ Z, Z = it.b := ⟨_, rfl⟩
          rw [← hZ] at hcn hcm
          obtain ⟨ya, yn, yc, rfl⟩ := slB_shape ho6.slB
          have hkl : (getM c KY).all.length = c.all.length := by have := congrArg List.length (get_keys c KY); simpa using this
          have H6 := hid (show AS w6 base p q (t + 1) (getM c KY) (useR r KY) from { hc := H5.out.2.1.kr hs6.kr, hx := hx6, sim := HA.out.1.sim.get ha, len := by rw [hkl, get_room]; exact HA.out.1.len, room := by rw [get_room]; exact HA.out.1.room })
          have HB := hid (H5.out.1.trans hs6.bel)
          clear hs6 hx6 ha hi ho6 hgb hZ hkl
          go_wp2_with fail
          go_meet
          case rel => exact ⟨_, _, H6.out, (HA.out.2.2.2.1.mono HA.out.2.2.2.2.1).trans HB.out⟩
    have g3 : (WH == 3) = false := by simpa using h3
    by_cases h4 : WH = 4
    · subst h4
      have hfacts : ∀ w' : World, w'.heap[w.heap.size]? = some (.cells #[.int .i64 4, .int .i64 KY, .int .i64 FI, .slice va vn vc, .bool DI] 45 (0, 0)) → (w'.cell? ⟨w.heap.size, 1, none⟩ = some (.int .i64 KY) ∧ w'.cell? ⟨w.heap.size, 2, none⟩ = some (.int .i64 FI)) := fun w' h9 => ⟨(HCL.out w' h9).2.1, (HCL.out w' h9).2.2.1⟩
      have f1 := fun w' h => (hfacts w' h).1
      have f2 := fun w' h => (hfacts w' h).2
      clear hfacts
      have hAS0 : AS wA.drew base p q t c r := HA.out.1.below (Below.refl _ _).drew
      have hln := hAS0.len
      have hrm := hAS0.room
      obtain ⟨A, hAf⟩ : ∃ A, A = afterM c KY FI := ⟨_, rfl⟩
      have HAF := hid (after_K hAS0.hc (ok_of hAS0.hc hAS0.sim (by omega) (by omega)) KY FI hk hf (c' := A.1) (r := A.2) (by rw [hAf]))
      have hsa := hAS0.sim.after KY FI
      have hal := after_len c KY FI
      rw [← hAf] at hsa hal
      have H0 := hid (And.intro hAS0 (And.intro hsa hal))
      clear hAS0 hln hrm hAf hsa hal
      go_wp2_with fail
      refine wp_region_held_drew (S := fun w' => w'.heap[w.heap.size]? = some (.cells #[.int .i64 4, .int .i64 KY, .int .i64 FI, .slice va vn vc, .bool DI] 45 (0, 0))) (by kernel_rfl) (by exact HA.out.2.2.1) (fun hHeld => ?_)
      refine wpAnyH_take (i := 0) (v := ?_) rfl (by kernel_rfl) (by kernel_rfl) (by kernel_rfl) (fun _ _ _ h => h) (Or.inl ⟨by rfl, ?_⟩) (by assumption) ?_
      rotate_left
      · (intro w hSw; (try dsimp only at hSw); go_simp; try (with_reducible rfl))
      try simp only [Act.put, List.getElem_toArray, List.getElem_cons_succ, List.getElem_cons_zero, List.setIfInBounds_toArray, List.set_cons_zero, List.set_cons_succ]
      refine wpAnyH_take (i := 1) (v := ?_) rfl (by kernel_rfl) (by kernel_rfl) (by kernel_rfl) (fun _ _ _ h => h) (Or.inl ⟨by rfl, ?_⟩) (by assumption) ?_
      rotate_left
      · (intro w hSw; (try dsimp only at hSw); go_simp; try (with_reducible rfl))
      try simp only [Act.put, List.getElem_toArray, List.getElem_cons_succ, List.getElem_cons_zero, List.setIfInBounds_toArray, List.set_cons_zero, List.set_cons_succ]
      refine wpAnyH_take (i := 2) (v := ?_) rfl (by kernel_rfl) (by kernel_rfl) (by kernel_rfl) (fun _ _ _ h => h) (Or.inl ⟨by rfl, ?_⟩) (by assumption) ?_
      rotate_left
      · (intro w hSw; (try dsimp only at hSw); go_simp; try (with_reducible rfl))
      try simp only [Act.put, List.getElem_toArray, List.getElem_cons_succ, List.getElem_cons_zero, List.setIfInBounds_toArray, List.set_cons_zero, List.set_cons_succ]
      refine wpAnyH_take (i := 3) (v := ?_) rfl (by kernel_rfl) (by kernel_rfl) (by kernel_rfl) (fun _ _ _ h => h) (Or.inl ⟨by rfl, ?_⟩) (by assumption) ?_
      rotate_left
      · (intro w hSw; (try dsimp only at hSw); go_simp; try (with_reducible rfl))
      try simp only [Act.put, List.getElem_toArray, List.getElem_cons_succ, List.getElem_cons_zero, List.setIfInBounds_toArray, List.set_cons_zero, List.set_cons_succ]
      refine wpAnyH_take (i := 4) (v := ?_) rfl (by kernel_rfl) (by kernel_rfl) (by kernel_rfl) (fun _ _ _ h => h) (Or.inl ⟨by rfl, ?_⟩) (by assumption) ?_
      rotate_left
      · (intro w hSw; (try dsimp only at hSw); go_simp; try (with_reducible rfl))
      try simp only [Act.put, List.getElem_toArray, List.getElem_cons_succ, List.getElem_cons_zero, List.setIfInBounds_toArray, List.set_cons_zero, List.set_cons_succ]
      refine wpAnyH_take (i := 7) (v := ?_) rfl (by kernel_rfl) (by kernel_rfl) (by kernel_rfl) (fun _ _ _ h => h) (Or.inl ⟨by rfl, ?_⟩) (by assumption) ?_
      rotate_left
      · (intro w hSw; (try dsimp only at hSw); go_simp; try (with_reducible rfl))
      try simp only [Act.put, List.getElem_toArray, List.getElem_cons_succ, List.getElem_cons_zero, List.setIfInBounds_toArray, List.set_cons_zero, List.set_cons_succ]
      refine wpAnyH_take (i := 8) (v := ?_) rfl (by kernel_rfl) (by kernel_rfl) (by kernel_rfl) (fun _ _ _ h => h) (Or.inl ⟨by rfl, ?_⟩) (by assumption) ?_
      rotate_left
      · (intro w hSw; (try dsimp only at hSw); go_simp; try (with_reducible rfl))
      try simp only [Act.put, List.getElem_toArray, List.getElem_cons_succ, List.getElem_cons_zero, List.setIfInBounds_toArray, List.set_cons_zero, List.set_cons_succ]
      refine wpAnyH_take (i := 9) (v := ?_) rfl (by kernel_rfl) (by kernel_rfl) (by kernel_rfl) (fun _ _ _ h => h) (Or.inl ⟨by rfl, ?_⟩) (by assumption) ?_
      rotate_left
      · (intro w hSw; (try dsimp only at hSw); go_simp; try (with_reducible rfl))
      try simp only [Act.put, List.getElem_toArray, List.getElem_cons_succ, List.getElem_cons_zero, List.setIfInBounds_toArray, List.set_cons_zero, List.set_cons_succ]
      refine wpAnyH_take (i := 10) (v := ?_) rfl (by kernel_rfl) (by kernel_rfl) (by kernel_rfl) (fun _ _ _ h => h) (Or.inl ⟨by rfl, ?_⟩) (by assumption) ?_
      rotate_left
      · (intro w hSw; (try dsimp only at hSw); go_simp; try (with_reducible rfl))
      try simp only [Act.put, List.getElem_toArray, List.getElem_cons_succ, List.getElem_cons_zero, List.setIfInBounds_toArray, List.set_cons_zero, List.set_cons_succ]
      refine wpAnyH_take (i := 11) (v := ?_) rfl (by kernel_rfl) (by kernel_rfl) (by kernel_rfl) (fun _ _ _ h => h) (Or.inl ⟨by rfl, ?_⟩) (by assumption) ?_
      rotate_left
      · (intro w hSw; (try dsimp only at hSw); go_simp; try (with_reducible rfl))
      try simp only [Act.put, List.getElem_toArray, List.getElem_cons_succ, List.getElem_cons_zero, List.setIfInBounds_toArray, List.set_cons_zero, List.set_cons_succ]
      refine wpAnyH_ready (rs := [5]) (by kernel_rfl) (by simp) (AllReadyH.cons rfl (fun K hK => ?_) AllReadyH.nil)
      go_simp
      go_wp2_with (fail)
      refine HAF.out.mono ?_
      rintro e w5 ⟨rfl, hc5, hb5, hk5⟩
      have hS5 := Out.box (w := wA.drew) HA.out.2.2.1 hk5
      have hx5 := H0.out.1.hx.kt hk5
      have H5 := hid (And.intro hc5 (And.intro hb5 (And.intro hS5 hx5)))
      clear hc5 hb5 hk5 hS5 hx5
      go_wp2_with (fail)
      refine hK.out _ _ (by exact H5.out.2.2.1) (fun hHeld5 => ?_)
      clear hK K hHeld
      have hHeld := hHeld5
      clear hHeld5
      try simp only [Act.put, List.getElem_toArray, List.getElem_cons_succ, List.getElem_cons_zero, List.setIfInBounds_toArray, List.set_cons_zero, List.set_cons_succ]
      refine wpAnyH_ready (rs := [6]) (by kernel_rfl) (by simp) (AllReadyH.cons rfl (fun K hK => ?_) AllReadyH.nil)
      go_simp
      go_wp2_with (fail)
      refine (num_any _ _).mono ?_
      rintro e w' ⟨rfl, rfl⟩
      go_wp2_with (fail)
      refine hK.out _ _ (by exact H5.out.2.2.1) (fun hHeld5 => ?_)
      clear hK K hHeld
      have hHeld := hHeld5
      clear hHeld5
      try simp only [Act.put, List.getElem_toArray, List.getElem_cons_succ, List.getElem_cons_zero, List.setIfInBounds_toArray, List.set_cons_zero, List.set_cons_succ]
      refine wpAnyH_ready (rs := [12]) (by kernel_rfl) (by simp) (AllReadyH.cons rfl (fun K hK => ?_) AllReadyH.nil)
      go_simp
      go_wp2_with (fail)
      obtain ⟨ls5, lv5, rv5, hR5⟩ := H5.out.2.2.2
      have HRA := hid (rafter_any hR5 KY FI ρ HA.out.2.2.2.2.2 (Nat.le_trans (Nat.succ_le_succ H0.out.1.sim.rt) (by omega)))
      rw [← H0.out.2.1.1] at HRA
      refine HRA.out.mono ?_
      rintro e w6 ⟨rfl, hx6, hs6⟩
      have hS6 := KR.box H5.out.2.2.1 hs6.kr
      have hlq := H0.out.1.len
      have hrq := H0.out.1.room
      rw [← H0.out.2.2.2] at hlq hrq
      rw [← H0.out.2.2.1] at hlq
      have H6 := hid (show AS w6 base p q (t + 1) A.1 _ ∧ Below base wA.drew w6 ∧ _ from ⟨⟨H5.out.1.kr hs6.kr, hx6, H0.out.2.1.2, hlq, hrq⟩, H5.out.2.1.trans hs6.bel, hS6⟩)
      clear hx6 hs6 hS6 hR5 hlq hrq
      go_wp2_with (fail)
      refine hK.out _ _ (by exact H6.out.2.2) (fun hHeld5 => ?_)
      clear hK K hHeld
      have hHeld := hHeld5
      clear hHeld5
      try simp only [Act.put, List.getElem_toArray, List.getElem_cons_succ, List.getElem_cons_zero, List.setIfInBounds_toArray, List.set_cons_zero, List.set_cons_succ]
      refine wpAnyH_take (i := 13) (v := ?_) rfl (by kernel_rfl) (by kernel_rfl) (by kernel_rfl) (fun _ _ _ h => h) (Or.inl ⟨by rfl, ?_⟩) (by assumption) ?_
      rotate_left
      · (intro w hSw; (try dsimp only at hSw); go_simp; try (with_reducible rfl))
      try simp only [Act.put, List.getElem_toArray, List.getElem_cons_succ, List.getElem_cons_zero, List.setIfInBounds_toArray, List.set_cons_zero, List.set_cons_succ]
      refine wpAnyH_done (by kernel_rfl) ?_ _
      clear f1 f2 hHeld
      go_wp2_with fail
      go_meet
      case rel => exact ⟨_, _, H6.out.1, (HA.out.2.2.2.1.mono HA.out.2.2.2.2.1).drew.trans H6.out.2.1⟩
    have g4 : (WH == 4) = false := by simpa using h4
    by_cases h5 : WH = 5
    · subst h5
      have hfacts : ∀ w' : World, w'.heap[w.heap.size]? = some (.cells #[.int .i64 5, .int .i64 KY, .int .i64 FI, .slice va vn vc, .bool DI] 45 (0, 0)) → (w'.cell? ⟨w.heap.size, 1, none⟩ = some (.int .i64 KY) ∧ w'.cell? ⟨w.heap.size, 2, none⟩ = some (.int .i64 FI)) := fun w' h9 => ⟨(HCL.out w' h9).2.1, (HCL.out w' h9).2.2.1⟩
      have f1 := fun w' h => (hfacts w' h).1
      have f2 := fun w' h => (hfacts w' h).2
      clear hfacts
      have hAS0 : AS wA.drew base p q t c r := HA.out.1.below (Below.refl _ _).drew
      have hln := hAS0.len
      have hrm := hAS0.room
      obtain ⟨A, hAf⟩ : ∃ A, A = afterM c KY FI := ⟨_, rfl⟩
      have HAF := hid (after_K hAS0.hc (ok_of hAS0.hc hAS0.sim (by omega) (by omega)) KY FI hk hf (c' := A.1) (r := A.2) (by rw [hAf]))
      have hsa := hAS0.sim.after KY FI
      have hal := after_len c KY FI
      rw [← hAf] at hsa hal
      have H0 := hid (And.intro hAS0 (And.intro hsa hal))
      clear hAS0 hln hrm hAf hsa hal
      go_wp2_with fail
      refine wp_region_held_drew (S := fun w' => w'.heap[w.heap.size]? = some (.cells #[.int .i64 5, .int .i64 KY, .int .i64 FI, .slice va vn vc, .bool DI] 45 (0, 0))) (by kernel_rfl) (by exact HA.out.2.2.1) (fun hHeld => ?_)
      refine wpAnyH_take (i := 0) (v := ?_) rfl (by kernel_rfl) (by kernel_rfl) (by kernel_rfl) (fun _ _ _ h => h) (Or.inl ⟨by rfl, ?_⟩) (by assumption) ?_
      rotate_left
      · (intro w hSw; (try dsimp only at hSw); go_simp; try (with_reducible rfl))
      try simp only [Act.put, List.getElem_toArray, List.getElem_cons_succ, List.getElem_cons_zero, List.setIfInBounds_toArray, List.set_cons_zero, List.set_cons_succ]
      refine wpAnyH_take (i := 1) (v := ?_) rfl (by kernel_rfl) (by kernel_rfl) (by kernel_rfl) (fun _ _ _ h => h) (Or.inl ⟨by rfl, ?_⟩) (by assumption) ?_
      rotate_left
      · (intro w hSw; (try dsimp only at hSw); go_simp; try (with_reducible rfl))
      try simp only [Act.put, List.getElem_toArray, List.getElem_cons_succ, List.getElem_cons_zero, List.setIfInBounds_toArray, List.set_cons_zero, List.set_cons_succ]
      refine wpAnyH_take (i := 2) (v := ?_) rfl (by kernel_rfl) (by kernel_rfl) (by kernel_rfl) (fun _ _ _ h => h) (Or.inl ⟨by rfl, ?_⟩) (by assumption) ?_
      rotate_left
      · (intro w hSw; (try dsimp only at hSw); go_simp; try (with_reducible rfl))
      try simp only [Act.put, List.getElem_toArray, List.getElem_cons_succ, List.getElem_cons_zero, List.setIfInBounds_toArray, List.set_cons_zero, List.set_cons_succ]
      refine wpAnyH_take (i := 3) (v := ?_) rfl (by kernel_rfl) (by kernel_rfl) (by kernel_rfl) (fun _ _ _ h => h) (Or.inl ⟨by rfl, ?_⟩) (by assumption) ?_
      rotate_left
      · (intro w hSw; (try dsimp only at hSw); go_simp; try (with_reducible rfl))
      try simp only [Act.put, List.getElem_toArray, List.getElem_cons_succ, List.getElem_cons_zero, List.setIfInBounds_toArray, List.set_cons_zero, List.set_cons_succ]
      refine wpAnyH_take (i := 4) (v := ?_) rfl (by kernel_rfl) (by kernel_rfl) (by kernel_rfl) (fun _ _ _ h => h) (Or.inl ⟨by rfl, ?_⟩) (by assumption) ?_
      rotate_left
      · (intro w hSw; (try dsimp only at hSw); go_simp; try (with_reducible rfl))
      try simp only [Act.put, List.getElem_toArray, List.getElem_cons_succ, List.getElem_cons_zero, List.setIfInBounds_toArray, List.set_cons_zero, List.set_cons_succ]
      refine wpAnyH_take (i := 7) (v := ?_) rfl (by kernel_rfl) (by kernel_rfl) (by kernel_rfl) (fun _ _ _ h => h) (Or.inl ⟨by rfl, ?_⟩) (by assumption) ?_
      rotate_left
      · (intro w hSw; (try dsimp only at hSw); go_simp; try (with_reducible rfl))
      try simp only [Act.put, List.getElem_toArray, List.getElem_cons_succ, List.getElem_cons_zero, List.setIfInBounds_toArray, List.set_cons_zero, List.set_cons_succ]
      refine wpAnyH_take (i := 8) (v := ?_) rfl (by kernel_rfl) (by kernel_rfl) (by kernel_rfl) (fun _ _ _ h => h) (Or.inl ⟨by rfl, ?_⟩) (by assumption) ?_
      rotate_left
      · (intro w hSw; (try dsimp only at hSw); go_simp; try (with_reducible rfl))
      try simp only [Act.put, List.getElem_toArray, List.getElem_cons_succ, List.getElem_cons_zero, List.setIfInBounds_toArray, List.set_cons_zero, List.set_cons_succ]
      refine wpAnyH_take (i := 9) (v := ?_) rfl (by kernel_rfl) (by kernel_rfl) (by kernel_rfl) (fun _ _ _ h => h) (Or.inl ⟨by rfl, ?_⟩) (by assumption) ?_
      rotate_left
      · (intro w hSw; (try dsimp only at hSw); go_simp; try (with_reducible rfl))
      try simp only [Act.put, List.getElem_toArray, List.getElem_cons_succ, List.getElem_cons_zero, List.setIfInBounds_toArray, List.set_cons_zero, List.set_cons_succ]
      refine wpAnyH_take (i := 10) (v := ?_) rfl (by kernel_rfl) (by kernel_rfl) (by kernel_rfl) (fun _ _ _ h => h) (Or.inl ⟨by rfl, ?_⟩) (by assumption) ?_
      rotate_left
      · (intro w hSw; (try dsimp only at hSw); go_simp; try (with_reducible rfl))
      try simp only [Act.put, List.getElem_toArray, List.getElem_cons_succ, List.getElem_cons_zero, List.setIfInBounds_toArray, List.set_cons_zero, List.set_cons_succ]
      refine wpAnyH_take (i := 11) (v := ?_) rfl (by kernel_rfl) (by kernel_rfl) (by kernel_rfl) (fun _ _ _ h => h) (Or.inl ⟨by rfl, ?_⟩) (by assumption) ?_
      rotate_left
      · (intro w hSw; (try dsimp only at hSw); go_simp; try (with_reducible rfl))
      try simp only [Act.put, List.getElem_toArray, List.getElem_cons_succ, List.getElem_cons_zero, List.setIfInBounds_toArray, List.set_cons_zero, List.set_cons_succ]
      refine wpAnyH_ready (rs := [5]) (by kernel_rfl) (by simp) (AllReadyH.cons rfl (fun K hK => ?_) AllReadyH.nil)
      go_simp
      go_wp2_with (fail)
      refine HAF.out.mono ?_
      rintro e w5 ⟨rfl, hc5, hb5, hk5⟩
      have hS5 := Out.box (w := wA.drew) HA.out.2.2.1 hk5
      have hx5 := H0.out.1.hx.kt hk5
      have H5 := hid (And.intro hc5 (And.intro hb5 (And.intro hS5 hx5)))
      clear hc5 hb5 hk5 hS5 hx5
      go_wp2_with (fail)
      refine hK.out _ _ (by exact H5.out.2.2.1) (fun hHeld5 => ?_)
      clear hK K hHeld
      have hHeld := hHeld5
      clear hHeld5
      try simp only [Act.put, List.getElem_toArray, List.getElem_cons_succ, List.getElem_cons_zero, List.setIfInBounds_toArray, List.set_cons_zero, List.set_cons_succ]
      refine wpAnyH_ready (rs := [6]) (by kernel_rfl) (by simp) (AllReadyH.cons rfl (fun K hK => ?_) AllReadyH.nil)
      go_simp
      go_wp2_with (fail)
      refine (num_any _ _).mono ?_
      rintro e w' ⟨rfl, rfl⟩
      go_wp2_with (fail)
      refine hK.out _ _ (by exact H5.out.2.2.1) (fun hHeld5 => ?_)
      clear hK K hHeld
      have hHeld := hHeld5
      clear hHeld5
      try simp only [Act.put, List.getElem_toArray, List.getElem_cons_succ, List.getElem_cons_zero, List.setIfInBounds_toArray, List.set_cons_zero, List.set_cons_succ]
      refine wpAnyH_ready (rs := [12]) (by kernel_rfl) (by simp) (AllReadyH.cons rfl (fun K hK => ?_) AllReadyH.nil)
      go_simp
      go_wp2_with (fail)
      obtain ⟨ls5, lv5, rv5, hR5⟩ := H5.out.2.2.2
      have HRA := hid (rafter_any hR5 KY FI ρ HA.out.2.2.2.2.2 (Nat.le_trans (Nat.succ_le_succ H0.out.1.sim.rt) (by omega)))
      rw [← H0.out.2.1.1] at HRA
      refine HRA.out.mono ?_
      rintro e w6 ⟨rfl, hx6, hs6⟩
      have hS6 := KR.box H5.out.2.2.1 hs6.kr
      have hlq := H0.out.1.len
      have hrq := H0.out.1.room
      rw [← H0.out.2.2.2] at hlq hrq
      rw [← H0.out.2.2.1] at hlq
      have H6 := hid (show AS w6 base p q (t + 1) A.1 _ ∧ Below base wA.drew w6 ∧ _ from ⟨⟨H5.out.1.kr hs6.kr, hx6, H0.out.2.1.2, hlq, hrq⟩, H5.out.2.1.trans hs6.bel, hS6⟩)
      clear hx6 hs6 hS6 hR5 hlq hrq
      go_wp2_with (fail)
      refine hK.out _ _ (by exact H6.out.2.2) (fun hHeld5 => ?_)
      clear hK K hHeld
      have hHeld := hHeld5
      clear hHeld5
      try simp only [Act.put, List.getElem_toArray, List.getElem_cons_succ, List.getElem_cons_zero, List.setIfInBounds_toArray, List.set_cons_zero, List.set_cons_succ]
      refine wpAnyH_take (i := 13) (v := ?_) rfl (by kernel_rfl) (by kernel_rfl) (by kernel_rfl) (fun _ _ _ h => h) (Or.inl ⟨by rfl, ?_⟩) (by assumption) ?_
      rotate_left
      · (intro w hSw; (try dsimp only at hSw); go_simp; try (with_reducible rfl))
      try simp only [Act.put, List.getElem_toArray, List.getElem_cons_succ, List.getElem_cons_zero, List.setIfInBounds_toArray, List.set_cons_zero, List.set_cons_succ]
      refine wpAnyH_done (by kernel_rfl) ?_ _
      clear f1 f2 hHeld
      go_wp2_with fail
      go_meet
      case rel => exact ⟨_, _, H6.out.1, (HA.out.2.2.2.1.mono HA.out.2.2.2.2.1).drew.trans H6.out.2.1⟩
    have g5 : (WH == 5) = false := by simpa using h5
    by_cases h6 : WH = 6
    · subst h6
      have hln := HA.out.1.len
      have hrm := HA.out.1.room
      have HG := hid (flush_K HA.out.1.hc (ok_of HA.out.1.hc HA.out.1.sim (by omega) (by omega)))
      have HFS := hid (HA.out.1.sim.flush ρ HA.out.2.2.2.2.2)
      have HFL := hid (flush_len c)
      go_wp2_with fail
      refine HG.out.mono ?_
      rintro e w5 ⟨v5, rfl, ho5, hc5, hb5, hk5⟩
      have hx5 := HA.out.1.hx.kt hk5
      obtain ⟨ls5, lv5, rv5, hR5⟩ := hx5
      have HRF := hid (rflush_any hR5 ρ HA.out.2.2.2.2.2)
      have hfl : (flushM c).2.length ≤ 1000000000 := by
        have h9 := flushM_out c
        have h8 : c.all.length * c.all.length ≤ 2000 * 2000 := Nat.mul_le_mul (by omega) (by omega)
        omega
      obtain ⟨xa, xn, xc, rfl⟩ := ownG_shape (ownI_G ho5)
      have H5 := hid (And.intro ho5 (And.intro hc5 (And.intro hb5 hfl)))
      clear ho5 hc5 hb5 hk5 hR5 HG hfl
      go_wp2_with fail
      refine HRF.out.mono ?_
      rintro e w6 ⟨v6, rfl, ho6, hx6, hs6⟩
      rw [← HFS.out.1] at ho6
      have HI := hid (ints39 (flushM c).2 (.slice xa xn xc) v6 w6 (ownI_kr H5.out.1 hs6.kr).slI ho6.slI H5.out.2.2.2)
      obtain ⟨ya, yn, yc, rfl⟩ := ownG_shape (ownI_G ho6)
      have H6 := hid (show AS w6 base p q (t + 1) (flushM c).1 (flushR r ρ).1 from { hc := H5.out.2.1.kr hs6.kr, hx := hx6, sim := HFS.out.2.mono (Nat.le_succ _), len := by rw [HFL.out.1, HFL.out.2]; exact HA.out.1.len, room := by rw [HFL.out.2]; exact HA.out.1.room })
      have HB := hid (H5.out.2.2.1.trans hs6.bel)
      clear ho6 hx6 hs6 HRF
      go_wp2_with fail
      refine HI.out.mono ?_
      rintro e w7 ⟨rfl, hb7⟩
      have H7 := hid (And.intro (H6.out.below hb7) (HB.out.trans (hb7.mono H6.out.base_le)))
      clear hb7
      go_wp2_with fail
      go_meet
      case rel => exact ⟨_, _, H7.out.1, (HA.out.2.2.2.1.mono HA.out.2.2.2.2.1).trans H7.out.2⟩
    have g6 : (WH == 6) = false := by simpa using h6
    by_cases h7 : WH = 7
    · subst h7
      have hln := HA.out.1.len
      have hrm := HA.out.1.room
      have HG := hid (drop_X HA.out.1.hc KY hk (ok_of HA.out.1.hc HA.out.1.sim (by omega) (by omega)).sm)
      have HFL := hid (drop_len c KY)
      have f1 := e1
      go_wp2_with fail
      refine HG.out.mono ?_
      rintro e w5 ⟨rfl, hc5, hb5, hk5⟩
      have hS5 := Out.box HA.out.2.2.1 hk5
      have d1 := (HCL.out w5 hS5).2.1
      have hx5 := HA.out.1.hx.kt hk5
      obtain ⟨ls5, lv5, rv5, hR5⟩ := hx5
      have HRD := hid (rdrop_any hR5 KY)
      have H5 := hid (And.intro hc5 hb5)
      clear hc5 hb5 hk5 hR5 HG hS5
      go_wp2_with fail
      refine HRD.out.mono ?_
      rintro e w6 ⟨rfl, hx6, hs6⟩
      have H6 := hid (show AS w6 base p q (t + 1) (dropM c KY) (dropR r KY) from { hc := H5.out.1.kr hs6.kr, hx := hx6, sim := (HA.out.1.sim.drop KY).mono (Nat.le_succ _), len := by rw [HFL.out.2]; exact Nat.le_trans HFL.out.1 HA.out.1.len, room := by rw [HFL.out.2]; exact HA.out.1.room })
      have HB := hid (H5.out.2.trans hs6.bel)
      clear hx6 hs6 HRD
      go_wp2_with fail
      go_meet
      case rel => exact ⟨_, _, H6.out, (HA.out.2.2.2.1.mono HA.out.2.2.2.2.1).trans HB.out⟩
    have g7 : (WH == 7) = false := by simpa using h7
    go_wp2_with fail
    go_meet
    case rel => exact ⟨_, _, { HA.out.1 with sim := HA.out.1.sim.mono (Nat.le_succ _) }, HA.out.2.2.2.1.mono HA.out.2.2.2.2.1⟩
  case rest =>
    obtain ⟨c', r', hAS, hbw⟩ := hcut
    have HE := hid (HEND.out wc c' r' hAS)
    have HB := hid (And.intro hAS hbw)
    clear hAS hbw e0 e1 e2 e3 e4 HEND
    go_wp2_with fail
    refine HE.out.mono ?_
    rintro e w5 ⟨v5, rfl, hb5, ho5, hnext⟩
    obtain ⟨xa, xn, xc, rfl⟩ := ownG_shape (ownI_G ho5)
    have HN := hid hnext
    have H5 := hid hb5
    clear hb5 ho5 hnext HE
    go_wp2_with fail
    refine HN.out.mono ?_
    rintro e w6 ⟨v6, rfl, hb6, hnext⟩
    have HN2 := hid hnext
    have H6 := hid hb6
    clear hb6 hnext HN
    go_wp2_with fail
    refine HN2.out.mono ?_
    rintro e w7 ⟨rfl, hb7⟩
    have H7 := hid hb7
    clear hb7 HN2
    go_wp2_with fail
    go_ret
    have hb := H5.out.trans ((H6.out.mono H5.out.size).trans (H7.out.mono (Nat.le_trans H5.out.size H6.out.size)))
    exact ⟨rfl, ⟨_, _, HB.out.1.below hb⟩, HB.out.2.trans (hb.mono HB.out.1.base_le)⟩
end
end Go.Proofs.Ytbklhhmcigangaa
