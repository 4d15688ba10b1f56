import Derived.Test.YtbklhhmcigangaaR
namespace Go.Lr
/-- a cache's keys, rising -/
def risen (l : List En) : List Int := (l.map (·.k)).mergeSort fun x y => decide (x ≤ y)
/-- those that are to be written -/
def dirtyL (l : List En) : List Int := (risen l).filter fun k => dirtyAt l k
end Go.Lr
namespace Go.Proofs.Ytbklhhmcigangaa
open Go.RowKit Go.Mx Go.Lr Go.Maps Go.Sort Go.Shelf
set_option linter.unusedVariables false
set_option linter.unusedSimpArgs false
section
variable {w w' : World} {base p m : Nat} {c : CM} {fs : List PR}
set_option maxRecDepth 100000 in
theorem clo38 (h : CK w base p m c fs All) (x : Int) (hx : isI x) (hin : x ∈ c.all.map (·.k)) (a : Nat) (hc : w.cell? ⟨a, 0, none⟩ = some (cp p)) : Calls Try.prog 38 #[.int .i64 x, ptr a] w fun e w' => e = .returned (.bool (!dirtyAt c.all x)) ∧ Below w.heap.size w w' := by
  have hlf := h.look x hx
  have c1 := h.cells.2.1
  rcases h.who x with ⟨h1, h2⟩ | ⟨i, f, hi, hk, h1, h2⟩
  · exact absurd hin (find_none.1 h2)
  · rw [h1] at hlf
    replace hlf : (Instr.lookup 56 (.map (some m)) (.int .i64 x) false).run Try.prog w = .ok (.pointer (some ⟨f.fb, 0, none⟩)) w := hlf
    have hd : dirtyAt c.all x = f.en.pg.dirty := by unfold dirtyAt; rw [h2]; rfl
    rw [hd]
    obtain ⟨d0, d1, d2, d3, dz⟩ := h.pcells hi
    obtain ⟨fb, hfb⟩ : ∃ y, y = f.fb := ⟨_, rfl⟩
    obtain ⟨dd, hdd⟩ : ∃ y, y = f.en.pg.dirty := ⟨_, rfl⟩
    rw [← hfb] at hlf d1
    rw [← hdd] at d1 ⊢
    clear h h1 h2 hd d0 d2 d3 dz hi hk hfb hdd hin
    go_enter Try.func38, Try.ntmps38
    go_wp2
    go_ret
    exact ⟨rfl, Below.refl _ _⟩
theorem CK.keysD (h : CK w base p m c fs All) : ∃ D : DataW Unit, w.ownsMap Try.prog 3 ptrR m (plOf fs).length D ∧ Maps.size D = fs.length ∧ (c.all.map (·.k)).Perm (intKeys D) := by
  obtain ⟨D, hown, hsz, hnd, hle, hhas, hat⟩ := h.mp
  refine ⟨D, hown, by rw [hsz]; simp [plOf], ?_⟩
  have e1 : c.all.map (·.k) = (plOf fs).map (·.1) := by rw [plOf_names, h.all, List.map_map]; rfl
  rw [e1]
  refine CollectedI.perm (left := fun _ => false) ⟨hnd, fun s => ?_⟩ hown (int_keyed Try.underlying3) Try.underlying3 (fun _ => rfl)
  rw [hhas s]
  have := look_none (plOf fs) s
  cases hl : Mx.look (plOf fs) s with
  | none => rw [hl] at this; simp [this.1 rfl]
  | some b =>
    rw [hl] at this
    simp only [reduceCtorEq, false_iff, Decidable.not_not] at this
    simp [this]
set_option maxRecDepth 100000 in
set_option maxHeartbeats 1000000 in
theorem dirtyL_any (h : CK w base p m c fs All) (hl : c.all.length ≤ 1000000) : Calls Try.prog 16 #[cp p] w fun e w' => ∃ v, e = .returned v ∧ OwnI w' w.heap.size v (dirtyL c.all) ∧ Below w.heap.size w w' := by
  have hal : Below w.heap.size w (w.alloc (.cells #[cp p] 23)) := (Below.refl _ _).alloc (Nat.le_refl _) _
  have h1 := h.below hal
  have hbox := alloc_new w (.cells #[cp p] 23)
  have c1 := h1.cells.2.1
  obtain ⟨w1, hw1⟩ : ∃ x, x = w.alloc (.cells #[cp p] 23) := ⟨_, rfl⟩
  have hz1 : w1.heap.size = w.heap.size + 1 := by rw [hw1]; simp
  rw [← hw1] at hal h1 hbox
  obtain ⟨D, hown, hsz, hperm⟩ := h1.keysD
  have hlen := h1.lenAll
  have hmax : Maps.size D ≤ maxLen := by rw [hsz]; unfold maxLen; omega
  have hbytes : Maps.size D * 8 ≤ 140737488355328 := by rw [hsz]; omega
  have hK := keys37_c (some m) w1
  have hS := sorted36_c m _ D ptrR w1 hown hmax hbytes
  have c0 : w1.cell? ⟨w.heap.size, 0, none⟩ = some (cp p) := by simp [World.cell?, hbox]
  have HK := hid hK
  have HS := hid hS
  have H := hid (And.intro h1 (And.intro hal (And.intro hbox (And.intro hperm (And.intro hlen (And.intro hl hz1))))))
  clear h h1 hal hbox hown hsz hperm hlen hmax hbytes hK hS hl
  go_enter Try.func16, Try.ntmps16
  go_wp2_with fail
  rw [← hw1]
  refine HK.out.mono ?_
  rintro e w2 ⟨rfl, hw2⟩
  rw [hw2]
  clear hw1
  go_wp2_with fail
  rw [← H.out.2.2.2.2.2.2]
  refine HS.out.mono ?_
  rintro e w3 ⟨v3, ss, rfl, hp, hrow, hnil, hb3⟩
  have hb13 : Below w1.heap.size w1 w3 := ((Below.refl _ _).alloc (Nat.le_refl _) _).trans (hb3.mono (by simp))
  have hs3 : OwnI w3 w1.heap.size v3 (risen c.all) := by
    have e2 : ss.mergeSort (fun x y => decide (x ≤ y)) = risen c.all := mergeSort_of_perm_i (hp.trans H.out.2.2.2.1.symm)
    rw [e2] at hrow
    have hl3 : ss.length = ((risen c.all).map encZ).length := by rw [← e2, List.length_map, (List.mergeSort_perm ss _).length_eq]
    rw [hl3] at hrow
    unfold OwnI OwnV
    exact ownsRow_base_a hrow (by simp)
  have h3 := H.out.1.below hb13
  have hbox3 : w3.heap[w.heap.size]? = some (.cells #[cp p] 23 (0, 0)) := (hb13.block _ (blk_lt H.out.2.2.1)).trans H.out.2.2.1
  have hfree : ∀ q, v3.ownBlock = some q → Free p m fs q := fun q e => H.out.1.free_new (World.ownsRow.lt hs3 q e).1
  have hrl : (risen c.all).length = c.all.length := by unfold risen; rw [(List.mergeSort_perm _ _).length_eq, List.length_map]
  have hDl := delf38 (risen c.all) v3 (fun x => !dirtyAt c.all x) w.heap.size w1.heap.size w3 hs3 (by rw [hrl]; have := H.out.2.2.2.2.2.1; omega) (by have := hb13.size; omega) (by
    intro w4 hk4 x hx
    have hxk : x ∈ c.all.map (·.k) := (List.mergeSort_perm _ _).mem_iff.1 hx
    have h4 := h3.bumped (hs3.any_base H.out.1.base_le) hfree hk4
    refine clo38 h4 x ?_ hxk w.heap.size ?_
    · obtain ⟨D, _, _, _, hwf, _⟩ := h3.mp
      have e1 : c.all.map (·.k) = (plOf fs).map (·.1) := by rw [plOf_names, h3.all, List.map_map]; rfl
      rw [e1] at hxk
      obtain ⟨p9, hp9, hpx⟩ := List.mem_map.1 hxk
      have := hwf p9 hp9
      rw [hpx] at this
      simp [Lit.wf, IntKind.min, IntKind.max, IntKind.bits, IntKind.signed] at this
      exact this
    · have hne : v3.ownBlock ≠ some w.heap.size := fun e => by have := (World.ownsRow.lt hs3 _ e).1; have := H.out.2.2.2.2.2.2; omega
      have := (hk4.block _ (blk_lt hbox3) hne).trans hbox3
      simp [World.cell?, this])
  obtain ⟨va, vn, vc, rfl⟩ := ownG_shape (ownI_G hs3)
  have HD := hid hDl
  have HB := hid hb13
  clear hDl hrl hfree hbox3 h3 hs3 hb13 hp hrow hnil hb3 hw2 c0 c1
  go_wp2_with fail
  refine HD.out.mono ?_
  rintro e w5 ⟨v5, rfl, ho5, hk5, hb5, hv5⟩
  have e5 : (risen c.all).filter (fun x => !!dirtyAt c.all x) = dirtyL c.all := by unfold dirtyL; simp
  rw [e5] at ho5
  have H5 := hid (And.intro ho5 hb5)
  clear ho5 hk5 hb5 hv5 e5
  go_wp2_with fail
  go_ret
  refine ⟨v5, rfl, H5.out.1.any_base (by have := H.out.2.2.2.2.2.2; omega), ?_⟩
  exact (H.out.2.1.trans (HB.out.mono (by have := H.out.2.2.2.2.2.2; omega))).trans (H5.out.2.mono (by have := H.out.2.2.2.2.2.2; omega))
set_option maxRecDepth 100000 in
theorem dirtyL_nil (w : World) : Calls Try.prog 16 #[.pointer none] w fun e w' => e = .returned (.slice none 0 0) ∧ Below w.heap.size w w' := by
  go_enter Try.func16, Try.ntmps16
  go_wp2
  go_ret
  exact ⟨rfl, (Below.refl _ _).alloc (Nat.le_refl _) _⟩
end
end Go.Proofs.Ytbklhhmcigangaa
