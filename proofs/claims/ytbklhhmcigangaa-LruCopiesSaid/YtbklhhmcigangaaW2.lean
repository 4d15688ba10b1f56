import Derived.Test.YtbklhhmcigangaaW1
namespace Go.Lr
set_option linter.unusedVariables false
/-- the key that was used longest ago -/
def IsOld (l : List En) (x : Int) : Prop := x ∈ l.map (·.k) ∧ ∀ y ∈ l.map (·.k), usedAt l x ≤ usedAt l y
def delE (l : List En) (x : Int) : List En := l.filter fun e => !(e.k == x)
/-- one key goes -/
def evict1 (c : CM) (x : Int) (out : List Int) : CM × List Int :=
  ({ (lineM c x out).1 with all := delE (loose (lineM c x out).1.all x) x }, (lineM c x out).2)
theorem loose_keys (l : List En) (k : Int) : (loose l k).map (·.k) = l.map (·.k) := by unfold loose; rw [List.map_map]; rfl
theorem delE_keys (l : List En) (x : Int) : (delE l x).map (·.k) = (l.map (·.k)).filter fun y => !(y == x) := by unfold delE; rw [List.filter_map]; rfl
theorem evict_keys (c : CM) (x : Int) (out : List Int) : (evict1 c x out).1.all.map (·.k) = (c.all.map (·.k)).filter fun y => !(y == x) := by
  show (delE (loose (lineM c x out).1.all x) x).map (·.k) = _
  rw [delE_keys, loose_keys, line_keys]
theorem filter_len {l : List Int} (hn : l.Nodup) {x : Int} (hx : x ∈ l) : (l.filter fun y => !(y == x)).length + 1 = l.length := by
  have h1 := hn.erase_eq_filter x
  have h2 : (l.filter fun y => !(y == x)) = l.filter (· != x) := rfl
  rw [h2, ← h1, List.length_erase_of_mem hx]
  have := List.length_pos_of_mem hx
  omega
theorem evict_len (c : CM) (x : Int) (out : List Int) (hn : (c.all.map (·.k)).Nodup) (hx : x ∈ c.all.map (·.k)) : (evict1 c x out).1.all.length + 1 = c.all.length := by
  have h1 := congrArg List.length (evict_keys c x out)
  have h2 := filter_len hn hx
  rw [List.length_map] at h1 h2
  omega
theorem evict_room (c : CM) (x : Int) (out : List Int) : (evict1 c x out).1.room = c.room := rfl
theorem evict_uses (c : CM) (x : Int) (out : List Int) : (evict1 c x out).1.uses = c.uses := rfl
end Go.Lr
namespace Go.Proofs.Ytbklhhmcigangaa
open Go.RowKit Go.Mx Go.Lr Go.Maps Go.Sort Go.Shelf
set_option linter.unusedVariables false
set_option linter.unusedSimpArgs false
section
variable {w w' : World} {base p m : Nat} {c : CM} {fs : List PR}
set_option maxRecDepth 100000 in
set_option maxHeartbeats 1000000 in
theorem oldest_any (h : CK w base p m c fs All) (hl : c.all.length ≤ 1000000) (hne : c.all ≠ []) (hu : ∀ e ∈ c.all, e.pg.used ≤ 1000000000) : Calls Try.prog 29 #[cp p] w fun e w' => Below w.heap.size w w' ∧ ∃ x, e = .returned (.int .i64 x) ∧ IsOld c.all x := by
  have hal : Below w.heap.size w (w.alloc (.cells #[cp p] 23)) := (Below.refl _ _).alloc (Nat.le_refl _) _
  have h1 := h.below hal
  have hbox := alloc_new w (.cells #[cp p] 23)
  have c1 := h1.cells.2.1
  obtain ⟨w1, hw1⟩ : ∃ x, x = w.alloc (.cells #[cp p] 23) := ⟨_, rfl⟩
  have hz1 : w1.heap.size = w.heap.size + 1 := by rw [hw1]; simp
  rw [← hw1] at hal h1 hbox
  obtain ⟨D, hown, hsz, hperm⟩ := h1.keysD
  have hlen := h1.lenAll
  have hmax : Maps.size D ≤ maxLen := by rw [hsz]; unfold maxLen; omega
  have hbytes : Maps.size D * 8 ≤ 140737488355328 := by rw [hsz]; omega
  have hK := keys37_c (some m) w1
  have hS := collect52_c m _ D ptrR w1 hown hmax hbytes
  have c0 : w1.cell? ⟨w.heap.size, 0, none⟩ = some (cp p) := by simp [World.cell?, hbox]
  have HK := hid hK
  have HS := hid hS
  have H := hid (And.intro h1 (And.intro hal (And.intro hbox (And.intro hperm (And.intro hlen (And.intro hl (And.intro hz1 (And.intro hne hu))))))))
  clear h h1 hal hbox hown hsz hperm hlen hmax hbytes hK hS hl hne hu
  go_enter Try.func29, Try.ntmps29
  go_wp2_with fail
  rw [← hw1]
  refine HK.out.mono ?_
  rintro e w2 ⟨rfl, hw2⟩
  rw [hw2]
  clear hw1
  go_wp2_with fail
  rw [← H.out.2.2.2.2.2.2.1]
  refine HS.out.mono ?_
  rintro e w3 ⟨v3, ss, rfl, hp, hrow, hnil, hb3⟩
  have hb13 : Below w1.heap.size w1 w3 := ((Below.refl _ _).alloc (Nat.le_refl _) _).trans (hb3.mono (by simp))
  have hs3 : OwnI w3 w1.heap.size v3 ss := by
    unfold OwnI OwnV
    have e1 : (ss.map encZ).length = ss.length := by simp
    have hrow' := ownsRow_base_a (base' := w1.heap.size) hrow (by simp)
    rw [List.length_map]
    exact hrow'
  have hperm3 : ss.Perm (c.all.map (·.k)) := hp.trans H.out.2.2.2.1.symm
  have hlss : ss.length = c.all.length := by rw [hperm3.length_eq, List.length_map]
  have hmn := min51 ss v3 (usedAt c.all) w.heap.size w3 hs3.slI (by rw [hlss]; have := H.out.2.2.2.2.2.1; omega) (fun e => H.out.2.2.2.2.2.2.2.1 (List.eq_nil_of_length_eq_zero (by rw [← hlss, e]; rfl))) (by
    intro w4 hb4 x hx y hy
    have h4 := (H.out.1.below hb13).below hb4
    have hbx4 : w4.heap[w.heap.size]? = some (.cells #[cp p] 23 (0, 0)) := ((hb4.block _ (by have := blk_lt H.out.2.2.1; have := hb13.size; omega)).trans (hb13.block _ (blk_lt H.out.2.2.1))).trans H.out.2.2.1
    have hkI : ∀ z, z ∈ c.all.map (·.k) → isI z := fun z hz => by
      obtain ⟨e, he, rfl⟩ := List.mem_map.1 hz
      exact h4.ksI e he
    refine (clo53 h4 x y (hkI _ (hperm3.mem_iff.1 hx)) (hkI _ (hperm3.mem_iff.1 hy)) (hperm3.mem_iff.1 hx) (hperm3.mem_iff.1 hy) H.out.2.2.2.2.2.2.2.2 w.heap.size ?_).mono fun e w5 h5 => h5
    simp [World.cell?, hbx4])
  obtain ⟨va, vn, vc, rfl⟩ := ownG_shape (ownI_G hs3)
  have HD := hid hmn
  have HB := hid (And.intro hb13 hperm3)
  clear hmn hs3 hb13 hp hrow hnil hb3 hw2 c0 c1 hperm3 hlss
  go_wp2_with fail
  refine HD.out.mono ?_
  rintro e w5 ⟨hb5, x, rfl, hx1, hx2⟩
  have H5 := hid (And.intro hb5 (And.intro hx1 hx2))
  clear hb5 hx1 hx2
  go_wp2_with fail
  go_ret
  have hz := H.out.2.2.2.2.2.2.1
  refine ⟨(H.out.2.1.trans (HB.out.1.mono (by omega))).trans (H5.out.1.mono (by have := HB.out.1.size; omega)), x, rfl, HB.out.2.mem_iff.1 H5.out.2.1, fun y hy => H5.out.2.2 y (HB.out.2.mem_iff.2 hy)⟩
theorem CK.delPage (h : CK w base p m c fs All) (k : Int) (hpm : PM Try.prog 3 w' m (Mx.del (plOf fs) k)) (hg : w.grownBy w' (some m)) :
    CK w' base p m { c with all := delE c.all k } (fs.filter fun f => !(f.en.k == k)) All ∧ Stp base p m w fs w' (fs.filter fun f => !(f.en.k == k)) := by
  have hkm : Kept w w' (fun q => q ≠ m) := Kept.grown hg fun k hk hN => by cases hk; exact hN rfl
  have back : ∀ {i : Nat} {f : PR}, (fs.filter fun f => !(f.en.k == k))[i]? = some f → ∃ j, fs[j]? = some f := fun {i f} hi => by
    have := (List.mem_filter.1 (List.mem_of_getElem? hi)).1
    exact List.getElem?_of_mem this
  have hnd : ((fs.filter fun f => !(f.en.k == k)).map (·.en.k)).Nodup := (List.Sublist.map _ (List.filter_sublist)).nodup h.nodup
  have apart : ∀ {i j : Nat} {f g : PR}, (fs.filter fun f => !(f.en.k == k))[i]? = some f → (fs.filter fun f => !(f.en.k == k))[j]? = some g → i ≠ j → f.en.k ≠ g.en.k := fun {i j f g} hi hj hij e => by
    have h1 : ((fs.filter fun f => !(f.en.k == k)).map (·.en.k))[i]? = some f.en.k := by rw [List.getElem?_map, hi]; rfl
    have h2 : ((fs.filter fun f => !(f.en.k == k)).map (·.en.k))[j]? = some f.en.k := by rw [List.getElem?_map, hj, e]; rfl
    obtain ⟨l1, e1⟩ := List.getElem?_eq_some_iff.1 h1
    obtain ⟨l2, e2⟩ := List.getElem?_eq_some_iff.1 h2
    have key := List.pairwise_iff_getElem.1 hnd
    rcases Nat.lt_trichotomy i j with h3 | h3 | h3
    · exact key i j l1 l2 h3 (e1.trans e2.symm)
    · exact hij h3
    · exact key j i l2 l1 h3 (e2.trans e1.symm)
  have cne : ∀ {b : Nat} {cc : Array Value} {t : TypeId} {f : Nat × Nat}, w.heap[b]? = some (.cells cc t f) → b ≠ m := fun {b cc t f} hb => by
    obtain ⟨o, ho, hn⟩ := h.mapObj
    exact not_cells ho hn hb
  refine ⟨{ all := ?_, ck := (hkm.block p h.plt (cne h.ck)).trans h.ck, hp := h.hp, hm := h.hm, mp := ?_, fc := fun i f hi => ?_, ob := fun i f hi => ?_, oa := fun i f hi _ => ?_, af := fun i j f g hi hj hij => ?_, aa := fun i j f g hi hj _ _ hij => ?_, sb := fun i f hi => ?_, sa := fun i f hi => ?_ }, ?_⟩
  · show delE c.all k = _
    rw [h.all]; unfold delE; rw [List.filter_map]; rfl
  · have e1 : plOf (fs.filter fun f => !(f.en.k == k)) = Mx.del (plOf fs) k := by unfold plOf Mx.del; rw [List.filter_map]; rfl
    rw [e1]; exact hpm
  · obtain ⟨j, hj⟩ := back hi
    obtain ⟨h1, h2⟩ := h.fc j f hj
    exact ⟨(hkm.block _ (blk_lt h1) (cne h1)).trans h1, h2⟩
  · obtain ⟨j, hj⟩ := back hi
    refine (h.ob j f hj).kept hkm fun q e => ?_
    obtain ⟨c9, f9, hc9⟩ := ownB_type (h.ob j f hj) q e
    exact cne hc9
  · obtain ⟨j, hj⟩ := back hi
    refine ownI_kept (h.oa j f hj trivial) hkm fun q e => ?_
    obtain ⟨c9, f9, hc9⟩ := ownI_type (h.oa j f hj trivial) q e
    exact cne hc9
  · obtain ⟨i', hi'⟩ := back hi
    obtain ⟨j', hj'⟩ := back hj
    refine h.af i' j' f g hi' hj' fun e => ?_
    subst e; rw [hi'] at hj'; cases hj'
    exact apart hi hj hij rfl
  · obtain ⟨i', hi'⟩ := back hi
    obtain ⟨j', hj'⟩ := back hj
    refine h.aa i' j' f g hi' hj' trivial trivial fun e => ?_
    subst e; rw [hi'] at hj'; cases hj'
    exact apart hi hj hij rfl
  · obtain ⟨j, hj⟩ := back hi; exact h.sb j f hj
  · obtain ⟨j, hj⟩ := back hi; exact h.sa j f hj
  · refine ⟨(Below.refl base _).grown hg h.base_le (fun k hk => by cases hk; exact h.hm), hkm.imp fun q _ hq => hq.2.1, fun q _ hq => ⟨hq.1, hq.2.1, fun i f hi => ?_⟩⟩
    obtain ⟨j, hj⟩ := back hi
    exact hq.2.2 j f hj
end
end Go.Proofs.Ytbklhhmcigangaa
