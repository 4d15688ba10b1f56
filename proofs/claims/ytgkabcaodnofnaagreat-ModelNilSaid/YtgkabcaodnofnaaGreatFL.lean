import Derived.Test.YtgkabcaodnofnaaGreatAP
import Derived.Deep.RegionHeld3
import Derived.Test.YtgkabcaodnofnaaGreatGN
set_option linter.unusedSimpArgs false
set_option linter.unusedVariables false
namespace Go.Md
/-- an image is flushed -/
def flushM (M : MM) (n : Bs) : MM := match fnd M.all n with
  | some i => ⟨M.all, setI M.kept n i, fun m => if m = n then false else M.ch m⟩
  | none => M
end Go.Md
namespace Go.Proofs.YtgkabcaodnofnaaGreat
open Go.RowKit Go.Mx Go.Md
set_option linter.unusedVariables false
set_option linter.unusedSimpArgs false
theorem info28 : (Tryz.prog.info? 28).map (fun i => (i.zero, i.size, i.bytes)) = some (some (.pointer none), 1, 8) := by kernel_rfl
variable {w w' : World} {base mb : Nat} {M : MM} {X : MX}
theorem AM.atx {am : Nat} {S : IL} {xs : List XI} (h : AM w base am S xs) {x : XI} (hx : x ∈ xs) : (Instr.lookup 57 (.map (some am)) (str x.n) false).run Tryz.prog w = .ok (pt x.ib) w := by
  rcases h.at x.n (Nat.le_trans (h.nl x hx) (by unfold maxLen; omega)) with ⟨h1, _⟩ | ⟨z, hz, h1, _, h3⟩
  · rw [h.find hx] at h1; cases h1
  · rw [name_inj h.names hx hz h1] at h3; exact h3
theorem flA {X7 : MX} {M7 : MM} {w7 w8 : World} {fa : Option Addr} {fn fc : Nat} (h : MO w7 base mb M7 X7) (hfv : X7.fv = .slice fa fn fc) (hb : base ≤ w7.heap.size) (hfr : X7.fr.length ≤ 1000000) (hb8 : Below w7.drew.heap.size w7.drew w8) (nb : Nat) :
    OwnG (w8.alloc (.cells #[pt nb] 28)) base 28 1 (.slice fa fn fc) (X7.fr.map fun v => [v]) ∧ (∀ (j : Nat) (u : Value), ([pt nb] : List Value)[j]? = some u → (w8.alloc (.cells #[pt nb] 28)).cell? ⟨w8.heap.size, j, none⟩ = some u) ∧
      ((X7.fr.map fun v => [v]).length + 1) * 8 ≤ 140737488355328 ∧ (X7.fr.map fun v => [v]).length + 1 ≤ 140737488355328 ∧ base ≤ (w8.alloc (.cells #[pt nb] 28)).heap.size ∧
      (∀ w9, (w8.alloc (.cells #[pt nb] 28)).grownBy w9 (Value.slice fa fn fc).ownBlock → w9.frozen? ⟨mb, 7, none⟩ = false) ∧ (∀ w9, (w8.alloc (.cells #[pt nb] 28)).grownBy w9 (Value.slice fa fn fc).ownBlock → w9.cell? ⟨mb, 7, none⟩ = some (.slice fa fn fc)) ∧ (w8.alloc (.cells #[pt nb] 28)).cell? ⟨mb, 7, none⟩ = some (.slice fa fn fc) := by
  have hb7 : Below w7.heap.size w7 w8 := (Below.refl _ _).drew.trans hb8
  have hbA : Below w7.heap.size w7 (w8.alloc (.cells #[pt nb] 28)) := hb7.alloc hb7.size _
  have h9 : ∀ w9, (w8.alloc (.cells #[pt nb] 28)).grownBy w9 (Value.slice fa fn fc).ownBlock → w9.heap[mb]? = some (.cells (mcells X7) 73 (0, 0)) := fun w9 hg => by
    rw [← hfv] at hg
    refine (hg.block mb (Nat.lt_of_lt_of_le (blk_lt h.ck) hbA.size) fun e => ?_).trans ((hbA.block mb (blk_lt h.ck)).trans h.ck)
    exact ((Ap.of h.nd).f mb e.symm).1 rfl
  refine ⟨by rw [← hfv]; exact h.f.below hbA (Nat.le_refl _), fun j u hu => row_cells w8 [pt nb] 28 j u hu, by rw [List.length_map]; omega, by rw [List.length_map]; omega, Nat.le_trans hb hbA.size, fun w9 hg => ?_, fun w9 hg => ?_, ?_⟩
  · simp [World.frozen?, h9 w9 hg]
  · rw [← hfv]; simp [World.cell?, h9 w9 hg]
  · rw [← hfv]; simp only [World.cell?, (hbA.block mb (blk_lt h.ck)).trans h.ck]; rfl
theorem flB {X7 : MX} {M7 : MM} {w7 w8 w9 : World} {fa : Option Addr} {fn fc : Nat} {v9 : Value} (h : MO w7 base mb M7 X7) (hfv : X7.fv = .slice fa fn fc) (hb8 : Below w7.drew.heap.size w7.drew w8) (nb : Nat)
    (ho9 : OwnG w9 base 28 1 v9 ((X7.fr.map fun v => [v]) ++ [[pt nb]])) (hg9 : (w8.alloc (.cells #[pt nb] 28)).grownBy w9 (Value.slice fa fn fc).ownBlock) (hq9 : ∀ q, v9.ownBlock = some q → (Value.slice fa fn fc).ownBlock = some q ∨ (w8.alloc (.cells #[pt nb] 28)).heap.size ≤ q) :
    MO (w9.setCell ⟨mb, 7, none⟩ v9) base mb M7 { X7 with fv := v9, fr := X7.fr ++ [pt nb] } ∧ Stp w7 (w9.setCell ⟨mb, 7, none⟩ v9) (X7.fp mb) (MX.fp mb { X7 with fv := v9, fr := X7.fr ++ [pt nb] }) := by
  have hb7 : Below w7.heap.size w7 w8 := (Below.refl _ _).drew.trans hb8
  have hbA : Below w7.heap.size w7 (w8.alloc (.cells #[pt nb] 28)) := hb7.alloc hb7.size _
  have hap := Ap.of h.nd
  have hq7 : ∀ q, v9.ownBlock = some q → X7.fv.ownBlock = some q ∨ w7.heap.size ≤ q := fun q e => by
    rcases hq9 q e with h1 | h1
    · exact .inl (by rw [hfv]; exact h1)
    · exact .inr (Nat.le_trans hbA.size h1)
  have hk9 : Kept w7 w9 (fun b => X7.fv.ownBlock ≠ some b) := ((Kept.of_below (N := fun _ => True) hbA fun k hk _ => hk).imp fun _ _ => trivial).trans (Kept.grown hg9 fun k hk hn => hn (by rw [hfv]; exact hk))
  have hkA : Kept w7 (w9.setCell ⟨mb, 7, none⟩ v9) (fun b => X7.fv.ownBlock ≠ some b ∧ b ≠ mb) := (hk9.imp fun b hb => hb.1).trans (Kept.set _ _ _ _ (by simp))
  have hq9b : w9.heap[mb]? = some (.cells (mcells X7) 73 (0, 0)) := (hk9.block mb (blk_lt h.ck) fun e => (hap.f mb e).1 rfl).trans h.ck
  have hNI : NI w7 (fun b => X7.fv.ownBlock ≠ some b ∧ b ≠ mb) := fun b c t f hb h3 => by
    refine ⟨fun e => ?_, fun e => ?_⟩
    · obtain ⟨c9, f9, h9⟩ := ownG_type h.f b e
      rw [h9] at hb; cases hb; rcases h3 with h | h | h <;> cases h
    · rw [e, h.ck] at hb; cases hb; rcases h3 with h | h | h <;> cases h
  have hv9 : ∀ q, v9.ownBlock = some q → q ≠ mb := fun q e e2 => by
    rcases hq7 q e with h1 | h1
    · exact (hap.f q h1).1 e2
    · have := blk_lt h.ck; omega
  refine ⟨⟨?_, h.a.kept hkA (fun b hb => ⟨fun e => (hap.f b e).2.2.1 hb, (hap.a b hb).1⟩) hNI, h.k.kept hkA (fun b hb => ⟨fun e => (hap.f b e).2.2.2 hb, (hap.k b hb).1⟩) hNI, h.h.block (hkA.block _ h.h.lt ⟨fun e => (hap.f _ e).2.1 rfl, fun e => hap.mh e.symm⟩), h.ht, h.hc, fun dm e => (h.d dm e).block (hkA.block _ (h.d dm e).lt ⟨(hap.d dm e).2.2.1, (hap.d dm e).1⟩), ?_, ?_⟩, ?_, ?_⟩
  · rw [heap_setCell_at' w9 mb 7 _ _ 73 _ hq9b]; rfl
  · rw [List.map_append]
    exact ho9.kept (Kept.set _ _ _ _ (N := (· ≠ mb)) (by simp)) fun q e => hv9 q e
  · refine Ap.nd ⟨hap.mh, fun q e => ⟨(hap.d q e).1, (hap.d q e).2.1, fun e2 => ?_, (hap.d q e).2.2.2⟩, fun q e => ?_, hap.a, hap.k, hap.na, hap.nk⟩
    · rcases hq7 q e2 with h1 | h1
      · exact (hap.d q e).2.2.1 h1
      · have := (h.d q e).lt; omega
    · rcases hq7 q e with h1 | h1
      · exact hap.f q h1
      · refine ⟨hv9 q e, fun e2 => ?_, fun e2 => ?_, fun e2 => ?_⟩
        · have := h.h.lt; have e3 : q = X7.hm := e2; omega
        · have := h.a.lt q e2; omega
        · have := h.k.lt q e2; omega
  · refine hkA.imp fun b hb => ⟨fun e => hb (MX.mem.2 (by simp [e])), fun e => hb (MX.mem.2 (by simp [e]))⟩
  · intro b hb
    rw [MX.mem] at hb ⊢
    rcases hb with h1 | h1 | h1 | h1 | h1
    · exact .inl (.inl h1)
    · exact .inl (.inr (.inl h1))
    · exact .inl (.inr (.inr (.inl h1)))
    · rcases hq7 b h1 with h2 | h2
      · exact .inl (.inr (.inr (.inr (.inl h2))))
      · exact .inr h2
    · exact .inl (.inr (.inr (.inr (.inr h1))))
set_option maxRecDepth 100000 in
set_option maxHeartbeats 1000000 in
/-- function 77 -/
theorem flush_any (h : MO w base mb M X) (hbase : base ≤ w.heap.size) {x : XI} (hx : x ∈ X.xs) (hl : X.ks.length ≤ 100) (hfl : X.fr.length ≤ 1000000) :
    Calls Tryz.prog 77 #[pt mb, str x.n] w fun e w' => e = .returned (.tuple #[]) ∧ ∃ X', MO w' base mb (flushM M x.n) X' ∧ X'.am = X.am ∧ X'.xs = X.xs ∧ X'.ks.length ≤ X.ks.length + 1 ∧ X'.fr.length = X.fr.length + 1 ∧ X'.dm = X.dm ∧ X'.cl.length ≤ X.cl.length ∧ Stp w w' (X.fp mb) (X'.fp mb) := by
  obtain ⟨c0, c1, c2, _, _, _, _, c7, cz⟩ := h.cells
  have hkm : Kept w w (· ≠ X.km) := Kept.refl _ _
  have hII := h.a.i x hx
  have hok := h.a.ok x hx
  have hnd := h.nd
  unfold MX.fp at hnd
  simp only [List.nodup_cons, List.nodup_append, List.mem_cons, List.mem_append, not_or] at hnd
  obtain ⟨⟨n1, n2, n3, n4, n5⟩, ⟨m2, m3, m4, m5⟩, _, ⟨_, ⟨hnA, hnK, hAK⟩, hfA⟩, hdA⟩ := hnd
  have hlk := fun w' (hk : Kept w w' (· ≠ X.km)) => (h.a.kept hk (fun b hb e => hAK b hb X.km (List.mem_cons_self ..) e) (fun b c t f hb _ e => by obtain ⟨es, k, h1⟩ := h.k.g.isMap; rw [e, h1] at hb; cases hb)).atx hx
  have hkmb : mb ≠ X.km := fun e => n5 (e ▸ List.mem_cons_self ..)
  have d0 : ∀ w', Kept w w' (· ≠ X.km) → w'.cell? ⟨mb, 0, none⟩ = some (.map (some X.am)) := fun w' hk => (hk.cell (blk_lt h.ck) hkmb).trans c0
  have d1 : ∀ w', Kept w w' (· ≠ X.km) → w'.cell? ⟨mb, 1, none⟩ = some (.map (some X.km)) := fun w' hk => (hk.cell (blk_lt h.ck) hkmb).trans c1
  have HC := hid (fun w' (hk : Kept w w' (· ≠ X.km)) => clone_any (hII.kept hk (fun b hb e => hAK b (fpA_mem hx b hb) X.km (List.mem_cons_self ..) e) (fun b c t f hb _ e => by obtain ⟨es, k, h1⟩ := h.k.g.isMap; rw [e, h1] at hb; cases hb)) (Nat.le_trans hbase hk.size) hok.ns)
  have HG := hid (h.k.g.block (w' := w.drew) rfl)
  have hkl : (X.ks.map fun x => (x.n, pt x.ib)).length < maxLen := by rw [List.length_map]; unfold maxLen; omega
  have hnl : x.n.length ≤ maxLen := Nat.le_trans (h.a.nl x hx) (by unfold maxLen; omega)
  have H := hid (And.intro h (And.intro hII hok))
  have HN := hid (And.intro n1 (And.intro n2 (And.intro n3 (And.intro n4 (And.intro n5 (And.intro m2 (And.intro m3 (And.intro m4 (And.intro m5 (And.intro hnA (And.intro hnK (And.intro hAK (And.intro hfA (And.intro hdA (And.intro hkl (And.intro hnl (And.intro c2 c7)))))))))))))))))
  clear h hII hok n1 n2 n3 n4 n5 m2 m3 m4 m5 hnA hnK hAK hfA hdA hkl c2 c7
  have e0 := d0 w hkm
  have e1 := d1 w hkm
  go_enter Tryz.func77, Tryz.ntmps77
  go_upto_region 0 with (fail)
  go_region_held (fun w' => Kept w w' (· ≠ X.km)) (first | exact Kept.drew _ _ | assumption | exact Kept.trans (by assumption) (Kept.drew _ _)) (first
    | (go_at_call 26; refine (HC.out _ (by assumption)).mono ?_; rintro e w5 ⟨rfl, x5, hII5, hnd5, hge5, hb5c⟩; have hk5 : Kept w w5 (· ≠ X.km) := Kept.trans (by assumption) (Kept.of_below hb5c fun k hk _ => hk); obtain ⟨w6, hrun, hg6, hgr6, hs6, hf6⟩ := (HG.out.block (hb5c.block _ HG.out.lt)).upd K9 Tryz.underlying57 x.n hnl (pt w.heap.size) rfl HN.out.2.2.2.2.2.2.2.2.2.2.2.2.2.2.1; have hrun' : (Instr.mapUpdate 57 (.map (some X.km)) (str x.n) (pt w.heap.size)).run Tryz.prog w5 = .ok () w6 := hrun; have hk6 : Kept w w6 (· ≠ X.km) := hk5.trans (Kept.grown hgr6 fun k hk => (by cases hk; simp))))
  obtain ⟨n1, n2, n3, n4, n5, m2, m3, m4, m5, hnA, hnK, hAK, hfA, hdA, hkl, hnl', c2, c7⟩ := HN.out
  obtain ⟨h, hII, hok⟩ := H.out
  have c26 : w6.cell? ⟨mb, 2, none⟩ = some (.map (some X.hm)) := (hk6.cell (blk_lt h.ck) hkmb).trans c2
  have hhk : X.hm ≠ X.km := fun e => m5 (e ▸ List.mem_cons_self ..)
  have hgh6 : GM ES Tryz.prog 9 w6 X.hm X.cl := h.h.block (hk6.block _ h.h.lt hhk)
  obtain ⟨w7, hdel, hg7, hgr7, hs7, hf7⟩ := hgh6.del K9 (t := 58) Tryz.underlying58 x.n hnl' 0
  have hdel' : (Builtin.delete_ #[58, 9] 0 #[.map (some X.hm), str x.n]).run Tryz.prog w6 = .ok (.tuple #[]) w7 := hdel
  have hk7 : Kept w6 w7 (· ≠ X.hm) := Kept.grown hgr7 fun k hk => by cases hk; simp
  have H7 := hid (And.intro hg7 (And.intro hk7 (And.intro hk6 (And.intro hII5 (And.intro hnd5 (And.intro hge5 (And.intro hb5c (And.intro hg6 (And.intro hgr6 (And.intro hs6 (And.intro hgr7 hs7)))))))))))
  clear n1 n2 n3 n4 n5 m2 m3 m4 m5 hnA hnK hAK hfA hdA hkl hnl' c2 c7 h hII hok hg7 hk7 hk6 hII5 hnd5 hge5 hb5c hg6 hgr6 hs6 hgr7 hs7 hgh6 hdel hrun hrun' hf6 hf7 hk5 d0 d1 hlk e0 e1 c0 c1 hkm HC HG
  go_upto_region 2 with (fail)
  obtain ⟨hg7, hk7, hk6, hII5, hnd5, hge5, hb5c, hg6, hgr6, hs6, hgr7, hs7⟩ := H7.out
  obtain ⟨n1, n2, n3, n4, n5, m2, m3, m4, m5, hnA, hnK, hAK, hfA, hdA, hkl, hnl', c2, c7⟩ := HN.out
  obtain ⟨h, hII, hok⟩ := H.out
  have hap := Ap.of h.nd
  have hhk : X.hm ≠ X.km := fun e => m5 (e ▸ List.mem_cons_self ..)
  have hltmb : mb < w.heap.size := blk_lt h.ck
  have hlt := h.lt
  have hlk' : ∀ b ∈ fpA X.km X.ks, b < w.heap.size := h.k.lt
  have hb5 : Below w.heap.size w w5 := (Below.refl _ _).drew.trans hb5c
  have hk65 : Kept w5 w6 (· ≠ X.km) := Kept.grown hgr6 fun k hk => by cases hk; simp
  have hkmlt : X.km < w.heap.size := h.k.g.lt
  have hhmlt : X.hm < w.heap.size := h.h.lt
  have hge5' : ∀ b ∈ x5.fp w.heap.size, w.heap.size ≤ b := hge5
  have hII6 : II w6 base w.heap.size x.i x5 := hII5.kept hk65 (fun b hb => by have := hge5' b hb; omega) fun b c t f hb _ e => by
    obtain ⟨es, k, h1⟩ := (h.k.below hb5).g.isMap; rw [e, h1] at hb; cases hb
  have hAk6 : AM w6 base X.km (setI M.kept x.n x.i) (putX X.ks ⟨x.n, x.i, w.heap.size, x5⟩) := AM.put (y := ⟨x.n, x.i, w.heap.size, x5⟩) (h.k.below hb5) hnK hg6 hk65 hII6 hok (h.a.nl x hx)
  have hNI7 : NI w6 (· ≠ X.hm) := fun b c t f hb _ e => by
    obtain ⟨es, k, h1⟩ := (h.h.block (hk6.block _ hhmlt hhk)).isMap
    rw [e, h1] at hb; cases hb
  have hfk : ∀ b ∈ fpA X.km (putX X.ks ⟨x.n, x.i, w.heap.size, x5⟩), b ∈ fpA X.km X.ks ∨ w.heap.size ≤ b := fun b hb => (fpA_putX hb).imp id fun h1 => hge5' b h1
  have hAk7 := hAk6.kept hk7 (fun b hb e => by
    rcases hfk b hb with h1 | h1
    · exact m5 (e ▸ h1)
    · omega) hNI7
  have hk67 : Kept w w7 (fun b => b ≠ X.km ∧ b ≠ X.hm) := (hk6.imp fun b hb => hb.1).trans (hk7.imp fun b hb => hb.2)
  have hNI67 : NI w (fun b => b ≠ X.km ∧ b ≠ X.hm) := fun b c t f hb h3 => by
    refine ⟨fun e => ?_, fun e => ?_⟩
    · obtain ⟨es, k, h1⟩ := h.k.g.isMap; rw [e, h1] at hb; cases hb
    · obtain ⟨es, k, h1⟩ := h.h.isMap; rw [e, h1] at hb; cases hb
  have hA7 := h.a.kept hk67 (fun b hb => ⟨fun e => hAK b hb X.km (List.mem_cons_self ..) e, fun e => m4 (e ▸ hb)⟩) hNI67
  have q7 : w7.heap[mb]? = some (.cells (mcells X) 73 (0, 0)) := (hk67.block mb hltmb ⟨fun e => n5 (e ▸ List.mem_cons_self ..), n1⟩).trans h.ck
  have hs57 : w.heap.size ≤ w7.heap.size := hk67.size
  have hfo7 : OwnG w7 base 28 1 X.fv (X.fr.map fun v => [v]) := h.f.kept hk67 fun q hq => ⟨fun e => (hap.f q hq).2.2.2 (e ▸ List.mem_cons_self ..), fun e => (hap.f q hq).2.1 e⟩
  have hd7 : ∀ dm, X.dm = some dm → GM EI Tryz.prog 3 w7 dm (tabL mb) := fun dm e => (h.d dm e).block (hk67.block _ (h.d dm e).lt ⟨fun e2 => (hap.d dm e).2.2.2.2 (e2 ▸ List.mem_cons_self ..), fun e2 => (hap.d dm e).2.1 e2⟩)
  obtain ⟨M7, hM7⟩ : ∃ z : MM, z = ⟨M.all, setI M.kept x.n x.i, fun m => if m = x.n then false else M.ch m⟩ := ⟨_, rfl⟩
  have hMf : flushM M x.n = M7 := by unfold flushM; rw [h.a.find hx, hM7]
  obtain ⟨X7, hX7⟩ : ∃ z : MX, z = { X with ks := putX X.ks ⟨x.n, x.i, w.heap.size, x5⟩, cl := Mx.del X.cl x.n } := ⟨_, rfl⟩
  have hks : X7.ks.length ≤ X.ks.length + 1 ∧ X7.cl.length ≤ X.cl.length := by rw [hX7]; exact ⟨putX_len, by unfold Mx.del; exact List.length_filter_le _ _⟩
  have hap7 : Ap mb X7 := by
    rw [hX7]
    refine ⟨hap.mh, fun q e => ?_, fun q e => ?_, fun b hb => ?_, fun b hb => ?_, hap.na, ?_⟩
    · have h1 := hap.d q e
      refine ⟨h1.1, h1.2.1, h1.2.2.1, h1.2.2.2.1, fun h2 => ?_⟩
      rcases hfk q h2 with h3 | h3
      · exact h1.2.2.2.2 h3
      · have := (h.d q e).lt; omega
    · have h1 := hap.f q e
      refine ⟨h1.1, h1.2.1, h1.2.2.1, fun h2 => ?_⟩
      rcases hfk q h2 with h3 | h3
      · exact h1.2.2.2 h3
      · have := h.f.lt q e; omega
    · have h1 := hap.a b hb
      refine ⟨h1.1, h1.2.1, fun h2 => ?_⟩
      rcases hfk b h2 with h3 | h3
      · exact h1.2.2 h3
      · have := h.a.lt b hb; omega
    · rcases hfk b hb with h3 | h3
      · exact hap.k b h3
      · exact (show b ≠ mb ∧ b ≠ X.hm from ⟨by omega, by omega⟩)
    · refine fpA_putX_nodup h.k.names hap.nk hnd5 fun b hb h2 => ?_
      have := hge5' b hb
      have := hlk' b h2
      omega
  have hMO7 : MO w7 base mb M7 X7 := by
    refine ⟨?_, ?_, ?_, ?_, ?_, ?_, ?_, ?_, hap7.nd⟩
    · rw [hX7]; exact q7
    · rw [hX7, hM7]; exact hA7
    · rw [hX7, hM7]; exact hAk7
    · rw [hX7]; exact hg7
    · rw [hX7]; intro p hp; exact h.ht p (mem_del.1 hp).1
    · intro n
      rw [hX7, hM7]
      show (if n = x.n then false else M.ch n) = (Mx.look (Mx.del X.cl x.n) n).isSome
      rw [look_del]
      split
      · rfl
      · exact h.hc n
    · rw [hX7]; exact hd7
    · rw [hX7]; exact hfo7
  have hst7 : Stp w w7 (X.fp mb) (X7.fp mb) := by
    refine ⟨hk67.imp fun b hb => ⟨fun e => hb (e ▸ MX.mem.2 (by simp [fpA])), fun e => hb (e ▸ MX.mem.2 (by simp))⟩, fun b hb => ?_⟩
    rw [MX.mem] at hb ⊢
    rw [hX7] at hb
    rcases hb with h1 | h1 | h1 | h1 | h1 | h1
    · exact .inl (.inl h1)
    · exact .inl (.inr (.inl h1))
    · exact .inl (.inr (.inr (.inl h1)))
    · exact .inl (.inr (.inr (.inr (.inl h1))))
    · exact .inl (.inr (.inr (.inr (.inr (.inl h1)))))
    · rcases hfk b h1 with h2 | h2
      · exact .inl (.inr (.inr (.inr (.inr (.inr h2)))))
      · exact .inr h2
  have hX7' : X7.am = X.am ∧ X7.xs = X.xs ∧ X7.dm = X.dm ∧ X7.fv = X.fv ∧ X7.fr = X.fr := by rw [hX7]; exact ⟨rfl, rfl, rfl, rfl, rfl⟩
  have HMF := hid hMf
  clear n1 n2 n3 n4 n5 m2 m3 m4 m5 hnA hnK hAK hfA hdA hkl c2 c7 hX7 hM7 hMf hap7 hk67 hNI67 hA7 q7 hfo7 hd7 hAk7 hfk hNI7 hAk6 hII6 hge5' hhmlt hkmlt hk65 hb5 hlk' hlt hltmb hhk hap h hII hok hg7 hk7 hk6 hII5 hnd5 hge5 hb5c hg6 hgr6 hs6 hgr7 hs7 hnl' hkmb hdel' HN H c26 H7
  -- the flushes
  have hbase7 : base ≤ w7.heap.size := Nat.le_trans hbase hs57
  obtain ⟨fa, fn, fc, hfv⟩ := ownG_sh hMO7.f
  have f7 := hMO7.cells.2.2.2.2.2.2.2.1
  rw [hfv] at f7
  have HK := hid (kept_any (w := w7.drew) (M := M7) (X := X7) ⟨_, hMO7.ck, rfl⟩ (hMO7.k.below (Below.refl _ _).drew) hbase7 (by omega))
  have hfrl : X7.fr.length ≤ 1000000 := by rw [hX7'.2.2.2.2]; exact hfl
  have H7 := hid (And.intro hMO7 (And.intro hst7 (And.intro hX7' (And.intro hks (And.intro hbase7 (And.intro hfv (And.intro hfrl hs57)))))))
  clear hMO7 hst7 hX7' hks hbase7 hfv hfrl hs57
  go_region_law (first
    | (refine step_append_gn _ (by rfl) (.tmp 25) (.tmp 28) 35 28 _ 1 8 (by rfl) Tryz.underlying35 info28 rfl (by decide) base _ (X7.fr.map fun v => [v]) (by rfl) hoA w8.heap.size 1 [pt nb] (by rfl) rfl hrowA (by simp [Value.oneCell']) hl8 hl9 hbA ?_; intro v9 w9 ho9 hg9 hb9 hq9; obtain ⟨ga, gn, gc, rfl⟩ := ownG_sh ho9; have z9 := hz9 _ hg9; have c9 := hc9 _ hg9)
    | (go_simp; go_wp2_with (go_at_call 16; refine HK.out.mono ?_; rintro e w8 ⟨nb, X8, rfl, hMO8, hge8, hfr8, hb8⟩; have f8 : w8.cell? ⟨mb, 7, none⟩ = some (.slice fa fn fc) := (World.cell?_of_block (hb8.block mb (blk_lt H7.out.1.ck))).trans f7; obtain ⟨hoA, hrowA, hl8, hl9, hbA, hz9, hc9, f9⟩ := flA H7.out.1 H7.out.2.2.2.2.2.1 H7.out.2.2.2.2.1 H7.out.2.2.2.2.2.2.1 hb8 nb)))
  all_goals
    have h9 := flB H7.out.1 H7.out.2.2.2.2.2.1 hb8 nb ho9 hg9 hq9
    obtain ⟨e1, e2, e3, e4, e5⟩ := H7.out.2.2.1
    have h10 := H7.out.2.1
    have h11 := H7.out.2.2.2.1
    have hm := HMF.out
    go_end0
    rw [hm]
    exact ⟨rfl, _, h9.1, e1, e2, h11.1, by simp [e5], e3, h11.2, h10.trans h9.2⟩
end Go.Proofs.YtgkabcaodnofnaaGreat
