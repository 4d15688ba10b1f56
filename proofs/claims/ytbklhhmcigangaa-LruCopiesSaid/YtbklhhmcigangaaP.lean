import Derived.Test.YtbklhhmcigangaaK
namespace Go.Proofs.Ytbklhhmcigangaa
open Go.RowKit Go.Mx Go.Lr
set_option linter.unusedVariables false
set_option linter.unusedSimpArgs false
/-- the keys that were seen, as they are counted -/
def cnts (sn : List Int) : PL := sn.map fun k => (k, 1)
theorem look_cnts (sn : List Int) (k : Int) : Mx.look (cnts sn) k = if k ∈ sn then some 1 else none := by
  induction sn with
  | nil => rfl
  | cons x sn ih =>
    unfold cnts at ih ⊢
    rw [List.map_cons, look_cons, ih]
    by_cases e : x = k
    · simp [e]
    · rw [if_neg e]
      have : k ≠ x := fun h => e h.symm
      simp [this]
theorem upd_cnts {sn : List Int} {k : Int} (h : k ∉ sn) : Mx.upd (cnts sn) k 1 = cnts (sn ++ [k]) := by
  unfold Mx.upd
  rw [look_cnts, if_neg h]
  simp [cnts]
theorem CK.bumped {w w' : World} {base p m : Nat} {c : CM} {fs : List PR} (h : CK w base p m c fs All) {ov : Value} {out : List Int} (ho : OwnI w base ov out) (hf : ∀ q, ov.ownBlock = some q → Free p m fs q) (hk : Kept w w' (fun q => ov.ownBlock ≠ some q)) : CK w' base p m c fs All := by
  cases hb : ov.ownBlock with
  | none => exact h.keep (N := fun _ => True) (hk.imp fun q _ _ => by rw [hb]; exact fun h => by cases h) fun _ _ => trivial
  | some r =>
    refine h.other (hf r hb) (hk.imp fun q _ hq => by rw [hb]; exact fun e => hq (Option.some.inj e).symm) fun c9 f9 e => ?_
    obtain ⟨c8, f8, h8⟩ := ownI_type ho r hb
    rw [h8] at e; cases e
/-- the state of a walk -/
structure WS (w : World) (base p m : Nat) (c : CM) (fs : List PR) (a3 a7 a8 a5 ms : Nat) (sn out : List Int) (ov : Value) : Prop where
  ck : CK w base p m c fs All
  b3 : w.heap[a3]? = some (.cells #[cp p] 23 (0, 0))
  b7 : w.heap[a7]? = some (.cells #[.map (some ms)] 92 (0, 0))
  b8 : w.heap[a8]? = some (.cells #[.func (.func 54) #[] #[ptr a3, ptr a7, ptr a8, ptr a5]] 54 (0, 0))
  b5 : w.heap[a5]? = some (.cells #[ov] 29 (0, 0))
  oi : OwnI w base ov out
  of : ∀ q, ov.ownBlock = some q → Free p m fs q
  nm : NM Try.prog 3 w ms (cnts sn)
  f5 : Free p m fs a5
  fm : Free p m fs ms
  h5 : base ≤ a5
  hm : base ≤ ms
/-- what a walk leaves as it was -/
structure Frm (base a5 ms : Nat) (w : World) (ov : Value) (w' : World) (ov' : Value) : Prop where
  bel : Below base w w'
  kept : Kept w w' (fun q => q ≠ a5 ∧ q ≠ ms ∧ ov.ownBlock ≠ some q)
  own : ∀ q, ov'.ownBlock = some q → ov.ownBlock = some q ∨ w.heap.size ≤ q
theorem Frm.refl (base a5 ms : Nat) (w : World) (ov : Value) : Frm base a5 ms w ov w ov := ⟨Below.refl _ _, ⟨Nat.le_refl _, fun _ _ _ => rfl⟩, fun _ h => .inl h⟩
theorem Frm.trans {base a5 ms : Nat} {a b c : World} {x y z : Value} (h : Frm base a5 ms a x b y) (k : Frm base a5 ms b y c z) : Frm base a5 ms a x c z := by
  refine ⟨h.bel.trans k.bel, ⟨Nat.le_trans h.kept.size k.kept.size, fun q hq hn => (k.kept.block q (Nat.lt_of_lt_of_le hq h.kept.size) ⟨hn.1, hn.2.1, fun e => ?_⟩).trans (h.kept.block q hq hn)⟩, fun q hq => ?_⟩
  · rcases h.own q e with h1 | h1
    · exact hn.2.2 h1
    · omega
  · rcases k.own q hq with h1 | h1
    · exact h.own q h1
    · exact .inr (Nat.le_trans h.kept.size h1)
section
variable {w w' : World} {base p m : Nat} {c : CM} {fs : List PR} {a3 a7 a8 a5 ms : Nat} {sn out : List Int} {ov : Value}
theorem WS.below (h : WS w base p m c fs a3 a7 a8 a5 ms sn out ov) (hb : Below w.heap.size w w') : WS w' base p m c fs a3 a7 a8 a5 ms sn out ov ∧ Frm base a5 ms w ov w' ov :=
  ⟨{ ck := h.ck.below hb, b3 := (hb.block _ (blk_lt h.b3)).trans h.b3, b7 := (hb.block _ (blk_lt h.b7)).trans h.b7, b8 := (hb.block _ (blk_lt h.b8)).trans h.b8, b5 := (hb.block _ (blk_lt h.b5)).trans h.b5,
     oi := ownI_kept h.oi (.of_below (N := fun _ => True) hb fun _ h _ => h) fun _ _ => trivial, of := h.of, nm := h.nm.block (hb.block _ h.nm.lt), f5 := h.f5, fm := h.fm, h5 := h.h5, hm := h.hm },
   ⟨hb.mono h.ck.base_le, .of_below hb fun _ h _ => h, fun _ h => .inl h⟩⟩
/-- a key is marked -/
theorem WS.mark (h : WS w base p m c fs a3 a7 a8 a5 ms sn out ov) {k : Int} (hk : k ∉ sn) (hn : NM Try.prog 3 w' ms (Mx.upd (cnts sn) k 1)) (hg : w.grownBy w' (some ms)) :
    WS w' base p m c fs a3 a7 a8 a5 ms (sn ++ [k]) out ov ∧ Frm base a5 ms w ov w' ov := by
  obtain ⟨es, cl, hmo⟩ := h.nm.isMap
  have hkp : Kept w w' (fun q => q ≠ ms) := Kept.grown hg fun k hk hN => by cases hk; exact hN rfl
  have hc : ∀ {q : Nat} {c : Array Value} {t : TypeId} {fr : Nat × Nat}, w.heap[q]? = some (.cells c t fr) → w'.heap[q]? = some (.cells c t fr) := fun {q c t fr} hq => (hkp.block q (blk_lt hq) (not_cells hmo (fun _ _ _ e => by cases e) hq)).trans hq
  rw [upd_cnts hk] at hn
  refine ⟨{ ck := h.ck.other h.fm hkp fun c f e => (by rw [hmo] at e; cases e), b3 := hc h.b3, b7 := hc h.b7, b8 := hc h.b8, b5 := hc h.b5, oi := ownI_kept h.oi hkp fun q e => ?_, of := h.of, nm := hn, f5 := h.f5, fm := h.fm, h5 := h.h5, hm := h.hm },
    ⟨(Below.refl base w).grown hg h.ck.base_le (fun k hk => by cases hk; exact h.hm), hkp.imp fun q _ hq => hq.2.1, fun _ h => .inl h⟩⟩
  rintro rfl
  exact ownI_notMap h.oi hmo (fun _ _ _ e => by cases e) e
/-- a key is written -/
theorem WS.put (h : WS w base p m c fs a3 a7 a8 a5 ms sn out ov) {k : Int} {w2 : World} {v' : Value} (ho : OwnI w2 base v' (out ++ [k])) (hk : Kept w w2 (fun q => ov.ownBlock ≠ some q)) (hb : Below base w w2) (hv : ∀ q, v'.ownBlock = some q → ov.ownBlock = some q ∨ w.heap.size ≤ q) :
    WS (w2.setCell ⟨a5, 0, none⟩ v') base p m c fs a3 a7 a8 a5 ms sn (out ++ [k]) v' ∧ Frm base a5 ms w ov (w2.setCell ⟨a5, 0, none⟩ v') v' ∧ w2.cell? ⟨a5, 0, none⟩ = some ov ∧ w2.frozen? ⟨a5, 0, none⟩ = false := by
  obtain ⟨es, cl, hmo⟩ := h.nm.isMap
  have hck := h.ck.bumped h.oi h.of hk
  have hc2 : ∀ {q : Nat} {c : Array Value} {t : TypeId} {fr : Nat × Nat}, w.heap[q]? = some (.cells c t fr) → t ≠ 3 → w2.heap[q]? = some (.cells c t fr) := fun {q c t fr} hq ht => (hk.block q (blk_lt hq) (ownI_not h.oi hq ht)).trans hq
  have q5 := hc2 h.b5 (by decide)
  have hks : Kept w2 (w2.setCell ⟨a5, 0, none⟩ v') (fun q => q ≠ a5) := Kept.set w2 a5 0 v' fun hn => hn rfl
  have hc3 : ∀ {q : Nat} {c : Array Value} {t : TypeId} {fr : Nat × Nat}, w.heap[q]? = some (.cells c t fr) → t ≠ 3 → t ≠ 29 → (w2.setCell ⟨a5, 0, none⟩ v').heap[q]? = some (.cells c t fr) := fun {q c t fr} hq ht h29 =>
    (hks.block q (blk_lt (hc2 hq ht)) (blk_ne (hc2 hq ht) q5 h29)).trans (hc2 hq ht)
  have hm2 : w2.heap[ms]? = w.heap[ms]? := hk.block ms h.nm.lt (ownI_notMap h.oi hmo fun _ _ _ e => by cases e)
  have hm3 : (w2.setCell ⟨a5, 0, none⟩ v').heap[ms]? = w2.heap[ms]? := Below.heap_setCell w2 ⟨a5, 0, none⟩ v' ms (not_cells (hm2.trans hmo) (fun _ _ _ e => by cases e) q5).symm
  refine ⟨{ ck := hck.other h.f5 hks fun c f e => (by rw [q5] at e; cases e), b3 := hc3 h.b3 (by decide) (by decide), b7 := hc3 h.b7 (by decide) (by decide), b8 := hc3 h.b8 (by decide) (by decide),
            b5 := heap_setCell_at' w2 a5 0 v' _ 29 (0, 0) q5, oi := ownI_kept ho hks fun q e => ?_, of := fun q e => ?_, nm := h.nm.block (hm3.trans hm2), f5 := h.f5, fm := h.fm, h5 := h.h5, hm := h.hm },
          ⟨hb.setCell (p := ⟨a5, 0, none⟩) h.h5 v', (hk.imp fun q _ hq => hq.2.2).trans (hks.imp fun q _ hq => hq.1), hv⟩, by simp [World.cell?, q5], by simp [World.frozen?, q5]⟩
  · obtain ⟨c9, f9, h9⟩ := ownI_type ho q e
    exact blk_ne h9 q5 (by decide)
  · rcases hv q e with h1 | h1
    · exact h.of q h1
    · exact h.ck.free_new h1
/-- the end of a walk -/
def W54 (base p m : Nat) (c : CM) (fs : List PR) (a3 a7 a8 a5 ms : Nat) (w : World) (ov : Value) (st : List Int × List Int) (w' : World) : Prop :=
  ∃ ov', WS w' base p m c fs a3 a7 a8 a5 ms st.1 st.2 ov' ∧ Frm base a5 ms w ov w' ov'
set_option maxRecDepth 100000 in
set_option maxHeartbeats 1000000 in
theorem walk54 (hI : Is c.all) (hS : Sm c.all) : ∀ (n : Nat) (w : World) (sn out : List Int) (ov : Value) (k : Int), WS w base p m c fs a3 a7 a8 a5 ms sn out ov → uns c.all sn < n → isI k → sn.Nodup → (∀ x ∈ sn, dirtyAt c.all x = true) → c.all.length ≤ 1000000 → out.length + c.all.length ≤ 100000000 + sn.length →
    Calls Try.prog 54 #[.int .i64 k, ptr a3, ptr a7, ptr a8, ptr a5] w fun e w' => e = .returned (.tuple #[]) ∧ W54 base p m c fs a3 a7 a8 a5 ms w ov (walk c.all n k (sn, out)) w' := by
  intro n
  induction n with
  | zero => intro w sn out ov k h hu; omega
  | succ n ih =>
    intro w sn out ov k h hu hk hnd hgd hl hol
    have b3 : w.cell? ⟨a3, 0, none⟩ = some (cp p) := by simp [World.cell?, h.b3]
    have b7 : w.cell? ⟨a7, 0, none⟩ = some (.map (some ms)) := by simp [World.cell?, h.b7]
    have hlf := h.ck.look k hk
    have hls := h.nm.look (t := 92) Try.underlying3 Try.underlying92 zero3 k hk.wf
    rw [look_cnts] at hls
    have c1 := h.ck.cells.2.1
    have IH := hid ih
    have H := hid (And.intro h (And.intro hu (And.intro hk (And.intro hnd (And.intro hgd (And.intro hl hol))))))
    have HI := hid (And.intro hI hS)
    rcases h.ck.who k with ⟨h1, h2⟩ | ⟨i, f, hi, hfk, h1, h2⟩
    · rw [h1] at hlf
      replace hlf : (Instr.lookup 56 (.map (some m)) (.int .i64 k) false).run Try.prog w = .ok (.pointer none) w := hlf
      have hd : dirtyAt c.all k = false := by unfold dirtyAt; rw [h2]; rfl
      have he : walk c.all (n + 1) k (sn, out) = (sn, out) := by unfold walk; rw [if_pos (.inl hd)]
      rw [he]
      clear h h1 h2 hd he hls ih hu hk hnd hgd hl hol hI hS
      go_enter Try.func54, Try.ntmps54
      go_wp2
      (first | go_end0 | (simp only [Exit.inBlock, Exit.then]; refine bodyPost_ret (results_none rfl _ _ _) rfl ?_) | refine bodyPost_ret (results_none rfl _ _ _) rfl ?_)
      exact ⟨rfl, ov, H.out.1, Frm.refl _ _ _ _ _⟩
    · rw [h1] at hlf
      replace hlf : (Instr.lookup 56 (.map (some m)) (.int .i64 k) false).run Try.prog w = .ok (.pointer (some ⟨f.fb, 0, none⟩)) w := hlf
      have hd : dirtyAt c.all k = f.en.pg.dirty := by unfold dirtyAt; rw [h2]; rfl
      have haf : aft c.all k = f.en.pg.after := by unfold Lr.aft; rw [h2]; rfl
      obtain ⟨d0, d1, d2, d3, dz⟩ := h.ck.pcells hi
      obtain ⟨va, vn, vc, hav⟩ := h.ck.sa i f hi
      obtain ⟨fb, hfb⟩ : ∃ y, y = f.fb := ⟨_, rfl⟩
      rw [← hfb] at hlf d1 d3
      rw [hav] at d3
      obtain ⟨dd, hdd⟩ : ∃ y, y = f.en.pg.dirty := ⟨_, rfl⟩
      rw [← hdd] at d1 hd
      have hmf : f.en ∈ c.all := by rw [h.ck.all]; exact List.mem_map.2 ⟨f, List.mem_of_getElem? hi, rfl⟩
      have HF := hid (And.intro hi (And.intro hfb (And.intro hav (And.intro hmf haf))))
      have HD := hid hd
      clear h h1 h2 hfk hfb hdd d0 d2 dz hi hav hmf haf ih hd hu hnd hgd hl hol hI hS
      cases dd
      · have he : walk c.all (n + 1) k (sn, out) = (sn, out) := by unfold walk; rw [if_pos (.inl HD.out)]
        rw [he]
        clear he hls hk
        go_enter Try.func54, Try.ntmps54
        go_wp2
        (first | go_end0 | (simp only [Exit.inBlock, Exit.then]; refine bodyPost_ret (results_none rfl _ _ _) rfl ?_) | refine bodyPost_ret (results_none rfl _ _ _) rfl ?_)
        exact ⟨rfl, ov, H.out.1, Frm.refl _ _ _ _ _⟩
      · by_cases hin : k ∈ sn
        · have he : walk c.all (n + 1) k (sn, out) = (sn, out) := by unfold walk; rw [if_pos (.inr hin)]
          rw [he]
          rw [if_pos hin] at hls
          replace hls : (Instr.lookup 92 (.map (some ms)) (.int .i64 k) false).run Try.prog w = .ok (.int .i64 1) w := hls
          clear he hin hk
          go_enter Try.func54, Try.ntmps54
          go_wp2
          (first | go_end0 | (simp only [Exit.inBlock, Exit.then]; refine bodyPost_ret (results_none rfl _ _ _) rfl ?_) | refine bodyPost_ret (results_none rfl _ _ _) rfl ?_)
          exact ⟨rfl, ov, H.out.1, Frm.refl _ _ _ _ _⟩
        · rw [if_neg hin] at hls
          replace hls : (Instr.lookup 92 (.map (some ms)) (.int .i64 k) false).run Try.prog w = .ok (.int .i64 0) w := hls
          have hu := H.out.2.1
          have hd := HD.out
          have hust := uns_step hd hin
          obtain ⟨w1, hrun, hm1, hgr1, hz1, hf1⟩ := H.out.1.nm.upd (t := 92) Try.underlying3 Try.underlying92 k hk.wf 1 (by
            have := good_len H.out.2.2.2.1 H.out.2.2.2.2.1
            have := H.out.2.2.2.2.2.1
            unfold cnts; rw [List.length_map]; unfold maxLen; omega)
          replace hrun : (Instr.mapUpdate 92 (.map (some ms)) (.int .i64 k) (.int .i64 1)).run Try.prog w = .ok () w1 := hrun
          obtain ⟨hW1, hF1⟩ := H.out.1.mark hin hm1 hgr1
          have hgr := walk_grw c.all
          -- the state behind j of them
          obtain ⟨st, hst⟩ : ∃ st : Nat → List Int × List Int, st = fun j => ((aft c.all k).take j).foldl (fun s f => walk c.all n f s) (sn ++ [k], out) := ⟨_, rfl⟩
          have hst0 : st 0 = (sn ++ [k], out) := by rw [hst]; rfl
          have hsts : ∀ j x, (aft c.all k)[j]? = some x → st (j + 1) = walk c.all n x (st j) := fun j x hx => by
            rw [hst]; simp only; rw [List.take_add_one, hx, List.foldl_append]; rfl
          have hGr : ∀ j, Grw c.all (sn ++ [k], out) (st j) := by
            intro j
            rw [hst]
            have hfold : ∀ (xs : List Int) (s : List Int × List Int), Grw c.all s (xs.foldl (fun s f => walk c.all n f s) s) := by
              intro xs
              induction xs with
              | nil => intro s; exact Grw.refl _ _
              | cons x xs ih => intro s; rw [List.foldl_cons]; exact (walk_grw c.all n x s).trans (ih _)
            exact hfold _ _
          have he : walk c.all (n + 1) k (sn, out) = ((st (aft c.all k).length).1, (st (aft c.all k).length).2 ++ [k]) := by
            conv => lhs; unfold walk
            rw [if_neg (by rw [not_or]; exact ⟨by rw [hd]; simp, hin⟩), hst]
            simp only
            rw [List.take_length]
          have hinv : ∀ j, (st j).1.Nodup ∧ (∀ x ∈ (st j).1, dirtyAt c.all x = true) ∧ uns c.all (st j).1 < n ∧ (st j).2.length + c.all.length ≤ 100000000 + (st j).1.length := by
            intro j
            obtain ⟨g1, g2⟩ := (hGr j).good (by
              rw [List.nodup_append]
              exact ⟨H.out.2.2.2.1, by simp, fun a ha b hb => by simp at hb; subst hb; intro e; subst e; exact hin ha⟩) (fun x hx => by
              rcases List.mem_append.1 hx with hx | hx
              · exact H.out.2.2.2.2.1 x hx
              · simp at hx; rw [hx]; exact hd)
            refine ⟨g1, g2, ?_, ?_⟩
            · obtain ⟨t, ht⟩ := (hGr j).pre
              rw [ht]
              have := uns_mono c.all (sn ++ [k]) t
              show uns c.all ((sn ++ [k]) ++ t) < n
              omega
            · have h1 := (hGr j).len
              have h2 := H.out.2.2.2.2.2.2
              simp only [List.length_append, List.length_cons, List.length_nil] at h1
              omega
          rw [he]
          obtain ⟨L, hL⟩ : ∃ L, L = (aft c.all k).length := ⟨_, rfl⟩
          have hLb : L ≤ 1000000 := by rw [hL, HF.out.2.2.2.2]; exact HI.out.2 _ HF.out.2.2.2.1
          have HST := hid (And.intro hst0 (And.intro hsts (And.intro hinv hL)))
          have hslI := (hW1.ck.oa i f HF.out.1 trivial).slI
          rw [HF.out.2.2.1, ← HF.out.2.2.2.2] at hslI
          have hlen := fun w' => hslI.len (P := Try.prog) Try.underlying29 (ty := 3) w'
          have d3' := (hW1.ck.pcells HF.out.1).2.2.2.1
          rw [← HF.out.2.1, HF.out.2.2.1] at d3'
          rw [← hL] at hlen ⊢
          have HW1 := hid (And.intro hW1 hF1)
          have b7' : w1.cell? ⟨a7, 0, none⟩ = some (.map (some ms)) := by simp [World.cell?, hW1.b7]
          clear hst hst0 hsts hGr hinv he hslI hW1 hF1 hgr hu hd hust hm1 hgr1 hz1 hf1 hin hk hL
          go_enter Try.func54, Try.ntmps54
          go_wp2_with fail
          go_loopw [39] (fun s39 wr => ∃ (j : Nat) (ov' : Value), s39 = .int .i64 j ∧ j ≤ L ∧ WS wr base p m c fs a3 a7 a8 a5 ms (st j).1 (st j).2 ov' ∧ Frm base a5 ms w ov wr ov') (fun s39 _ => L - (intOf s39).toNat)
          case atStart =>
            refine ⟨0, ov, rfl, by omega, ?_, HW1.out.2⟩
            rw [HST.out.1]; exact HW1.out.1
          case round =>
            obtain ⟨j, ov', rfl, hj, hW, hF⟩ := hrel
            obtain ⟨wO, hwO⟩ : ∃ x, x = wr := ⟨_, rfl⟩
            subst hwO
            by_cases hlt : j < L
            · have hsl := (hW.ck.oa i f HF.out.1 trivial).slI
              rw [HF.out.2.2.1, ← HF.out.2.2.2.2] at hsl
              have hlt' : j < (aft c.all k).length := by rw [← HST.out.2.2.2]; exact hlt
              obtain ⟨bb, bo, hbb, hia, hcell⟩ := hsl.addr (P := Try.prog) Try.underlying29 size3 j hlt'
              have hgx : (aft c.all k)[j]? = some ((aft c.all k).getD j 0) := by rw [List.getD_eq_getElem?_getD, List.getElem?_eq_getElem hlt']; rfl
              have hxI : isI ((aft c.all k).getD j 0) := HI.out.1.aft k _ (List.mem_of_getElem? hgx)
              obtain ⟨x, hx⟩ : ∃ x, x = (aft c.all k).getD j 0 := ⟨_, rfl⟩
              rw [← hx] at hcell hgx hxI
              obtain ⟨g1, g2, g3, g4⟩ := HST.out.2.2.1 j
              have HC := hid (IH.out wO (st j).1 (st j).2 ov' x hW g3 hxI g1 g2 H.out.2.2.2.2.2.1 g4)
              have hs1 := HST.out.2.1 j x hgx
              have b8 : wO.cell? ⟨a8, 0, none⟩ = some (.func (.func 54) #[] #[ptr a3, ptr a7, ptr a8, ptr a5]) := by simp [World.cell?, hW.b8]
              have HQ := hid (And.intro hF hs1)
              clear hsl hgx hxI hx g1 g2 g3 g4 hs1 hF hW hlt'
              go_wp2_with fail
              refine HC.out.mono ?_
              rintro e w2 ⟨rfl, ov2, hW2, hF2⟩
              have HW2 := hid (And.intro hW2 (HQ.out.1.trans hF2))
              clear hW2 hF2
              go_wp2_with fail
              go_roundw
              case rel => exact ⟨j + 1, ov2, by go_num, by omega, by rw [HQ.out.2]; exact HW2.out.1, HW2.out.2⟩
              case measure => simp [intOf]; omega
            · obtain rfl : j = L := by omega
              obtain ⟨_, _, _, g4⟩ := HST.out.2.2.1 j
              have b5 : wO.cell? ⟨a5, 0, none⟩ = some ov' := by simp [World.cell?, hW.b5]
              obtain ⟨oa, on, oc, rfl⟩ := ownG_shape (ownI_G hW.oi)
              have hal : Below wO.heap.size wO (wO.alloc (.cells #[.int .i64 k] 3)) := (Below.refl _ _).alloc (Nat.le_refl _) _
              obtain ⟨hWA, hFA⟩ := hW.below hal
              have hck := good_len (l := c.all) (HST.out.2.2.1 j).1 (HST.out.2.2.1 j).2.1
              have HA := hid (And.intro hWA (And.intro (hF.trans hFA) (And.intro g4 hck)))
              clear hWA hFA hal hW hF g4 hck
              go_wp2_with (at_builtin; refine append_i1 _ rfl _ _ 29 rfl Try.underlying29 info3 base _ (st j).2 k rfl HA.out.1.oi wO.heap.size 1 rfl (by simp) ?b1 ?b2 ?_)
              case b1 => have h1 := HA.out.2.2.1; have h2 := HA.out.2.2.2; omega
              case b2 => exact HA.out.1.ck.base_le
              intro v7 w7 ho7 hk7 hb7 hv7
              obtain ⟨hW8, hF8, z1, z2⟩ := HA.out.1.put ho7 hk7 hb7 (by intro q hq; have := hv7 q hq; simp only [World.alloc, Array.size_push]; exact this)
              obtain ⟨oa7, n7, c7, rfl⟩ := ownG_shape (ownI_G ho7)
              have H8 := hid (And.intro hW8 (HA.out.2.1.trans hF8))
              clear hW8 hF8 ho7 hk7 hb7 hv7
              go_wp2_with fail
              (first | go_end0 | (simp only [Exit.inBlock, Exit.then]; refine bodyPost_ret (results_none rfl _ _ _) rfl ?_) | refine bodyPost_ret (results_none rfl _ _ _) rfl ?_)
              exact ⟨rfl, _, H8.out.1, H8.out.2⟩
end
end Go.Proofs.Ytbklhhmcigangaa
