import Derived.Test.YtbklhhmcigangaaP
namespace Go.Proofs.Ytbklhhmcigangaa
open Go.RowKit Go.Mx Go.Lr
set_option linter.unusedVariables false
set_option linter.unusedSimpArgs false
theorem Sm.cleaned {l : List En} (h : Sm l) (S : Int → Bool) : Sm (cleaned S l) := by
  intro e he
  obtain ⟨g, hg, rfl⟩ := List.mem_map.1 he
  have h1 := h g hg
  simp only
  split
  · simp
  · have := List.length_filter_le (fun f => !S f) g.pg.after; omega
theorem Sm.offD {l : List En} (h : Sm l) (k : Int) : Sm (offD l k) := by
  intro e he
  unfold Lr.offD setE at he
  obtain ⟨g, hg, rfl⟩ := List.mem_map.1 he
  have h1 := h g hg
  split <;> exact h1
/-- a page that is clean -/
def cleanPR (f : PR) : PR := { f with en := { f.en with pg := { f.en.pg with dirty := false } } }
section
variable {w w' : World} {base p m : Nat} {c : CM} {fs : List PR}
theorem CK.clean (h : CK w base p m c fs All) {i : Nat} {f : PR} (hi : fs[i]? = some f) :
    let w3 := w.setCell ⟨f.fb, 1, none⟩ (.bool false)
    CK w3 base p m { c with all := Lr.offD c.all f.en.k } (fs.set i (cleanPR f)) All ∧ Stp base p m w fs w3 (fs.set i (cleanPR f)) := by
  intro w3
  have hfc := (h.fc i f hi).1
  have hks : Kept w w3 (fun q => q ≠ f.fb) := Kept.set w f.fb 1 _ fun hn => hn rfl
  have hset := heap_setCell_at' w f.fb 1 (.bool false) _ 66 (0, 0) hfc
  have hoB : OwnB w3 base 5 f.bv f.en.pg.b := (h.ob i f hi).kept hks fun q e => by
    obtain ⟨c9, f9, hc9⟩ := ownB_type (h.ob i f hi) q e
    exact blk_ne hc9 hfc (by decide)
  have hoA : OwnI w3 base f.av f.en.pg.after := ownI_kept (h.oa i f hi trivial) hks fun q e => by
    obtain ⟨c9, f9, hc9⟩ := ownI_type (h.oa i f hi trivial) q e
    exact blk_ne hc9 hfc (by decide)
  obtain ⟨h1, h2⟩ := h.setPage hi (cleanPR f) rfl rfl hks (fun k _ hne _ => hne) ((Below.refl base w).setCell (p := ⟨f.fb, 1, none⟩) (h.fc i f hi).2 _) hset All (fun _ _ hv => hv) hoB (fun _ => hoA) (fun _ k e => .inl e) trivial (h.sb i f hi) (h.sa i f hi)
  have he := setE_set (fun g : Pg => { g with dirty := false }) fs i f (cleanPR f) h.nodup hi rfl
  rw [he, ← h.all] at h1
  exact ⟨h1, h2⟩
theorem blk_of {W W' : World} {o : Obj} (h : Below (W.alloc o).heap.size (W.alloc o) W') : W'.heap[W.heap.size]? = some o := (h.block _ (by simp)).trans (alloc_new W o)
theorem ws_start (h : CK w base p m c fs All) {ov : Value} {out : List Int} (ho : OwnI w base ov out) (hf : ∀ q, ov.ownBlock = some q → Free p m fs q) :
    let W5 := ((((w.alloc (.cells #[cp p] 23)).alloc (.cells #[ov] 29)).alloc (.map #[] 0)).alloc (.cells #[.map (some (w.heap.size + 1 + 1))] 92)).alloc
      (.cells #[.func (.func 54) #[] #[.pointer (some ⟨w.heap.size, 0, none⟩), .pointer (some ⟨w.heap.size + 1 + 1 + 1, 0, none⟩), .pointer (some ⟨w.heap.size + 1 + 1 + 1 + 1, 0, none⟩), .pointer (some ⟨w.heap.size + 1, 0, none⟩)]] 54)
    WS W5 base p m c fs w.heap.size (w.heap.size + 1 + 1 + 1) (w.heap.size + 1 + 1 + 1 + 1) (w.heap.size + 1) (w.heap.size + 1 + 1) [] out ov ∧ Below w.heap.size w W5 ∧ W5.heap.size = w.heap.size + 5 := by
  intro W5
  have hb : Below w.heap.size w W5 := (((((Below.refl _ _).alloc (Nat.le_refl _) _).alloc (by simp) _).alloc (by simp; omega) _).alloc (by simp; omega) _).alloc (by simp; omega) _
  have hbl := h.base_le
  refine ⟨{ ck := h.below hb, b3 := ?_, b7 := ?_, b8 := ?_, b5 := ?_, oi := ownI_kept ho (.of_below (N := fun _ => True) hb fun _ h _ => h) fun _ _ => trivial, of := hf, nm := ?_, f5 := h.free_new (by omega), fm := h.free_new (by omega), h5 := by omega, hm := by omega }, hb, by simp [W5]⟩
  · exact blk_of (by exact ((((Below.refl _ _).alloc (Nat.le_refl _) _).alloc (by simp) _).alloc (by simp) _).alloc (by simp) _)
  · have := blk_of (W := ((w.alloc (.cells #[cp p] 23)).alloc (.cells #[ov] 29)).alloc (.map #[] 0)) (o := .cells #[.map (some (w.heap.size + 1 + 1))] 92) (W' := W5) (by exact (Below.refl _ _).alloc (Nat.le_refl _) _)
    simpa using this
  · have := blk_of (W := (((w.alloc (.cells #[cp p] 23)).alloc (.cells #[ov] 29)).alloc (.map #[] 0)).alloc (.cells #[.map (some (w.heap.size + 1 + 1))] 92)) (o := .cells #[.func (.func 54) #[] #[.pointer (some ⟨w.heap.size, 0, none⟩), .pointer (some ⟨w.heap.size + 1 + 1 + 1, 0, none⟩), .pointer (some ⟨w.heap.size + 1 + 1 + 1 + 1, 0, none⟩), .pointer (some ⟨w.heap.size + 1, 0, none⟩)]] 54) (W' := W5) (by exact Below.refl _ _)
    simpa using this
  · have := blk_of (W := w.alloc (.cells #[cp p] 23)) (o := .cells #[ov] 29) (W' := W5) (by exact (((Below.refl _ _).alloc (Nat.le_refl _) _).alloc (by simp) _).alloc (by simp) _)
    simpa using this
  · have hm0 := NM.made (P := Try.prog) (k := 3) ((w.alloc (.cells #[cp p] 23)).alloc (.cells #[ov] 29))
    have hz : ((w.alloc (.cells #[cp p] 23)).alloc (.cells #[ov] 29)).heap.size = w.heap.size + 1 + 1 := by simp
    rw [hz] at hm0
    refine hm0.block ?_
    have hb2 : Below (w.heap.size + 1 + 1 + 1) (((w.alloc (.cells #[cp p] 23)).alloc (.cells #[ov] 29)).alloc (.map #[] 0)) W5 := (((Below.refl _ _).alloc (by simp) _).alloc (by simp) _)
    exact hb2.block _ (by omega)
/-- what a line leaves -/
def LineP (base p m : Nat) (c : CM) (fs : List PR) (w : World) (ov : Value) (st : List Int × List Int) (e : Ending) (w' : World) : Prop :=
  ∃ fs' v, e = .returned v ∧ CK w' base p m { c with all := cleaned (fun x => decide (x ∈ st.1)) c.all } fs' All ∧ plOf fs' = plOf fs ∧ OwnI w' base v st.2 ∧ (∀ q, v.ownBlock = some q → Free p m fs' q) ∧ Below base w w' ∧
    Kept w w' (fun q => Free p m fs q ∧ ov.ownBlock ≠ some q) ∧ (∀ q, q < w.heap.size → Free p m fs q → Free p m fs' q) ∧ (∀ q, v.ownBlock = some q → ov.ownBlock = some q ∨ w.heap.size ≤ q)
set_option maxRecDepth 100000 in
set_option maxHeartbeats 2000000 in
theorem line_any (h : CK w base p m c fs All) (hI : Is c.all) (hS : Sm c.all) (hL : c.all.length ≤ 1000000) (k : Int) (hk : isI k) (ov : Value) (out : List Int) (ho : OwnI w base ov out) (hf : ∀ q, ov.ownBlock = some q → Free p m fs q) (hol : out.length + c.all.length ≤ 100000000) :
    Calls Try.prog 30 #[cp p, .int .i64 k, ov] w (LineP base p m c fs w ov (walk c.all (c.all.length + 1) k ([], out))) := by
  have hmm := @run_makeMap Try.prog
  obtain ⟨hWS, hb5, hz5⟩ := ws_start h ho hf
  obtain ⟨oa, on, oc, rfl⟩ := ownG_shape (ownI_G ho)
  have hcall := walk54 hI hS (c.all.length + 1) _ [] out _ k hWS (by have := uns_le c.all []; omega) hk (by simp) (by simp) hL (by simpa using hol)
  obtain ⟨st, hst⟩ : ∃ st, st = walk c.all (c.all.length + 1) k ([], out) := ⟨_, rfl⟩
  have hgr := walk_grw c.all (c.all.length + 1) k ([], out)
  rw [← hst] at hcall hgr ⊢
  have hgood := hgr.good (by simp) (by simp)
  have HC := hid hcall
  have H := hid (And.intro h (And.intro ho (And.intro hf (And.intro hS (And.intro hI hgood)))))
  obtain ⟨W5, hW5⟩ : ∃ W5, W5 = ((((w.alloc (.cells #[cp p] 23)).alloc (.cells #[.slice oa on oc] 29)).alloc (.map #[] 0)).alloc (.cells #[.map (some (w.heap.size + 1 + 1))] 92)).alloc
      (.cells #[.func (.func 54) #[] #[.pointer (some ⟨w.heap.size, 0, none⟩), .pointer (some ⟨w.heap.size + 1 + 1 + 1, 0, none⟩), .pointer (some ⟨w.heap.size + 1 + 1 + 1 + 1, 0, none⟩), .pointer (some ⟨w.heap.size + 1, 0, none⟩)]] 54) := ⟨_, rfl⟩
  rw [← hW5] at HC hb5 hz5
  have HB5 := hid (And.intro hb5 hz5)
  clear h ho hf hS hI hcall hWS hb5 hz5 hst hgr hgood hk hL hol
  go_enter Try.func30, Try.ntmps30
  go_wp2_with fail
  rw [← hW5]
  refine HC.out.mono ?_
  rintro e w6 ⟨rfl, ov6, hW6, hF6⟩
  have b7 : w6.cell? ⟨w.heap.size + 1 + 1 + 1, 0, none⟩ = some (.map (some (w.heap.size + 1 + 1))) := by simp [World.cell?, hW6.b7]
  have hnm := hW6.nm
  have H6 := hid (And.intro hW6 hF6)
  clear hW5 hW6 hF6 HC
  go_wp2_with (first
    | (at_range; refine range_nm _ rfl _ rfl Try.underlying3 Try.underlying92 rfl hnm ?_; intro w7 hrg0 hg0 hs0)
    | go_in)
  go_frame
  go_loopw [9] (fun _ wr => ∃ (left : Int → Bool) (cnt : Nat) (fs' : List PR), RN Try.prog 3 wr (w.heap.size + 1 + 1) w6.heap.size (cnts st.1) left cnt ∧ plOf fs' = plOf fs ∧ CK wr base p m { c with all := cleaned (fun x => decide (x ∈ st.1) && !left x) c.all } fs' All ∧ Stp base p m w6 fs wr fs' ∧
      Free p m fs' w6.heap.size ∧ w6.heap.size < wr.heap.size) (fun _ wr => wr.rangeLeft (w.heap.size + 1 + 1) w6.heap.size)
  case atStart =>
    have hb0 : Below w6.heap.size w6 w7 := (Below.refl _ _).grown hg0 (Nat.le_refl _) (by simp)
    refine ⟨_, _, fs, hrg0, rfl, ?_, Stp.of_below hb0 H6.out.1.ck.base_le, H6.out.1.ck.free_new (Nat.le_refl _), by omega⟩
    rw [cleaned_none _ fun x => by rw [look_cnts]; by_cases hx : x ∈ st.1 <;> simp [hx]]
    exact H6.out.1.ck.below hb0
  case round =>
    obtain ⟨left, cnt, fs', hrg, hpl', hD, hSt, hfr, hsz⟩ := hrel
    clear hrg0 hg0 hs0 hnm b7
    obtain ⟨wO, hwO⟩ : ∃ x, x = wr := ⟨_, rfl⟩
    subst hwO
    -- blocks of the walk, still there
    have F3 := H.out.1.free_new (Nat.le_refl w.heap.size)
    have hz6 : w.heap.size + 5 ≤ w6.heap.size := by have := H6.out.2.kept.size; have := HB5.out.2; omega
    have k3 : wO.heap[w.heap.size]? = some (.cells #[cp p] 23 (0, 0)) := (hSt.kept.block _ (by omega) F3).trans H6.out.1.b3
    have k5 : wO.heap[w.heap.size + 1]? = some (.cells #[ov6] 29 (0, 0)) := (hSt.kept.block _ (by omega) H6.out.1.f5).trans H6.out.1.b5
    have c3 : wO.cell? ⟨w.heap.size, 0, none⟩ = some (cp p) := by simp [World.cell?, k3]
    have c5 : wO.cell? ⟨w.heap.size + 1, 0, none⟩ = some ov6 := by simp [World.cell?, k5]
    go_wp2_with (first
      | (at_next; refine next_nm _ rfl _ rfl Try.underlying3 w6.heap.size _ _ rfl hrg ?_ ?_)
      | go_in)
    · intro hl0
      have HD := hid (And.intro hD (And.intro hpl' hSt))
      obtain ⟨oa6, on6, oc6, rfl⟩ := ownG_shape (ownI_G H6.out.1.oi)
      clear hD hrg hpl' hSt hfr k3 k5
      go_wp2_with fail
      go_ret
      refine ⟨fs', .slice oa6 on6 oc6, rfl, ?_, HD.out.2.1, ownI_kept H6.out.1.oi HD.out.2.2.kept fun q e => H6.out.1.of q e, fun q e => HD.out.2.2.free q (OwnV.lt H6.out.1.oi q e) (H6.out.1.of q e), ?_, ?_, ?_, ?_⟩
      · have := HD.out.1
        rwa [cleaned_congr (T := fun x => decide (x ∈ st.1)) c.all (fun x => by rw [hl0]; simp)] at this
      · exact ((HB5.out.1.mono H.out.1.base_le).trans H6.out.2.bel).trans HD.out.2.2.bel
      · refine ⟨by have := HD.out.2.2.kept.size; omega, fun q hq hn => ?_⟩
        rw [HD.out.2.2.kept.block q (by omega) hn.1, H6.out.2.kept.block q (by have := HB5.out.2; omega) ⟨by omega, by omega, hn.2⟩]
        exact HB5.out.1.block q hq
      · intro q hq hn
        exact HD.out.2.2.free q (by omega) hn
      · intro q e
        rcases H6.out.2.own q e with h1 | h1
        · exact .inl h1
        · exact .inr (by have := HB5.out.2; omega)
    · intro s b w1 cnt1 hlk hls hrg1 hlt hg1 hs1 hen
      have hin : s ∈ st.1 := by
        rw [look_cnts] at hlk
        apply Classical.byContradiction
        intro hn
        rw [if_neg hn] at hlk; cases hlk
      obtain ⟨ia, ib, ic, hit⟩ := hrg.iter
      have hkr : Kept wO w1 (fun q => q ≠ w6.heap.size) := Kept.grown hg1 fun k hk hN => by cases hk; exact hN rfl
      have hD1 := hD.other hfr hkr (fun c f e => by rw [hit] at e; cases e)
      have hbr : Below base wO w1 := (Below.refl base wO).grown hg1 hD.base_le (fun k hk => by cases hk; exact H6.out.1.ck.base_le)
      have hS1 : Stp base p m w6 fs w1 fs' := ⟨hSt.bel.trans hbr, ⟨by have := hSt.kept.size; have := hkr.size; omega, fun q hq hf => (hkr.block q (by have := hSt.kept.size; omega) (by omega)).trans (hSt.kept.block q hq hf)⟩, hSt.free⟩
      have k31 : w1.heap[w.heap.size]? = some (.cells #[cp p] 23 (0, 0)) := (hkr.block _ (by omega) (by omega)).trans k3
      have d3 : w1.cell? ⟨w.heap.size, 0, none⟩ = some (cp p) := by simp [World.cell?, k31]
      -- the page
      have hsi : isI s := by
        obtain ⟨D, _, _, _, hwf, _⟩ := hrg.nm
        have := hwf (s, 1) (List.mem_map.2 ⟨s, hin, rfl⟩)
        simp [Lit.wf, IntKind.min, IntKind.max, IntKind.bits, IntKind.signed] at this
        exact this
      have hkeys : fs'.map (·.en.k) = c.all.map (·.k) := by
        have h1 : cleaned (fun x => decide (x ∈ st.1) && !left x) c.all = fs'.map (·.en) := hD.all
        rw [← cleaned_keys (fun x => decide (x ∈ st.1) && !left x) c.all, h1, List.map_map]; rfl
      obtain ⟨i, f, hi, hfk, hl4⟩ : ∃ (i : Nat) (f : PR), fs'[i]? = some f ∧ f.en.k = s ∧ Mx.look (plOf fs') s = some f.fb := by
        rcases hD1.who s with ⟨h1, _⟩ | ⟨i, f, h1, h2, h3, _⟩
        · rw [look_none, plOf_names, hkeys] at h1
          have := H.out.2.2.2.2.2.2 s hin
          unfold dirtyAt at this
          rw [find_none.2 h1] at this; cases this
        · exact ⟨i, f, h1, h2, h3⟩
      have hlf := hD1.look s hsi
      rw [hl4] at hlf
      replace hlf : (Instr.lookup 56 (.map (some m)) (.int .i64 s) false).run Try.prog w1 = .ok (.pointer (some ⟨f.fb, 0, none⟩)) w1 := hlf
      have c1 := hD1.cells.2.1
      obtain ⟨hcl, hst2⟩ := hD1.clean hi
      rw [hfk] at hcl
      have e1 := (hD1.pcells hi).2.1
      have ez := (hD1.pcells hi).2.2.2.2
      obtain ⟨fb, hfb⟩ : ∃ y, y = f.fb := ⟨_, rfl⟩
      rw [← hfb] at hlf e1 ez hcl hst2
      obtain ⟨w2, hw2⟩ : ∃ x, x = w1.setCell ⟨fb, 1, none⟩ (.bool false) := ⟨_, rfl⟩
      rw [← hw2] at hcl hst2
      have k32 : w2.heap[w.heap.size]? = some (.cells #[cp p] 23 (0, 0)) := (hst2.kept.block _ (blk_lt k31) (hS1.free _ (by omega) F3)).trans k31
      have d32 : w2.cell? ⟨w.heap.size, 0, none⟩ = some (cp p) := by simp [World.cell?, k32]
      have hlo := loose_any hcl s ((H.out.2.2.2.1.cleaned (fun x => decide (x ∈ st.1) && !left x)).offD s)
      have hstep := cleaned_step c.all (fun x => decide (x ∈ st.1) && !left x) (fun x => decide (x ∈ st.1) && !(left x && !(x == s))) s fun x => by
        by_cases hx : x = s
        · subst hx; simp [hin]
        · rw [show (x == s) = false by simpa using hx]; simp
      have hmm2 : w2.heap[w.heap.size + 1 + 1]? = w1.heap[w.heap.size + 1 + 1]? := hst2.kept.block _ (by have := hrg1.nm.lt; omega) (hS1.free _ (by omega) H6.out.1.fm)
      have hmr2 : w2.heap[w6.heap.size]? = w1.heap[w6.heap.size]? := hst2.kept.block _ (by omega) hfr
      have hrg2 := hrg1.blocks hmm2 hmr2
      have hfree2 : Free p m (fs'.set i (cleanPR f)) w6.heap.size := hst2.free _ (by omega) hfr
      have hs2 : w6.heap.size < w2.heap.size := by have := hst2.kept.size; omega
      have HLO := hid hlo
      have HN := hid (And.intro hrg2 (And.intro (hS1.trans hst2) (And.intro hfree2 (And.intro hs2 (And.intro hstep (And.intro hi (And.intro hpl' (And.intro hlt hrg.left_eq))))))))
      clear hrg2 hmm2 hmr2 hfree2 hlo hstep hst2 hcl hS1 hbr hkr hit hfb hl4 hfk hi hkeys hsi hD1 hD hrg hrg1 hpl' hSt hfr hin hlk hls hlt hg1 hs1 k3 k5 k31 k32 F3
      go_wp2_with fail
      rw [← hw2]
      go_wp2_with fail
      refine HLO.out.mono ?_
      rintro e w3 ⟨rfl, fs3, hC3, hp3, hs3⟩
      have hm3 : w3.heap[w.heap.size + 1 + 1]? = w2.heap[w.heap.size + 1 + 1]? := hs3.kept.block _ HN.out.1.nm.lt (HN.out.2.1.free _ (by omega) H6.out.1.fm)
      have hr3 : w3.heap[w6.heap.size]? = w2.heap[w6.heap.size]? := hs3.kept.block _ HN.out.2.2.2.1 HN.out.2.2.1
      have H3 := hid (And.intro (HN.out.1.blocks hm3 hr3) (And.intro hC3 (And.intro hp3 hs3)))
      clear hC3 hp3 hs3 hm3 hr3 hw2
      go_wp2_with fail
      go_roundw
      case rel =>
        refine ⟨_, cnt1, fs3, H3.out.1, ?_, ?_, HN.out.2.1.trans H3.out.2.2.2, H3.out.2.2.2.free _ HN.out.2.2.2.1 HN.out.2.2.1, by have := H3.out.2.2.2.kept.size; have := HN.out.2.2.2.1; omega⟩
        · rw [H3.out.2.2.1, plOf_set (F := cleanPR f) HN.out.2.2.2.2.2.1 rfl rfl]; exact HN.out.2.2.2.2.2.2.1
        · rw [HN.out.2.2.2.2.1]; exact H3.out.2.1
      case measure =>
        rw [H3.out.1.left_eq, HN.out.2.2.2.2.2.2.2.2]; exact HN.out.2.2.2.2.2.2.2.1
end
end Go.Proofs.Ytbklhhmcigangaa
