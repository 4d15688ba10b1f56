import Derived.Test.YtmcllcepoiakeaaGreatDH
import Derived.StillTailTactics
set_option linter.unusedSimpArgs false
set_option linter.unusedVariables false
namespace Go.Mx
open Go.RowKit
theorem wpStill_load_mid {P : Program} {ops : Array Oper} {w : World} {Q : Act → Prop} {a : Act} {o : Oper} {rest : List Oper} (hgd : o.guard = none) (ty : TypeId) (x : Operand) (ho : o.op = .load ty x)
    (b off : Nat) (hx : a.eval x = .pointer (some ⟨b, off, none⟩)) (cs : List Value) (d : TypeDesc) (hc : w.rangeAt b off cs)
    (hu : P.underlying ty = some d) (hd : d.isRow = true) (hi : (P.info? ty).map (·.size) = some cs.length)
    (h : wpStill P ops w Q rest (a.put o.dst (.agg cs.toArray))) : wpStill P ops w Q (o :: rest) a := by
  refine wpStill_step fun K hK => ?_
  have hw : Region.wanted o (yielded ops a.tmps) = true := by simp [Region.wanted, hgd]
  rw [if_pos hw]
  unfold Oper.still execOp
  simp only [ho, hx, Instr.loadAt, Instr.sureAddr, Sem.run_bind, Sem.run_pure, Result.andThen_ok, run_loadVar_mid w b off ty cs d hc hu hd hi]
  exact ⟨rfl, hK _ h⟩
end Go.Mx
namespace Go.Proofs.YtmcllcepoiakeaaGreat.Dx
open Go.RowKit Go.Mx Go.Mp Go.Dk
theorem run_max0 {P : Program} (w : World) (ts : Array TypeId) (t : TypeId) (D m : Int) (h : max D 0 = m) : (Builtin.max_ ts t #[.int .i64 D, .int .i64 0]).run P w = .ok (.int .i64 m) w := by
  subst h
  simp [Builtin.max_, Builtin.max2]
  repeat' split
  all_goals omega
theorem add_any (b : Nat) (o : Nat) (x : Int) (w : World) (hc : w.cell? ⟨b, o, none⟩ = some (.int .i64 x)) (hz : w.frozen? ⟨b, o, none⟩ = false) :
    Calls Tryz.prog 15 #[.pointer (some ⟨b, o, none⟩), .int .i64 1] w fun e w' => ∃ y : Int, e = .returned (.int .i64 y) ∧ w' = w.setCell ⟨b, o, none⟩ (.int .i64 y) := by
  have hadd := run_call_add (P := Tryz.prog) Tryz.func27 (by kernel_rfl) (by kernel_rfl) (by kernel_rfl) .i64 (by kernel_rfl) (y := 1) (s := IntKind.i64.wrap (x + 1)) hc hz (by simp [go_sem])
  go_enter Tryz.func15, Tryz.ntmps15
  go_wp2
  go_ret
  exact ⟨_, rfl, rfl⟩
def lenAt (w : World) (b : Nat) : Nat := match w.cell? ⟨b, 0, none⟩ with | some (.slice _ n _) => n | _ => 0
theorem lenAt_of {w : World} {b : Nat} {a : Option Addr} {n c : Nat} (h : w.cell? ⟨b, 0, none⟩ = some (.slice a n c)) : lenAt w b = n := by unfold lenAt; rw [h]
theorem upF_self (f : FR) : upF f true f.nv f.fm.now = f := rfl
theorem set_self {α : Type} (l : List α) (i : Nat) (x : α) (h : l[i]? = some x) : l.set i x = l := by
  apply List.ext_getElem?
  intro j
  rw [List.getElem?_set]
  by_cases e : i = j
  · subst e; rw [if_pos rfl, h, if_pos (List.getElem?_eq_some_iff.1 h).1]
  · rw [if_neg e]
theorem list16 (X : List Value) (h : X.length = 16) : ∃ x0 x1 x2 x3 x4 x5 x6 x7 x8 x9 x10 x11 x12 x13 x14 x15, X = [x0, x1, x2, x3, x4, x5, x6, x7, x8, x9, x10, x11, x12, x13, x14, x15] := by
  match X, h with
  | [x0, x1, x2, x3, x4, x5, x6, x7, x8, x9, x10, x11, x12, x13, x14, x15], _ => exact ⟨x0, x1, x2, x3, x4, x5, x6, x7, x8, x9, x10, x11, x12, x13, x14, x15, rfl⟩
theorem Tryz.info280 : (Tryz.prog.info? 280).map (fun i => (i.zero, i.size, i.bytes)) = some (some zrec, 18, 40) := by kernel_rfl
theorem grow_exit (l : List Sec) (n k : Nat) (h0 : l.length ≤ n) (h1 : n ≤ max l.length (k + 1)) (h2 : ¬ n ≤ k) : grow l n = grow l (k + 1) := by
  by_cases h : l.length ≤ k
  · rw [show n = k + 1 by omega]
  · rw [grow_self _ _ (by omega), grow_self _ _ (by omega)]
theorem setF_set (g : FM → FM) : ∀ (fs : List FR) (i : Nat) (f : FR) (f' : FR), (fs.map (·.fm.name)).Nodup → fs[i]? = some f → f'.fm = g f.fm → (fs.set i f').map (·.fm) = setF (fs.map (·.fm)) f.fm.name g
  | [], i, f, f', _, hi, _ => by simp at hi
  | h :: l, 0, f, f', hn, hi, hf => by
    simp at hi; subst hi
    rw [List.map_cons, List.nodup_cons] at hn
    unfold setF
    rw [List.set_cons_zero, List.map_cons, List.map_cons, List.map_cons, hf]
    simp only [beq_self_eq_true, if_true]
    congr 1
    rw [List.map_map]
    apply List.map_congr_left
    intro y hy
    have : (y.fm.name == h.fm.name) = false := by
      rw [beq_eq_false_iff_ne]; intro e; exact hn.1 (e ▸ List.mem_map.2 ⟨y, hy, rfl⟩)
    simp [Function.comp, this]
  | h :: l, i + 1, f, f', hn, hi, hf => by
    rw [List.map_cons, List.nodup_cons] at hn
    have hfl : f ∈ l := by simp at hi; exact List.mem_of_getElem? hi
    have ih := setF_set g l i f f' hn.2 (by simpa using hi) hf
    have : (h.fm.name == f.fm.name) = false := by
      rw [beq_eq_false_iff_ne]; intro e; exact hn.1 (e ▸ List.mem_map.2 ⟨f, hfl, rfl⟩)
    unfold setF at ih ⊢
    rw [List.set_cons_succ, List.map_cons, List.map_cons, List.map_cons, ih]
    simp [this]
section
variable {w w' : World} {base p : Nat} {d : DM} {fs : List FR} {m : Nat} {lv : Value} {x : Int} {V : Nat → Bool → Prop}
theorem DK.nodup (h : DK w base p d fs m lv x V) : (fs.map (·.fm.name)).Nodup := by have := h.mp.nodup; rwa [plOf_names] at this
theorem Fr.setP (h : DK w base p d fs m lv x V) (i : Nat) (v : Value) : Fr base m w (w.setCell ⟨p, i, none⟩ v) := h.frP i v
def OneP (w' : World) (base p : Nat) (d' : DM) (m i fb : Nat) (nm : List UInt8) (l' : List Sec) : Prop :=
  ∃ fs' lv' x' f', DK w' base p d' fs' m lv' x' (fun _ _ => True) ∧ fs'[i]? = some f' ∧ f'.fb = fb ∧ f'.fm.name = nm ∧ f'.fm.now = l'
set_option maxRecDepth 100000 in
set_option maxHeartbeats 1000000 in
theorem one_any (h : DK w base p d fs m lv x (fun _ _ => True)) {i : Nat} {f : FR} (hi : fs[i]? = some f) (k : Nat) (bv : Value) (bs : List UInt8) (hst : ∀ w', Fr base m w w' → SlB w' w'.heap.size bv bs) (h16 : 16 ≤ bs.length)
    (hk : k < 65536) (hnow : SecsOk f.fm.now) (hlog : d.log.length ≤ 1000000) (hleft : d.left ≤ 9223372036854775807) :
    Calls Tryz.prog 211 #[dp p, nmv f.fm.name, ptr f.fb, .int .i64 k, bv] w fun e w' => e = .returned (.int .i64 (if d.left = 1 then 8 else 0)) ∧
      OneP w' base p (Dk.one d f.fm.name k (bs.take 16)).1 m i f.fb f.fm.name (if d.left = 1 then f.fm.now else put f.fm.now k (bs.take 16)) ∧ Fr base m w w' := by
  obtain ⟨c0, c1, c2, c3, c4, c5⟩ := h.cells
  have fz := fun j => h.fz j
  by_cases h1 : d.left = 1
  · have H := hid (And.intro ((h.setLeft 0).setOff true) ((h.frP 3 (.int .i64 0)).trans ((h.setLeft 0).frP 4 (.bool true))))
    have HI := hid hi
    unfold Dk.one
    rw [if_pos h1, if_pos h1, if_pos h1]
    rw [h1] at c3
    have c3'' : (w.setCell ⟨p, 3, none⟩ (.int .i64 0)).cell? ⟨p, 3, none⟩ = some (.int .i64 0) := cs_same c3
    clear h hst c0 c1 c2 c5 hi hnow h16 hk hlog hleft h1
    have c4' : (w.setCell ⟨p, 3, none⟩ (.int .i64 0)).cell? ⟨p, 4, none⟩ = some (.bool d.off) := by rw [World.cell?_setCell_other w _ _ _ (by simp)]; exact c4
    go_enter Tryz.func211, Tryz.ntmps211
    go_wp2_with fail
    go_ret
    exact ⟨rfl, ⟨fs, lv, x, f, H.out.1, HI.out, rfl, rfl, rfl⟩, H.out.2⟩
  · unfold Dk.one
    rw [if_neg h1, if_neg h1, if_neg h1]
    obtain ⟨D, hD⟩ : ∃ D : Int, D = (d.left : Int) - 1 := ⟨_, rfl⟩
    obtain ⟨L, hL⟩ : ∃ L : Nat, L = d.left - 1 := ⟨_, rfl⟩
    have hsub : IntKind.i64.wrap ((d.left : Int) - 1) = D := by rw [hD]; exact IntWalk.i64_in _ (by omega)
    have c3' := cs_same (v := .int .i64 D) c3
    have t0 : (D == 0) = false := by rw [beq_eq_false_iff_ne]; omega
    have t1 : ¬ (D = 0) := by omega
    have t2 := fun w' => run_max0 (P := Tryz.prog) w' #[3, 3] 3 D (L : Int) (by omega)
    rw [← hL]
    have H1 := h.setLeft L
    have F1 := h.frP 3 (.int .i64 (L : Int))
    have htw := setCell_twice w ⟨p, 3, none⟩ (.int .i64 D) (.int .i64 (L : Int))
    obtain ⟨b0, b1, b2, b3, b4, b5⟩ := H1.cells
    have HA := hid (add_any p 5 x _ b5 (H1.fz 5))
    obtain ⟨w2, hw2⟩ : ∃ w2, w2 = w.setCell ⟨p, 3, none⟩ (.int .i64 (L : Int)) := ⟨_, rfl⟩
    rw [← hw2] at H1 F1 htw HA
    have H2 := hid (And.intro H1 F1)
    have H0 := hid (And.intro h hw2)
    have HST := hid hst
    have HLL := hid hL
    clear h hst c0 c1 c2 c4 c5 b0 b1 b2 b3 b4 b5 H1 F1 hw2 hD hL
    go_enter Tryz.func211, Tryz.ntmps211
    go_wp2_with fail
    refine HA.out.mono ?_
    rintro e w3 ⟨y, rfl, rfl⟩
    have H3 := H2.out.1.setX y
    have F3 := H2.out.2.trans (H2.out.1.frP 5 (.int .i64 y))
    obtain ⟨w3, hw3⟩ : ∃ w3, w3 = w2.setCell ⟨p, 5, none⟩ (.int .i64 y) := ⟨_, rfl⟩
    rw [← hw3] at H3 F3
    rw [← hw3]
    clear hw3 c3 c3' fz t0 t1 t2 hsub htw
    have hal : Below w3.heap.size w3 (w3.alloc (.cells zsec.cells 131)) := (Below.refl _ _).alloc (Nat.le_refl _) _
    have hb3 : base ≤ w3.heap.size := by have := H3.hp; have := H3.plt; omega
    have hq0 := alloc_new w3 (.cells zsec.cells 131)
    have hS := HST.out _ (F3.trans (Fr.of_below hal hb3))
    obtain ⟨oa, cap, rfl, hc1, hc2, hrd⟩ := hS
    have hs16 : (srow (bs.take 16)).length = 16 := by rw [srow_len]; simp; omega
    have HRD := hid hrd
    have HQ := hid (And.intro H3 (And.intro F3 (And.intro hal hb3)))
    clear hrd H3 F3 HA
    have hcs1 : (srow (bs.take 16)).length = Nat.min bs.length 16 := by rw [hs16]; show 16 = min bs.length 16; omega
    have hcs2 : 0 < (srow (bs.take 16)).length → ∃ ad, oa = some ad ∧ ∀ j v, (srow (bs.take 16))[j]? = some v → (w3.alloc (.cells zsec.cells 131)).cell? (ad.add j) = some v := by
      intro _
      obtain ⟨bb, bo, rfl, hlb, hr⟩ := HRD.out (by rintro rfl; simp at h16)
      refine ⟨_, rfl, ?_⟩
      intro j v hj
      have hj16 : j < 16 := by rw [← hs16]; exact (List.getElem?_eq_some_iff.1 hj).1
      rw [Addr.add_mid]
      have h1 := hr j (by omega)
      rw [h1]
      unfold srow at hj
      rw [List.getElem?_map, List.getElem?_take_of_lt hj16, List.getElem?_eq_getElem (by omega)] at hj
      rw [List.getD_eq_getElem?_getD, List.getElem?_eq_getElem (by omega)]
      exact hj
    obtain ⟨w5, hcp, hg5, hb5⟩ : ∃ w5, (Builtin.copy_ #[26, 26] 3 #[.slice (some ⟨w3.heap.size, 0, none⟩) 16 16, .slice oa bs.length cap]).run Tryz.prog (w3.alloc (.cells zsec.cells 131)) = .ok (.int .i64 16) w5 ∧ w5.heap[w3.heap.size]? = some (.cells (srow (bs.take 16)).toArray 131 (0, 0)) ∧ Below w3.heap.size w3 w5 := by
      obtain ⟨ad, rfl, hsrc⟩ := hcs2 (by rw [hs16]; decide)
      have hr := run_copy_row (P := Tryz.prog) (w3.alloc (.cells zsec.cells 131)) 26 26 3 5 w3.heap.size 0 16 16 ad bs.length cap zsec.cells 131 (srow (bs.take 16)) Tryz.underlying26 (by kernel_rfl) hq0 hcs1 hsrc (by rw [hs16]; decide) (srow_one _)
      rw [hs16] at hr
      have e1 : zsec.cells.toList.take 0 ++ srow (bs.take 16) ++ zsec.cells.toList.drop (0 + 16) = srow (bs.take 16) := by
        rw [show zsec.cells.toList.take 0 = [] from rfl, show zsec.cells.toList.drop (0 + 16) = [] from rfl]; simp
      rw [e1] at hr
      exact ⟨_, hr, setRow_heap _ _ _ _ _ _ hq0, below_setRow hal (Nat.le_refl _) _⟩
    simp only [zsec, Value.cells] at hcp
    have HQ5 := hid (And.intro hg5 hb5)
    clear hcs1 hcs2 hq0 hg5 hb5 hal hb3
    go_wp2_with fail
    have hilt : i < fs.length := (List.getElem?_eq_some_iff.1 hi).1
    have hL0 := hnow.1
    obtain ⟨s, hs⟩ : ∃ s, s = bs.take 16 := ⟨_, rfl⟩
    rw [← hs] at HQ5 hs16
    have HS := hid hs
    have hsl : s.length = 16 := by rw [← srow_len]; exact hs16
    have hp5 : base ≤ w5.heap.size := by have := HQ5.out.2.size; have := HQ.out.2.2.2; omega
    have hq0lt : w3.heap.size < w5.heap.size := blk_lt HQ5.out.1
    have HD5 := hid (HQ.out.1.below HQ5.out.2)
    have HF5 := hid (HQ.out.2.1.trans (Fr.of_below HQ5.out.2 HQ.out.2.2.2))
    have hfown : f.nv.ownBlock ≠ some w3.heap.size := fun e => by have := (HQ.out.1.ow i f true hi trivial).lt _ e; omega
    clear HQ hs HRD hcp
    go_loopw [48] (fun _ wr => ∃ (n : Nat) (F : FR), f.fm.now.length ≤ n ∧ n ≤ max f.fm.now.length (k + 1) ∧ DK wr base p { d with left := L, files := (fs.set i F).map (·.fm) } (fs.set i F) m lv y (fun _ _ => True) ∧ F.fb = f.fb ∧ F.fm = { f.fm with now := grow f.fm.now n } ∧
      F.nv.ownBlock ≠ some w3.heap.size ∧ Fr base m w wr ∧ wr.heap[w3.heap.size]? = some (.cells (srow s).toArray 131 (0, 0)) ∧ base ≤ wr.heap.size) (fun _ wr => k + 1 - lenAt wr f.fb)
    case atStart =>
      refine ⟨f.fm.now.length, f, Nat.le_refl _, by omega, ?_, rfl, by rw [grow_self _ _ (Nat.le_refl _)], hfown, HF5.out, HQ5.out.1, hp5⟩
      rw [set_self fs i f hi]
      have e := HD5.out.files
      have h5 := HD5.out
      rw [← e]
      exact h5
    case round =>
      obtain ⟨n, F, hn0, hn1, hD, hFb, hFm, hFq, hFr, hq, hb⟩ := hrel
      have hi' : (fs.set i F)[i]? = some F := List.getElem?_set_self hilt
      have hnow' : F.fm.now = grow f.fm.now n := by rw [hFm]
      have hgl : F.fm.now.length = n := by rw [hnow', grow_len]; omega
      obtain ⟨e0, e1, ez⟩ := hD.fcells hi'
      have hown := hD.ow i F true hi' trivial
      obtain ⟨oa, nn, c, hv⟩ := hD.sh i F true hi'
      have hnv : F.nv = .slice oa nn c := hv
      have hown' : OwnG wr base 131 16 F.nv (F.fm.now.map srow) := hown
      have hlen := fun w' => secs_len hown' w' (ty := 3)
      rw [hgl, hnv] at hlen
      rw [hFb, hnv] at e0
      rw [hFb] at ez
      have hez := ez 0
      have hfb := (hD.fc i F hi').1
      rw [hFb] at hfb
      have hnn : nn = n := by
        obtain ⟨_, _, h9, _⟩ := hown'.slG
        rw [hnv] at h9
        simp only [Value.slice.injEq] at h9
        rw [h9.2.1]; simp; exact hgl
      by_cases hle : n ≤ k
      · have tle : decide ((n : Int) ≤ (k : Int)) = true := by simp; omega
        have hal : Below wr.heap.size wr (wr.alloc (.cells zsec.cells 131)) := (Below.refl _ _).alloc (Nat.le_refl _) _
        have hownA := hown'.below hal (Nat.le_refl _)
        have hcell : ∀ j u, (srow zs)[j]? = some u → (wr.alloc (.cells zsec.cells 131)).cell? ⟨wr.heap.size, j, none⟩ = some u := fun j u hj => row_cells wr (srow zs) 131 j u hj
        have hX : ∀ w1, (wr.alloc (.cells zsec.cells 131)).grownBy w1 F.nv.ownBlock → w1.heap[f.fb]? = some (.cells #[F.nv, F.kv] 68 (0, 0)) := fun w1 hg => (hg.block _ (by simp; have := blk_lt hfb; omega) (fun e => hown'.not hfb (by decide) e.symm)).trans ((hal.block _ (blk_lt hfb)).trans hfb)
        have HX := hid hX
        have hl1 : (F.fm.now.map srow).length + 1 ≤ 140737488355328 := by simp; omega
        have hl2 : ((F.fm.now.map srow).length + 1) * 16 ≤ 140737488355328 := by simp; omega
        have hbA : base ≤ (wr.alloc (.cells zsec.cells 131)).heap.size := by simp; omega
        have hzo := srow_one zs
        have HO := hid (And.intro hD (And.intro hown' (And.intro hFr (And.intro hal hq))))
        have HFQ := hid (And.intro hFq (And.intro hFb (And.intro hFm hnow')))
        rw [hnv] at hownA
        have hgn : ∀ w1, (wr.alloc (.cells zsec.cells 131)).grownBy w1 (Value.slice oa nn c).ownBlock → w1.cell? ⟨f.fb, 0, none⟩ = some (.slice oa nn c) ∧ w1.frozen? ⟨f.fb, 0, none⟩ = false := fun w1 hg => by
          have := HX.out w1 (by rw [hnv]; exact hg)
          refine ⟨?_, ?_⟩
          · simp [World.cell?, this, hnv]
          · simp [World.frozen?, this]
        have HGN := hid hgn
        have HNV := hid hnv
        have HNN := hid (And.intro hnn hgl)
        clear hnn hgl
        clear hX hD hown hown' hFr hq hFq hFm hnow' hgn hfb e1 ez hv hnv
        go_wp2_with (at_builtin; refine append_gn _ rfl _ _ 66 131 zsec 16 16 rfl Tryz.underlying66 Tryz.info131 rfl (by decide) base _ (F.fm.now.map srow) rfl hownA wr.heap.size _ (srow zs) rfl rfl hcell hzo hl2 hl1 hbA ?_; intro v' w1 ho1 hg1 hb1 hbk1; obtain ⟨oa', n', c', rfl⟩ := ho1.sliceOf; obtain ⟨hgc, hgf⟩ := HGN.out w1 hg1)
        go_roundw
        case rel =>
          have hi2 : (fs.set i F)[i]? = some F := List.getElem?_set_self hilt
          have hg1' : (wr.alloc (.cells zsec.cells 131)).grownBy w1 F.nv.ownBlock := by rw [HNV.out]; exact hg1
          have hkp : Kept wr w1 (fun q => F.nv.ownBlock ≠ some q) := (Kept.of_below HO.out.2.2.2.1 fun _ h _ => h).trans (Kept.grown hg1' fun k' hk' hN => hN hk')
          have hbl : Below base wr w1 := (HO.out.2.2.2.1.mono hb).trans hb1
          have ho1' : OwnG w1 base 131 16 (.slice oa' n' c') ((grow f.fm.now (n + 1)).map srow) := by
            rw [← grow_snoc f.fm.now (n + 1) n hn0 (by omega), List.map_append, ← HFQ.out.2.2.2]; exact ho1
          have hnew := DK.newSl HO.out.1 hi2 true (fun _ _ => True) (fun _ _ _ _ => trivial) hkp (fun q hq => hq trivial) hbl (.slice oa' n' c') (grow f.fm.now (n + 1)) (fun _ => ho1')
            (fun _ q hq => by
              rcases hbk1 q hq with h | h
              · exact .inl ⟨true, trivial, by show F.nv.ownBlock = _; rw [HNV.out]; exact h⟩
              · exact .inr (by simp at h; omega))
            (fun _ _ q hq1 hq2 => by
              rcases hbk1 q hq1 with h | h
              · exact HO.out.1.as_ i i true false F F hi2 hi2 trivial trivial (.inr (by decide)) q (by show F.nv.ownBlock = _; rw [HNV.out]; exact h) hq2
              · have := (HO.out.1.ow i F false hi2 trivial).lt q hq2
                simp at h; omega) ⟨_, _, _, rfl⟩
          rw [List.set_set, HFQ.out.2.1] at hnew
          refine ⟨n + 1, _, by omega, by omega, hnew.1, HFQ.out.2.1, ?_, ?_, HO.out.2.2.1.trans hnew.2, ?_, by have h9 := hbl.size; simp; omega⟩
          · show ({ F.fm with now := _ } : FM) = _
            rw [HFQ.out.2.2.1]
          · intro e
            rcases hbk1 _ e with h | h
            · exact HFQ.out.1 (by rw [HNV.out]; exact h)
            · have := blk_lt HO.out.2.2.2.2; simp at h; omega
          · have h1 := hkp.block _ (blk_lt HO.out.2.2.2.2) HFQ.out.1
            have hfq : w3.heap.size ≠ f.fb := by
              have := (HO.out.1.fc i F hi2).1
              rw [HFQ.out.2.1] at this
              exact blk_ne HO.out.2.2.2.2 this (by decide)
            rw [Below.heap_setCell w1 ⟨f.fb, 0, none⟩ _ _ hfq]
            exact h1.trans HO.out.2.2.2.2
        case measure =>
          have e2 : lenAt wr f.fb = n := by rw [lenAt_of e0, HNN.out.1]
          have e3 : lenAt (w1.setCell ⟨f.fb, 0, none⟩ (.slice oa' n' c')) f.fb = n + 1 := by
            rw [lenAt_of (cs_same hgc)]
            obtain ⟨_, _, h9, _⟩ := ho1.slG
            simp only [Value.slice.injEq] at h9
            rw [h9.2.1]; simp; exact HNN.out.2
          rw [e2, e3]; omega
      · have tle : decide ((n : Int) ≤ (k : Int)) = false := by simp; omega
        obtain ⟨g, cp, hvg, hbg, hglt⟩ : ∃ g cp, F.nv = .slice (some ⟨g, 0, none⟩) (F.fm.now.map srow).length cp ∧ base ≤ g ∧ g < wr.heap.size := by
          rcases hown'.shape with ⟨_, h0⟩ | h0
          · have := congrArg List.length h0; simp at this; rw [this] at hgl; simp at hgl; omega
          · exact h0
        rw [hnv] at hvg
        simp only [Value.slice.injEq] at hvg
        obtain ⟨rfl, hvg2, rfl⟩ := hvg
        subst hnn
        have hkl : k < (F.fm.now.map srow).length := by simp; omega
        have hown2 : OwnG wr base 131 16 (.slice (some ⟨g, 0, none⟩) nn c) (F.fm.now.map srow) := by rw [← hnv]; exact hown'
        have hset := hown2.setAt k (srow s) hkl hs16
        have hia := hown2.addr (P := Tryz.prog) Tryz.underlying66 size131 k hkl
        have hth := hown2.there (k * 16) 16 (by have h5 := hown2.parts.2.2.1; omega)
        have hpu : F.fm.now.set k s = put f.fm.now k s := by rw [hnow', grow_exit _ _ k hn0 hn1 hle]; rfl
        rw [← List.map_set, hpu] at hset
        have hsz71 : (Tryz.prog.info? 131).map (·.size) = some (srow s).length := by rw [hs16]; kernel_rfl
        have hone := srow_one s
        have hrg : (World.drew wr).rangeAt w3.heap.size 0 (srow s) := fun j u hu => by
          have hq2 : (World.drew wr).heap[w3.heap.size]? = some (.cells (srow s).toArray 131 (0, 0)) := hq
          simp only [World.cell?, hq2]; simpa using hu
        have hth2 : (World.drew wr).there g (k * 16) (srow s).length := by rw [hs16]; exact hth
        -- behind the store
        have hkset : Kept wr ((World.drew wr).setCells g (k * 16) (srow s)) (fun q => F.nv.ownBlock ≠ some q) := (Kept.drew wr _).trans (Kept.setCells _ g (k * 16) (srow s) fun hN => hN (by rw [hnv]; rfl))
        have hbset : Below base wr ((World.drew wr).setCells g (k * 16) (srow s)) := Mx.Below.setCells (srow s) ((Below.refl base wr).drew) hbg
        have hown3 : OwnG ((World.drew wr).setCells g (k * 16) (srow s)) base 131 16 (.slice (some ⟨g, 0, none⟩) nn c) ((put f.fm.now k s).map srow) := by
          have h3 : OwnG (World.drew wr) base 131 16 (.slice (some ⟨g, 0, none⟩) nn c) (F.fm.now.map srow) := hown2
          have := h3.setAt k (srow s) hkl hs16
          rwa [← List.map_set, hpu] at this
        have hnew := DK.newSl hD hi' true (fun _ _ => True) (fun _ _ _ _ => trivial) hkset (fun q hq => hq trivial) hbset (.slice (some ⟨g, 0, none⟩) nn c) (put f.fm.now k s) (fun _ => hown3)
          (fun _ q hq => .inl ⟨true, trivial, by show F.nv.ownBlock = _; rw [hnv]; exact hq⟩)
          (fun _ _ q hq1 hq2 => hD.as_ i i true false F F hi' hi' trivial trivial (.inr (by decide)) q (by show F.nv.ownBlock = _; rw [hnv]; exact hq1) hq2) ⟨_, _, _, rfl⟩
        have hfb6 : ((World.drew wr).setCells g (k * 16) (srow s)).heap[f.fb]? = some (.cells #[F.nv, F.kv] 68 (0, 0)) := (hkset.block _ (blk_lt hfb) (hown'.not hfb (by decide))).trans hfb
        have hq6 : ((World.drew wr).setCells g (k * 16) (srow s)).heap[w3.heap.size]? = some (.cells (srow s).toArray 131 (0, 0)) := (hkset.block _ (blk_lt hq) hFq).trans hq
        have hc6 : ((World.drew wr).setCells g (k * 16) (srow s)).cell? ⟨f.fb, 0, none⟩ = some (.slice (some ⟨g, 0, none⟩) nn c) := by simp [World.cell?, hfb6, hnv]
        rw [List.set_set, hFb] at hnew
        have hnew1 := hnew.1
        have hnew2 := hnew.2
        rw [show offB true = 0 from rfl, setCell_self hc6] at hnew1 hnew2
        have hFF : (upF F true (.slice (some ⟨g, 0, none⟩) nn c) (put f.fm.now k s)).fm = { f.fm with now := put f.fm.now k s } := by
          show ({ F.fm with now := _ } : FM) = _
          rw [hFm]
        obtain ⟨F2, hF2⟩ : ∃ F2, F2 = upF F true (.slice (some ⟨g, 0, none⟩) nn c) (put f.fm.now k s) := ⟨_, rfl⟩
        have hF2b : F2.fb = f.fb := by rw [hF2, (upF_fb _ _ _ _).1, hFb]
        rw [← hF2] at hnew1 hFF
        have hb6 : base ≤ ((World.drew wr).setCells g (k * 16) (srow s)).heap.size := by have := hbset.size; omega
        have HN := hid (And.intro hnew1 (And.intro (hFr.trans hnew2) (And.intro hFF (And.intro hF2b (And.intro hq6 hb6)))))
        obtain ⟨X, hX⟩ : ∃ X, X = srow s := ⟨_, rfl⟩
        rw [← hX] at hsz71 hone hrg hth2 HN hs16
        have HX := hid hX
        clear hset hth hkset hbset hown3 hnew hfb6 hq6 hc6 hnew1 hnew2 hFF hF2b hF2 hX hown2 hown hown' hD hFr hq hFq hFm hnow' hpu hgl hnv hfb hv hb6 hvg2 hkl
        go_wp2_with fail
        refine wp_region_still_tail 7 (by kernel_rfl) (by kernel_rfl) ?_
        simp only [List.take_succ_cons, List.take_zero, List.drop_succ_cons, List.drop_zero]
        repeat (first | (refine wpStill_load_mid rfl 131 _ rfl w3.heap.size 0 rfl X _ hrg Tryz.underlying131 rfl hsz71 ?_) | still_step)
        refine wpStill_nil ?_
        change wpList _ _ _ _ _ (World.drew _)
        refine wpList_store_list rfl 131 _ _ rfl g (k * 16) X rfl rfl hth2 hsz71 hone ?_
        obtain ⟨w6, hw6⟩ : ∃ w6, w6 = (World.drew wr).setCells g (k * 16) X := ⟨_, rfl⟩
        rw [← hw6] at HN
        rw [← hw6]
        have hlg := HN.out.1.lg
        obtain ⟨la, ln, lc, hlv⟩ := hlg.sliceOf
        have c2 := HN.out.1.cells.2.2.1
        have fz2 := HN.out.1.fz 2
        have hp6 := HN.out.1.dk
        rw [hlv] at c2 hlg hp6
        have hrg6 : (World.drew w6).rangeAt w3.heap.size 0 X := fun j u hu => by
          have hq2 : (World.drew w6).heap[w3.heap.size]? = some (.cells X.toArray 131 (0, 0)) := HN.out.2.2.2.2.1
          simp only [World.cell?, hq2]; simpa using hu
        obtain ⟨x0, x1, x2, x3, x4, x5, x6, x7, x8, x9, x10, x11, x12, x13, x14, x15, hX16⟩ := list16 X hs16
        rw [hX16] at hrg6 hsz71 HX hone
        have hrl : lrow ⟨f.fm.name, k, s⟩ = [nmv f.fm.name, .int .i64 k, x0, x1, x2, x3, x4, x5, x6, x7, x8, x9, x10, x11, x12, x13, x14, x15] := by unfold lrow; rw [← HX.out]
        have hb6 := HN.out.2.2.2.2.2
        have halA : Below w6.heap.size w6 ((w6.alloc (.cells #[nmv f.fm.name, .int .i64 k, x0, x1, x2, x3, x4, x5, x6, x7, x8, x9, x10, x11, x12, x13, x14, x15] 280)).drew) := ((Below.refl w6.heap.size w6).alloc (Nat.le_refl _) _).drew
        have hlgA : OwnG ((w6.alloc (.cells #[nmv f.fm.name, .int .i64 k, x0, x1, x2, x3, x4, x5, x6, x7, x8, x9, x10, x11, x12, x13, x14, x15] 280)).drew) base 280 18 (.slice la ln lc) (d.log.map lrow) := hlg.below halA (Nat.le_refl _)
        have hcellA : ∀ j u, [nmv f.fm.name, .int .i64 k, x0, x1, x2, x3, x4, x5, x6, x7, x8, x9, x10, x11, x12, x13, x14, x15][j]? = some u → ((w6.alloc (.cells #[nmv f.fm.name, .int .i64 k, x0, x1, x2, x3, x4, x5, x6, x7, x8, x9, x10, x11, x12, x13, x14, x15] 280)).drew).cell? ⟨w6.heap.size, j, none⟩ = some u := fun j u hj => row_cells w6 [nmv f.fm.name, .int .i64 k, x0, x1, x2, x3, x4, x5, x6, x7, x8, x9, x10, x11, x12, x13, x14, x15] 280 j u hj
        have honeA : ∀ u ∈ [nmv f.fm.name, .int .i64 k, x0, x1, x2, x3, x4, x5, x6, x7, x8, x9, x10, x11, x12, x13, x14, x15], u.oneCell' = true := by rw [← hrl]; exact lrow_one _
        have hl1 : (d.log.map lrow).length + 1 ≤ 140737488355328 := by simp; omega
        have hl2 : ((d.log.map lrow).length + 1) * 40 ≤ 140737488355328 := by simp; omega
        have hbA : base ≤ ((w6.alloc (.cells #[nmv f.fm.name, .int .i64 k, x0, x1, x2, x3, x4, x5, x6, x7, x8, x9, x10, x11, x12, x13, x14, x15] 280)).drew).heap.size := by have := halA.size; omega
        have HP : Hid (∀ w7, ((w6.alloc (.cells #[nmv f.fm.name, .int .i64 k, x0, x1, x2, x3, x4, x5, x6, x7, x8, x9, x10, x11, x12, x13, x14, x15] 280)).drew).grownBy w7 (Value.slice la ln lc).ownBlock → w7.cell? ⟨p, 2, none⟩ = some (.slice la ln lc) ∧ w7.frozen? ⟨p, 2, none⟩ = false) := hid fun w7 hg => by
          have h1 := (hg.block p (by have := blk_lt hp6; have := halA.size; omega) (fun e => hlg.not hp6 (by decide) e.symm)).trans ((halA.block p (blk_lt hp6)).trans hp6)
          refine ⟨?_, ?_⟩
          · simp [World.cell?, h1, dcells]
          · simp [World.frozen?, h1]
        have c2A : (w6.alloc (.cells #[nmv f.fm.name, .int .i64 k, x0, x1, x2, x3, x4, x5, x6, x7, x8, x9, x10, x11, x12, x13, x14, x15] 280)).cell? ⟨p, 2, none⟩ = some (.slice la ln lc) := (((Below.refl w6.heap.size w6).alloc (Nat.le_refl _) _).cell (p := ⟨p, 2, none⟩) (blk_lt hp6)).trans c2
        have hq6 : w6.heap[w3.heap.size]? = some (.cells #[x0, x1, x2, x3, x4, x5, x6, x7, x8, x9, x10, x11, x12, x13, x14, x15] 131 (0, 0)) := by have := HN.out.2.2.2.2.1; rw [hX16] at this; exact this
        have q0 : w6.cell? ⟨w3.heap.size, 0, none⟩ = some x0 := by simp [World.cell?, hq6]
        have q1 : w6.cell? ⟨w3.heap.size, 1, none⟩ = some x1 := by simp [World.cell?, hq6]
        have q2 : w6.cell? ⟨w3.heap.size, 2, none⟩ = some x2 := by simp [World.cell?, hq6]
        have q3 : w6.cell? ⟨w3.heap.size, 3, none⟩ = some x3 := by simp [World.cell?, hq6]
        have q4 : w6.cell? ⟨w3.heap.size, 4, none⟩ = some x4 := by simp [World.cell?, hq6]
        have q5 : w6.cell? ⟨w3.heap.size, 5, none⟩ = some x5 := by simp [World.cell?, hq6]
        have q6 : w6.cell? ⟨w3.heap.size, 6, none⟩ = some x6 := by simp [World.cell?, hq6]
        have q7 : w6.cell? ⟨w3.heap.size, 7, none⟩ = some x7 := by simp [World.cell?, hq6]
        have q8 : w6.cell? ⟨w3.heap.size, 8, none⟩ = some x8 := by simp [World.cell?, hq6]
        have q9 : w6.cell? ⟨w3.heap.size, 9, none⟩ = some x9 := by simp [World.cell?, hq6]
        have q10 : w6.cell? ⟨w3.heap.size, 10, none⟩ = some x10 := by simp [World.cell?, hq6]
        have q11 : w6.cell? ⟨w3.heap.size, 11, none⟩ = some x11 := by simp [World.cell?, hq6]
        have q12 : w6.cell? ⟨w3.heap.size, 12, none⟩ = some x12 := by simp [World.cell?, hq6]
        have q13 : w6.cell? ⟨w3.heap.size, 13, none⟩ = some x13 := by simp [World.cell?, hq6]
        have q14 : w6.cell? ⟨w3.heap.size, 14, none⟩ = some x14 := by simp [World.cell?, hq6]
        have q15 : w6.cell? ⟨w3.heap.size, 15, none⟩ = some x15 := by simp [World.cell?, hq6]
        have HRL := hid hrl
        have HAL := hid halA
        have HHL := hid (And.intro hlg hlgA)
        have HLV := hid hlv
        clear hw6 hrg hth2 ez hez e0 e1 hlen hia tle hlv hlg hp6 hX16 hrl halA hs16 hrg6 hsz71 hq6
        go_wp2_with fail
        go_region_law (refine step_append_gn _ (by rfl) (.tmp 70) (.tmp 75) 62 280 zrec 18 40 rfl Tryz.underlying62 Tryz.info280 rfl (by decide) base _ (d.log.map lrow) (by rfl) hlgA w6.heap.size 1 [nmv f.fm.name, .int .i64 k, x0, x1, x2, x3, x4, x5, x6, x7, x8, x9, x10, x11, x12, x13, x14, x15] (by rfl) rfl hcellA honeA hl2 hl1 hbA ?_; intro v' w7 ho7 hg7 hb7 hbk7; obtain ⟨oa', n', c', rfl⟩ := ho7.sliceOf; obtain ⟨hgc, hgf⟩ := HP.out w7 hg7)
        all_goals
          have hk7 : Kept w6 w7 (fun q => lv.ownBlock ≠ some q) := (Kept.of_below HAL.out fun _ h _ => h).trans (Kept.grown hg7 fun k' hk' hN => hN (by rw [HLV.out]; exact hk'))
          have hb67 : Below base w6 w7 := (HAL.out.mono hb6).trans hb7
          have hnl := HN.out.1.newLog hk7 hb67 (.slice oa' n' c') (d.log ++ [⟨f.fm.name, k, s⟩]) (by
            rw [List.map_append, List.map_cons, List.map_nil, HRL.out]; exact ho7)
          have HNL := hid hnl
          have HDON := hid hi
          clear hnl hk7 hb67 ho7 hg7 hb7 hbk7 hlgA hcellA honeA c2A
          go_wp2_with fail
          go_ret
          refine ⟨rfl, ⟨fs.set i F2, .slice oa' n' c', y, F2, ?_, List.getElem?_set_self hilt, HN.out.2.2.2.1, by rw [HN.out.2.2.1], by rw [HN.out.2.2.1, HS.out]⟩, HN.out.2.1.trans HNL.out.2⟩
          have e9 := setF_set (fun g => { g with now := put g.now k (bs.take 16) }) fs i f F2 H0.out.1.nodup HDON.out (by rw [HN.out.2.2.1, HS.out])
          rw [← H0.out.1.files] at e9
          rw [← e9, ← HS.out]
          exact HNL.out.1
end
end Go.Proofs.YtmcllcepoiakeaaGreat.Dx
