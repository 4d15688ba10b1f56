import Derived.Test.YtoccgpddmhhlgaaW
namespace Go.Mx
open Go.RowKit
theorem OwnB.store_any {w : World} {base : Nat} {e : TypeId} {v : Value} {l : List UInt8} (h : OwnB w base e v l) (g i : Nat) (b : UInt8) : ∃ l' : List UInt8, l'.length = l.length ∧ OwnB (w.setCell ⟨g, i, none⟩ (u8 b)) base e v l' := by
  rcases h with ⟨h1, ⟨rfl, h0⟩ | ⟨g', cap, cur, rfl, hb, hg, hn, hm, hs, ht⟩⟩
  · exact ⟨l, rfl, h1, .inl ⟨rfl, h0⟩⟩
  · by_cases hgg : g' = g
    · subst hgg
      refine ⟨l.set i b, by simp, by simp, .inr ⟨g', cap, cur.setIfInBounds i (u8 b), by simp, hb, heap_setCell_at w g' i _ cur e _ hg, by simpa using hn, hm, by simpa using hs, ?_⟩⟩
      rw [Array.toList_setIfInBounds, List.take_set, List.length_set, ht, List.map_set]
    · refine ⟨l, rfl, h1, .inr ⟨g', cap, cur, rfl, hb, ?_, hn, hm, hs, ht⟩⟩
      rw [Below.heap_setCell w ⟨g, i, none⟩ _ g' hgg]; exact hg
end Go.Mx
namespace Go.Proofs.Ytoccgpddmhhlgaa
open Go.RowKit Go.Mx Go.Crc Go.Str

/-- a stream of the call's own, its bytes whatever they be -/
structure Tq (w0 w : World) (q : Nat) (f : Bool) (z : Int) (rv : Value) (ps : List (Rec × Value)) : Prop where
  st : w.heap[q]? = some (.cells #[.bool f, .int .i64 z, rv] 39 (0, 0))
  own : w.ownsRow w0.heap.size 47 2 rv ps.length (flatP ps)
  dat : ∀ y ∈ ps, ∃ l : List UInt8, l.length = y.1.data.length ∧ OwnB w w0.heap.size 5 y.2 l
  bel : Below w0.heap.size w0 w
theorem Tq.store {w0 w : World} {q : Nat} {f : Bool} {z : Int} {rv : Value} {ps : List (Rec × Value)} (h : Tq w0 w q f z rv ps) {g : Nat} {c : Array Value} {fr : Nat × Nat} (hg : w.heap[g]? = some (.cells c 5 fr)) (hb : w0.heap.size ≤ g) (i : Nat) (b : UInt8) : Tq w0 (w.setCell ⟨g, i, none⟩ (Mx.u8 b)) q f z rv ps := by
  have hk : Kept w (w.setCell ⟨g, i, none⟩ (Mx.u8 b)) (· ≠ g) := .set _ _ _ _ fun hn => hn rfl
  refine ⟨(hk.block q (blk_lt h.st) (blk_ne h.st hg (by decide))).trans h.st, ownsRow_kept h.own hk fun k e => by rintro rfl; exact ownsRow_not h.own hg (by decide) e, fun y hy => ?_, h.bel.setCell (p := ⟨g, i, none⟩) hb _⟩
  obtain ⟨l, hl, ho⟩ := h.dat y hy
  obtain ⟨l', hl', ho'⟩ := ho.store_any g i b
  exact ⟨l', hl'.trans hl, ho'⟩
theorem Tq.cells {w0 w : World} {q : Nat} {f : Bool} {z : Int} {rv : Value} {ps : List (Rec × Value)} (h : Tq w0 w q f z rv ps) : w.cell? ⟨q, 2, none⟩ = some rv := by
  have := h.st; simp [World.cell?, this]
theorem Tq.at {w0 w : World} {q : Nat} {f : Bool} {z : Int} {rv : Value} {ps : List (Rec × Value)} (h : Tq w0 w q f z rv ps) (i : Nat) (hi : i < ps.length) :
    ∃ b o l, (∀ w' (k : IntKind), (Instr.indexAt 37 rv (.int k (i : Int))).run Try.prog w' = .ok (.pointer (some ⟨b, o, none⟩)) w') ∧ w.cell? ⟨b, o + 1, none⟩ = some (ps[i].2) ∧ l.length = ps[i].1.data.length ∧ OwnB w w0.heap.size 5 ps[i].2 l := by
  have hf : flatP ps = (ps.map fun x => [Value.int .i64 x.1.at_, x.2]).flatten := by unfold flatP; rw [List.flatMap_def]
  have hs : SlG w w.heap.size 2 rv (ps.map fun x => [Value.int .i64 x.1.at_, x.2]) := by
    refine ownsRow_slG (e := 47) (base := w0.heap.size) (by rw [List.length_map, ← hf]; exact h.own) ?_
    intro r hr; simp at hr; obtain ⟨a, b, _, rfl⟩ := hr; rfl
  obtain ⟨b, o, hb, hia, hc⟩ := hs.addr (P := Try.prog) Try.underlying37 size47 i (by simpa using hi)
  obtain ⟨l, hl, ho⟩ := h.dat ps[i] (List.getElem_mem _)
  refine ⟨b, o, l, hia, hc 1 _ ?_, hl, ho⟩
  simp [List.getD_eq_getElem?_getD, hi]

theorem Tq.len {w0 w : World} {q : Nat} {f : Bool} {z : Int} {rv : Value} {ps : List (Rec × Value)} (h : Tq w0 w q f z rv ps) : ps.length ≤ maxLen ∧ ∀ w', (Builtin.len_ #[37] 3 #[rv]).run Try.prog w' = .ok (.int .i64 ps.length) w' := by
  have h0 := h.own
  obtain ⟨_, ⟨rfl, h1⟩ | ⟨g, cap, cur, rfl, hb, hg, hn, hm, hs, ht⟩⟩ := h0
  · refine ⟨by rw [h1]; exact Nat.zero_le _, fun w' => ?_⟩
    rw [h1]; exact len_sl Try.underlying37 rfl w'
  · exact ⟨Nat.le_trans hn hm, fun w' => len_sl Try.underlying37 rfl w'⟩
theorem Tq.step {w0 w w' : World} {q : Nat} {f : Bool} {z : Int} {rv : Value} {ps : List (Rec × Value)} (h : Tq w0 w q f z rv ps) (hb : Below w.heap.size w w') : Tq w0 w' q f z rv ps := by
  have kb : Kept w w' (fun _ => True) := ⟨hb.size, fun j hj _ => hb.block j hj⟩
  refine ⟨(hb.block q (blk_lt h.st)).trans h.st, ownsRow_kept h.own kb fun _ _ => trivial, fun y hy => ?_, h.bel.trans (hb.mono h.bel.size)⟩
  obtain ⟨l, hl, ho⟩ := h.dat y hy
  exact ⟨l, hl, ho.kept kb fun _ _ => trivial⟩

set_option maxRecDepth 100000 in
set_option maxHeartbeats 4000000 in
theorem back_any (s : Strm) (sv : Value) (w : World) (h : SlR w w.heap.size sv s.recs) :
    Calls Try.prog 6 #[strmV s sv] w fun e w' => e = .returned (.bool true) ∧ Below w.heap.size w w' := by
  have B0 := Bx.new h
  have HB0 := hid B0
  have HG := hid (great_any s sv _ B0.slw)
  clear h B0
  have e0 : strmV s sv = .agg #[.bool s.full, .int .i64 s.size, sv] := rfl
  rw [e0]
  clear e0
  go_enter Try.func6, Try.ntmps6
  go_wp2_with fail
  refine HG.out.mono ?_
  rintro e w1 ⟨⟨g, rfl⟩, hb1⟩
  have B1 := HB0.out.step hb1
  obtain ⟨c0, c1, c2⟩ := B1.cells
  have HB1 := hid B1
  clear HG HB0 hb1 B1
  cases g
  rotate_left
  · go_wp2_with (go_at_call 20; refine (awake_any _).mono ?_; rintro e w2 ⟨rfl, hb2⟩)
    go_ret
    exact ⟨rfl, HB1.out.bel.trans (hb2.mono HB1.out.bel.size)⟩
  have HR := hid (rright_any s sv _ HB1.out.slw)
  go_wp2_with fail
  refine HR.out.mono ?_
  rintro e w2 ⟨rfl, hb2⟩
  have B2 := HB1.out.step hb2
  clear c0 c1 c2
  obtain ⟨c0, c1, c2⟩ := B2.cells
  have HB2 := hid B2
  clear HR HB1 hb2 B2
  cases hr : right s
  · go_wp2_with (go_at_call 20; refine (awake_any _).mono ?_; rintro e w3 ⟨rfl, hb3⟩)
    go_ret
    exact ⟨rfl, HB2.out.bel.trans (hb3.mono HB2.out.bel.size)⟩
  have HRT := hid hr
  clear hr
  have HC := hid (sput_any s sv _ HB2.out.slw)
  rw [show putR s = (putB s, 0) by unfold putR; rw [HRT.out]; rfl] at HC
  have HPL := hid (putB_short HRT.out)
  have HGP := hid (get_put s HRT.out)
  obtain ⟨pb, hpb⟩ : ∃ pb, pb = putB s := ⟨_, rfl⟩
  rw [← hpb] at HC HPL HGP
  clear hpb
  go_wp2_with fail
  refine HC.out.mono ?_
  rintro e w3 ⟨v, rfl, ho, hb3⟩
  have B3 := HB2.out.step hb3
  have HB3 := hid (And.intro B3 ho.slB)
  have HG3 := hid (sget_any pb v _ ho.slB (by have := HPL.out; omega))
  clear HC HB2 hb3 c0 c1 c2 ho B3
  go_wp2_with fail
  refine HG3.out.mono ?_
  rintro e w4 ⟨hb4, h4⟩
  rw [HGP.out] at h4
  rcases h4 with ⟨hn, _⟩ | ⟨rv, ps, _, _, hps, rfl, ho4, hd4⟩
  · exact absurd rfl hn
  obtain ⟨ra, rn, rc, rfl⟩ := row_slice ho4
  unfold strmV
  simp only
  simp only at hps
  have hal : Below w4.heap.size w4 (w4.alloc (.cells #[.bool s.full, .int .i64 s.size, .slice ra rn rc] 39)) := (Below.refl _ _).alloc (Nat.le_refl _) _
  obtain ⟨w5, hw5⟩ : ∃ w5, w5 = w4.alloc (.cells #[.bool s.full, .int .i64 s.size, .slice ra rn rc] 39) := ⟨_, rfl⟩
  have hq5 : w5.heap[w4.heap.size]? = some (.cells #[.bool s.full, .int .i64 s.size, .slice ra rn rc] 39 (0, 0)) := by rw [hw5]; exact alloc_new w4 _
  rw [← hw5] at hal
  have kb : Kept w4 w5 (fun _ => True) := ⟨hal.size, fun j hj _ => hal.block j hj⟩
  have hb5 := hb4.trans (hal.mono hb4.size)
  have T5 : Tq w3 w5 w4.heap.size s.full s.size (.slice ra rn rc) ps := ⟨hq5, ownsRow_kept ho4 kb fun _ _ => trivial, fun y hy => ⟨_, rfl, (hd4 y hy).kept kb fun _ _ => trivial⟩, hb5⟩
  have hsl5 : SlR w5 w5.heap.size (.slice ra rn rc) s.recs := by
    have := OwnPs.slR T5.own (fun y hy => (hd4 y hy).kept kb fun _ _ => trivial)
    rwa [hps] at this
  have B5 := HB3.out.1.step hb5
  obtain ⟨c0, c1, c2⟩ := B5.cells
  have hq0 : w5.cell? ⟨w4.heap.size, 0, none⟩ = some (.bool s.full) := by simp [World.cell?, hq5]
  have hq1 : w5.cell? ⟨w4.heap.size, 1, none⟩ = some (.int .i64 s.size) := by simp [World.cell?, hq5]
  have hq2 : w5.cell? ⟨w4.heap.size, 2, none⟩ = some (.slice ra rn rc) := by simp [World.cell?, hq5]
  have HSM := hid (same_any s s sv (.slice ra rn rc) w5 B5.slw hsl5)
  have H5 := hid (And.intro T5 B5)
  have HPS := hid hps
  clear HG3 hb4 ho4 hd4 hal kb hb5 T5 hsl5 B5 hq5 hps
  go_wp2_with fail
  rw [← hw5]
  clear hw5
  refine (snumE_any _ _).mono ?_
  rintro e w' ⟨rfl, rfl⟩
  go_wp2_with (first | (go_at_call 25; refine (snumE_any _ _).mono ?_; rintro e w' ⟨rfl, rfl⟩))
  refine HSM.out.mono ?_
  rintro e w6 ⟨ok, rfl, hok, hb6⟩
  obtain rfl : ok = true := hok.out.2 (by trivial)
  have T6 := H5.out.1.step hb6
  have HB6 := hid H5.out.2
  have HB6a := hid (Tq.bel T6)
  have HT6 := hid T6
  clear HSM H5 hb6 c0 c1 c2 hq0 hq1 hq2 hok T6
  obtain ⟨q, hq⟩ : ∃ q, q = w4.heap.size := ⟨_, rfl⟩
  rw [← hq] at HT6 ⊢
  clear hq
  obtain ⟨hm, hlen⟩ := HT6.out.len
  have hmm : ps.length ≤ 9223372036854775807 := hm
  clear hm
  go_wp2_with fail
  go_loopw [8] (fun i wr => ∃ k : Nat, k ≤ ps.length ∧ i = .int .i64 k ∧ Hid (Tq w3 wr q s.full s.size (.slice ra rn rc) ps)) (fun i _ => ps.length - (intOf i).toNat)
  case atStart => exact ⟨0, by omega, rfl, HT6⟩
  case round =>
    obtain ⟨k, hk, rfl, HT⟩ := hrel
    clear HT6
    have t2 := HT.out.cells
    by_cases hlt : k < ps.length
    · obtain ⟨n, hn⟩ : ∃ n, n = ps[k].1.data.length := ⟨_, rfl⟩
      have HN := hid hn
      clear hn
      go_wp2_with fail
      clear t2
      go_loopw [9] (fun i wr => ∃ j : Nat, j ≤ n ∧ i = .int .i64 j ∧ Hid (Tq w3 wr q s.full s.size (.slice ra rn rc) ps)) (fun i _ => n - (intOf i).toNat)
      case atStart => exact ⟨0, by omega, rfl, HT⟩
      case round =>
        obtain ⟨j, hj, rfl, HT'⟩ := hrel
        clear HT
        have t2 := HT'.out.cells
        obtain ⟨b, o, l, hix, hc, hl, ho⟩ := HT'.out.at k hlt
        rw [← HN.out] at hl
        obtain ⟨dv, hdv⟩ : ∃ dv, dv = ps[k].2 := ⟨_, rfl⟩
        rw [← hdv] at hc ho
        have HDV := hid hdv
        clear hdv
        by_cases hjl : j < n
        · obtain ⟨g, gc, rfl, hg1, hg2, hg3, hcell⟩ := ho.at j (by omega)
          have hfz := ho.fz j
          have hdl := fun w' => ho.slB.len (P := Try.prog) (ty := 3) Try.underlying25 w'
          have hmx : n ≤ 9223372036854775807 := by rw [← hl]; exact Nat.le_trans hg2 hg3
          have HTN := hid (show Tq w3 (wr.setCell ⟨g, j, none⟩ (Mx.u8 255)) q s.full s.size (.slice ra rn rc) ps by
            have ho' := ho
            rcases ho' with ⟨_, ⟨e, _⟩ | ⟨g', cap, cur, e, hb, hg, _⟩⟩
            · cases e
            · cases e
              exact HT'.out.store hg hb j 255)
          have hu : (Mx.u8 255) = .int .u8 255 := rfl
          rw [hu] at HTN
          clear HT' ho hu HDV
          obtain rfl : n = l.length := hl.symm
          go_wp2_with fail
          go_roundw
          case rel => exact ⟨j + 1, by omega, by go_num, HTN⟩
          case measure => simp [intOf]; omega
        · obtain rfl : j = n := by omega
          have hdl := fun w' => ho.slB.len (P := Try.prog) (ty := 3) Try.underlying25 w'
          obtain ⟨da, dn, dc, rfl⟩ := row_slice ho
          obtain rfl : j = l.length := hl.symm
          clear ho
          go_wp2_with fail
          go_roundw
          case rel => exact ⟨k + 1, by omega, by go_num, HT'⟩
          case measure => simp [intOf]; omega
    · obtain rfl : k = ps.length := by omega
      have hbr := HT.out.bel
      have HG7 := hid (sget_any pb v wr ((HB3.out.2.below hbr (Nat.le_refl _)).mono hbr.size) (by have := HPL.out; omega))
      have HB7 := hid (HB3.out.1.step hbr)
      clear HT hbr HB6 HB6a
      go_wp2_with fail
      refine HG7.out.mono ?_
      clear hlen t2
      rintro e w8 ⟨hb8, h8⟩
      rw [HGP.out] at h8
      rcases h8 with ⟨hn, _⟩ | ⟨rv, ps8, _, _, hps8, rfl, ho8, hd8⟩
      · exact absurd rfl hn
      obtain ⟨ua, un, uc, rfl⟩ := row_slice ho8
      unfold strmV
      simp only
      simp only at hps8
      have hal : Below w8.heap.size w8 (w8.alloc (.cells #[.bool s.full, .int .i64 s.size, .slice ua un uc] 39)) := (Below.refl _ _).alloc (Nat.le_refl _) _
      obtain ⟨w9, hw9⟩ : ∃ w9, w9 = w8.alloc (.cells #[.bool s.full, .int .i64 s.size, .slice ua un uc] 39) := ⟨_, rfl⟩
      have hq9 : w9.heap[w8.heap.size]? = some (.cells #[.bool s.full, .int .i64 s.size, .slice ua un uc] 39 (0, 0)) := by rw [hw9]; exact alloc_new w8 _
      rw [← hw9] at hal
      have kb : Kept w8 w9 (fun _ => True) := ⟨hal.size, fun j hj _ => hal.block j hj⟩
      have hb9 := hb8.trans (hal.mono hb8.size)
      have hsl9 : SlR w9 w9.heap.size (.slice ua un uc) s.recs := by
        have := OwnPs.slR (ownsRow_kept ho8 kb fun _ _ => trivial) (fun y hy => (hd8 y hy).kept kb fun _ _ => trivial)
        rwa [hps8] at this
      have B9 := HB7.out.step hb9
      obtain ⟨c0, c1, c2⟩ := B9.cells
      have q0 : w9.cell? ⟨w8.heap.size, 0, none⟩ = some (.bool s.full) := by simp [World.cell?, hq9]
      have q1 : w9.cell? ⟨w8.heap.size, 1, none⟩ = some (.int .i64 s.size) := by simp [World.cell?, hq9]
      have q2 : w9.cell? ⟨w8.heap.size, 2, none⟩ = some (.slice ua un uc) := by simp [World.cell?, hq9]
      have HSM := hid (same_any s s sv (.slice ua un uc) w9 B9.slw hsl9)
      have HB9 := hid B9
      clear HG7 HB7 hb8 ho8 hd8 hal kb hb9 hsl9 B9 hq9 hps8
      rw [hw9] at c0 c1 c2 q0 q1 q2
      go_wp2_with fail
      rw [← hw9]
      refine HSM.out.mono ?_
      rintro e w10 ⟨ok, rfl, hok, hb10⟩
      obtain rfl : ok = true := hok.out.2 (by trivial)
      have HB10 := hid (HB9.out.bel.trans (hb10.mono HB9.out.bel.size))
      clear HSM HB9 hb10 c0 c1 c2 q0 q1 q2 hok hw9
      go_wp2_with (go_at_call 20; refine (awake_any _).mono ?_; rintro e w11 ⟨rfl, hb11⟩)
      go_ret
      exact ⟨rfl, HB10.out.trans (hb11.mono HB10.out.size)⟩
end Go.Proofs.Ytoccgpddmhhlgaa
