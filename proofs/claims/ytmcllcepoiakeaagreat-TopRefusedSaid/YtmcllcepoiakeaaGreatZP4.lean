import Derived.Test.YtmcllcepoiakeaaGreatZP2
import Derived.StillTailTactics
import Derived.Laws.CopyOwn
import Derived.Deep.QuietTactic
import Derived.BigQuiet
import Derived.IntWalk
import Derived.Test.YtmcllcepoiakeaaGreatMM
set_option linter.unusedSimpArgs false
set_option linter.unusedVariables false
namespace Go.Proofs.YtmcllcepoiakeaaGreat.Zx
open Go.RowKit Go.Mx Go.Lz
theorem Tryz.size5 : (Tryz.prog.info? 5).map (·.size) = some 1 := by kernel_rfl
structure PSt (w0 wr : World) (m : Mp) (v : Value) (out : List UInt8) : Prop where
  bel : Below w0.heap.size w0 wr
  mp : IsMap wr w0.heap.size m
  own : OwnB wr (w0.heap.size + 1) 5 v out
  sz : w0.heap.size + 1 ≤ wr.heap.size
theorem Tryz.inf5 : ∃ i, Tryz.prog.info? 5 = some i := by
  have : (Tryz.prog.info? 5).isSome = true := by kernel_rfl
  exact Option.isSome_iff_exists.1 this
theorem Tryz.cells5 : Tryz.prog.cellsOf 5 = 1 := by kernel_rfl
theorem Tryz.inf3 : ∃ i, Tryz.prog.info? 3 = some i ∧ i.zero = some (.int .i64 0) := by
  have : (Tryz.prog.info? 3).map (·.zero) = some (some (.int .i64 0)) := by kernel_rfl
  obtain ⟨i, h1, h2⟩ := Option.map_eq_some_iff.1 this
  exact ⟨i, h1, h2⟩
theorem sl_sub {w : World} {B bb bo : Nat} {bs : List UInt8} (h : RdB w bb bo bs) (hB : bb < B) (a n c : Nat) (hn : a + n ≤ bs.length) (hc : n ≤ c) (hcm : c ≤ maxLen) : SlB w B (.slice (some ⟨bb, bo + a, none⟩) n c) ((bs.drop a).take n) := by
  have hl : ((bs.drop a).take n).length = n := by simp; omega
  refine ⟨_, c, by rw [hl], by rw [hl]; exact hc, hcm, fun _ => ⟨bb, bo + a, rfl, hB, fun i hi => ?_⟩⟩
  rw [hl] at hi
  have := h (a + i) (by omega)
  rw [Nat.add_assoc, this]
  congr 2
  rw [List.getD_eq_getElem?_getD, List.getD_eq_getElem?_getD, List.getElem?_take, if_pos hi, List.getElem?_drop]
theorem PSt.drewN {w0 wr : World} {m : Mp} {v : Value} {o : List UInt8} (h : PSt w0 wr m v o) (n : Nat) : PSt w0 (wr.drewN n) m v o :=
  ⟨below_drewN h.bel n, h.mp, h.own, h.sz⟩
theorem PSt.upd {w0 wr w2 w3 : World} {m m' : Mp} {v : Value} {o : List UInt8} (h : PSt w0 wr m v o) (hb : Below wr.heap.size wr w2) (hg : w2.grownBy w3 (some w0.heap.size)) (hm : IsMap w3 w0.heap.size m') : PSt w0 w3 m' v o where
  bel := (h.bel.trans (hb.mono h.bel.size)).grown hg (by have := hb.size; have := h.bel.size; omega) (fun k hk => by cases hk; exact Nat.le_refl _)
  mp := hm
  own := by
    have h1 : OwnB w2 (w0.heap.size + 1) 5 v o := h.own.below hb (fun k hk => (World.ownsRow.lt h.own k hk).2)
    exact World.ownsRow.kept h1 hg (by
      cases hv : v.ownBlock with
      | none => exact .inl rfl
      | some k => right; have := (World.ownsRow.lt h.own k hv).1; simp; omega)
  sz := by have := h.sz; have := hb.size; have := hg.size; omega
theorem PSt.app {w0 wr w' : World} {m : Mp} {v v' : Value} {o o' : List UInt8} (h : PSt w0 wr m v o) (ho : OwnB w' (w0.heap.size + 1) 5 v' o') (hb : Below (w0.heap.size + 1) wr w') : PSt w0 w' m v' o' :=
  ⟨h.bel.trans (hb.mono (by omega)), h.mp.below hb (by omega), ho, Nat.le_trans h.sz hb.size⟩
set_option maxRecDepth 100000 in
set_option maxHeartbeats 2000000 in
theorem pack_some (bs : List UInt8) (bb bo cap : Nat) (w : World) (hx : RdB w bb bo bs) (hbb : bb < w.heap.size) (hcap : bs.length ≤ cap) (hlen : bs.length ≤ 1048576) (hcapm : cap ≤ 9223372036854775807) (hne : 0 < bs.length) :
    Calls Tryz.prog 283 #[.slice (some ⟨bb, bo, none⟩) bs.length cap] w fun e w' => ∃ v, e = .returned v ∧ OwnB w' w.heap.size 5 v (pack bs) ∧ Below w.heap.size w w' := by
  obtain ⟨R, hR⟩ : ∃ R, R = pack bs := ⟨_, rfl⟩
  rw [← hR]
  have HR : Hid (R = packGo bs (bs.length + 1) [] 0 0 []) := by unfold Hid; rw [hR]; unfold pack; rw [if_neg (by omega)]
  clear hR
  have hmm := @run_makeMap Tryz.prog
  go_enter Tryz.func283, Tryz.ntmps283
  go_wp2
  go_loopw [4, 5, 6] (fun v fr_ at_ wr => ∃ (k fr f : Nat) (m : Mp) (o : List UInt8), PSt w wr m v o ∧ fr_ = .int .i64 fr ∧ at_ = .int .i64 k ∧ fr ≤ k ∧ k ≤ bs.length ∧ bs.length - k < f ∧ o.length ≤ 2 * fr ∧ Hid (Seen bs m k) ∧ Hid (R = packGo bs f m fr k o))
    (fun _ _ at_ _ => bs.length - (intOf at_).toNat)
  case atStart =>
    refine ⟨0, 0, bs.length + 1, [], [], ⟨?_, ?_, OwnB.nil _ _ _, by simp⟩, rfl, rfl, by omega, by omega, by omega, by simp, ?_, HR⟩
    · exact ⟨rfl, rfl, rfl, by simp, fun k hk => by show (w.heap.push _)[k]? = _; rw [Array.getElem?_push, if_neg (by omega)]⟩
    · exact ⟨#[], 0, by show (w.heap.push _)[w.heap.size]? = _; rw [Array.getElem?_push, if_pos rfl], by simp, by simp⟩
    · exact fun _ _ h => by simp at h
  case round =>
    obtain ⟨k, fr, f, m, o, hst, rfl, rfl, hfk, hk, hf, hol, HS, HR2⟩ := hrel
    clear HR
    by_cases h4 : k + 4 ≤ bs.length
    · have hck : ¬ cap = k := by omega
      have hrk := hx.below hst.bel hbb
      obtain ⟨ka, hka⟩ : ∃ ka, ka = bs.getD k 0 := ⟨_, rfl⟩
      obtain ⟨kb, hkb⟩ : ∃ ka, ka = bs.getD (k+1) 0 := ⟨_, rfl⟩
      obtain ⟨kc, hkc⟩ : ∃ ka, ka = bs.getD (k+2) 0 := ⟨_, rfl⟩
      obtain ⟨kd, hkd⟩ : ∃ ka, ka = bs.getD (k+3) 0 := ⟨_, rfl⟩
      have hkey : (bs.drop k).take 4 = [ka, kb, kc, kd] := by
        rw [drop_getD bs k (by omega), drop_getD bs (k+1) (by omega), drop_getD bs (k+1+1) (by omega), drop_getD bs (k+1+1+1) (by omega), hka, hkb, hkc, hkd]
        rfl
      have hc0 := hrk.at (k := k) (by omega)
      have hc1 := hrk.at (k := k+1) (by omega)
      have hc2 := hrk.at (k := k+2) (by omega)
      have hc3 := hrk.at (k := k+3) (by omega)
      rw [← hka] at hc0
      rw [← hkb] at hc1
      rw [← hkc] at hc2
      rw [← hkd] at hc3
      have HKEY := hid hkey
      have HCS := hid (And.intro hc0 (And.intro hc1 (And.intro hc2 hc3)))
      clear hka hkb hkc hkd hkey hc0 hc1 hc2 hc3 hrk
      go_wp2
      go_still_tail 4, (by kernel_rfl)
      change wpList _ _ _ _ _ (World.drew _)
      have hbz := hst.sz
      have hb1 : Below wr.heap.size wr (wr.alloc (.cells #[.int .u8 0, .int .u8 0, .int .u8 0, .int .u8 0] 424)).drew := ((Below.refl _ _).alloc (Nat.le_refl _) _).drew
      have hg1 : (wr.alloc (.cells #[.int .u8 0, .int .u8 0, .int .u8 0, .int .u8 0] 424)).drew.heap[wr.heap.size]? = some (.cells [Value.int .u8 0, .int .u8 0, .int .u8 0, .int .u8 0].toArray 424 (0, 0)) := heap_alloc_new wr _
      refine wpList_copy_splice rfl _ _ 26 26 rfl 5 Tryz.underlying26 Tryz.size5 _ _ 4 4 (bs.length - k) (cap - k) rfl rfl wr.heap.size 0 _ 424 hg1 [Mx.u8 ka, Mx.u8 kb, Mx.u8 kc, Mx.u8 kd] ?_ ?_ ?_ ?_ wr.heap.size wr hb1 (Nat.le_refl _) ?_
      · show 4 = min (bs.length - k) 4; omega
      · intro _
        refine ⟨rfl, _, rfl, ?_⟩
        obtain ⟨c0, c1, c2, c3⟩ := HCS.out
        intro j v hj
        have e : (⟨bb, bo + k, none⟩ : Addr).add j = ⟨bb, bo + k + j, none⟩ := by unfold Addr.add; split <;> simp_all
        rw [e]
        have hbw : bb < wr.heap.size := by have := hst.bel.size; omega
        rw [hb1.cell (p := ⟨bb, bo + k + j, none⟩) hbw]
        match j, hj with
        | 0, hj => cases hj; exact c0
        | 1, hj => cases hj; rw [Nat.add_assoc]; exact c1
        | 2, hj => cases hj; rw [Nat.add_assoc]; exact c2
        | 3, hj => cases hj; rw [Nat.add_assoc]; exact c3
        | j + 4, hj => simp at hj
      · simp
      · intro v hv; simp at hv; rcases hv with rfl | rfl | rfl | rfl <;> rfl
      intro w2 hg2 hb2
      have hg2' : w2.heap[wr.heap.size]? = some (.cells #[Mx.u8 ka, Mx.u8 kb, Mx.u8 kc, Mx.u8 kd] 424 (0, 0)) := hg2.out
      have hd0 : w2.cell? ⟨wr.heap.size, 0, none⟩ = some (Mx.u8 ka) := by simp [World.cell?, hg2']
      have hd1 : w2.cell? ⟨wr.heap.size, 1, none⟩ = some (Mx.u8 kb) := by simp [World.cell?, hg2']
      have hd2 : w2.cell? ⟨wr.heap.size, 2, none⟩ = some (Mx.u8 kc) := by simp [World.cell?, hg2']
      have hd3 : w2.cell? ⟨wr.heap.size, 3, none⟩ = some (Mx.u8 kd) := by simp [World.cell?, hg2']
      clear hg2 hg2' hg1 hb1
      have hm2 := hst.mp.below hb2 (by omega)
      obtain ⟨i5, hi5⟩ := Tryz.inf5
      obtain ⟨i3, hi3, hz3⟩ := Tryz.inf3
      have hlk : (Instr.lookup 423 (.map (some w.heap.size)) (.agg #[Mx.u8 ka, Mx.u8 kb, Mx.u8 kc, Mx.u8 kd]) true).run Tryz.prog w2 = _ := run_lookup_k Tryz.underlying423 Tryz.underlying424 Tryz.underlying5 hi5 Tryz.cells5 hi3 hz3 w2 w.heap.size m hm2 [ka, kb, kc, kd] rfl
      obtain ⟨w3, hup0, hm3, hg3⟩ := run_update_k Tryz.underlying423 Tryz.underlying424 Tryz.underlying5 hi5 Tryz.cells5 w2 w.heap.size m hm2 [ka, kb, kc, kd] rfl k
      have hup : (Instr.mapUpdate 423 (.map (some w.heap.size)) (.agg #[Mx.u8 ka, Mx.u8 kb, Mx.u8 kc, Mx.u8 kd]) (.int .i64 k)).run Tryz.prog w2 = .ok () w3 := hup0
      have hst3 := hst.upd hb2 hg3 hm3
      have hS3 : Seen bs (mupd m [ka, kb, kc, kd] k) (k+1) := by
        have := HS.out.upd h4 (c := k+1) (by omega)
        rw [HKEY.out] at this; exact this
      have HS3 := hid hS3
      obtain ⟨f, rfl⟩ : ∃ f', f = f' + 1 := ⟨f - 1, by omega⟩
      have hR := HR2.out
      rw [packGo, if_pos h4, HKEY.out] at hR
      clear hm3 hg3 hb2 hup0 hS3 HR2
      cases hfd : mfind m [ka, kb, kc, kd] with
      | none =>
        rw [hfd] at hR hlk
        simp only [Option.getD_none, Option.isSome_none] at hlk
        have HR3 := hid hR
        clear hfd hR HCS HKEY HS hm2
        go_wp2
        go_roundw
        case rel => exact ⟨k+1, fr, f, _, o, hst3, rfl, by go_num, by omega, by omega, by omega, hol, HS3, HR3⟩
        case measure => simp [intOf]; omega
      | some was =>
        rw [hfd] at hR hlk
        simp only [Option.getD_some, Option.isSome_some] at hlk
        obtain ⟨hw1, hw2, hw3⟩ := HS.out _ _ (mfind_mem _ _ _ hfd)
        by_cases hfar : 65535 < k - was
        · simp only [hfar, if_true] at hR
          have HR3 := hid hR
          have hfar' : (65535 : Int) < (k : Int) - (was : Int) := by omega
          clear hfd hR HCS HKEY HS hm2 hw3 hfar
          go_wp2
          go_roundw
          case rel => exact ⟨k+1, fr, f, _, o, hst3, rfl, by go_num, by omega, by omega, by omega, hol, HS3, HR3⟩
          case measure => simp [intOf]; omega
        · simp only [hfar, if_false] at hR
          have hfar' : ¬ (65535 : Int) < (k : Int) - (was : Int) := by omega
          have hext := ext_spec bs was k bs.length 4 h4 (four_eq bs was k hw2 h4 (by rw [HKEY.out]; exact hw3))
          obtain ⟨q, hq⟩ : ∃ q, q = ext bs was k bs.length 4 := ⟨_, rfl⟩
          rw [← hq] at hR hext
          obtain ⟨hq1, hq2, _⟩ := hext
          have HR3 := hid hR
          have HQ := hid hq
          clear hfd hR HCS HKEY HS hm2 hw3 hfar hq
          go_wp2
          go_loopw [10] (fun n wq => ∃ (j g : Nat), n = .int .i64 j ∧ PSt w wq (mupd m [ka, kb, kc, kd] k) u4 o ∧ 4 ≤ j ∧ k + j ≤ bs.length ∧ bs.length - (k + j) ≤ g ∧ Hid (q = ext bs was k g j))
            (fun n _ => bs.length - (k + (intOf n).toNat))
          case atStart => exact ⟨4, bs.length, rfl, hst3, by omega, h4, by omega, HQ⟩
          case round =>
            obtain ⟨j, g, rfl, hst4, hj4, hj5, hg, HQ2⟩ := hrel
            clear hst3 HQ hlk hup hd0 hd1 hd2 hd3 hst
            have hrk := hx.below hst4.bel hbb
            by_cases hjl : k + j < bs.length
            · have hcw := hrk.at (k := was + j) (by omega)
              have hck2 := hrk.at hjl
              obtain ⟨xa, hxa⟩ : ∃ xa, xa = bs.getD (was + j) 0 := ⟨_, rfl⟩
              obtain ⟨xb, hxb⟩ : ∃ xb, xb = bs.getD (k + j) 0 := ⟨_, rfl⟩
              rw [← hxa] at hcw
              rw [← hxb] at hck2
              obtain ⟨g, rfl⟩ : ∃ g', g = g' + 1 := ⟨g - 1, by omega⟩
              have hQ := HQ2.out
              rw [ext, ← hxa, ← hxb] at hQ
              clear hxa hxb HQ2 hrk
              by_cases heq : xa = xb
              · rw [if_pos ⟨hjl, heq⟩] at hQ
                have HQ3 := hid hQ
                have hcmp : ((xa.toNat : Int) == (xb.toNat : Int)) = true := by rw [heq]; simp
                clear hQ heq
                have hq1' : IntKind.i64.wrap ((k : Int) + (j : Int)) = (k : Int) + (j : Int) := IntWalk.i64_in _ (by omega)
                have hq2' : IntKind.i64.wrap ((was : Int) + (j : Int)) = (was : Int) + (j : Int) := IntWalk.i64_in _ (by omega)
                have hq3' : (0 : Int) ≤ (k : Int) + (j : Int) := by omega
                have hq4' : (0 : Int) ≤ (was : Int) + (j : Int) := by omega
                have hq5' : ((was : Int) + (j : Int)) < (bs.length : Int) := by omega
                have hq6' : ((k : Int) + (j : Int)) < (bs.length : Int) := by omega
                have hq7' : ((k : Int) + (j : Int)).toNat = k + j := by omega
                have hq8' : ((was : Int) + (j : Int)).toNat = was + j := by omega
                go_wp2
                go_quiet (fail)
                clear hq1' hq2' hq3' hq4' hq5' hq6' hq7' hq8'
                have hst5 := hst4.drewN nq
                obtain ⟨wq, hwq⟩ : ∃ wq, wq = wr.drewN nq := ⟨_, rfl⟩
                rw [← hwq] at hst5 ⊢
                clear hwq hst4 hcw hck2
                go_wp2
                go_roundw
                case rel => exact ⟨j+1, g, by go_num, hst5, by omega, by omega, by omega, HQ3⟩
                case measure => simp [intOf]; omega
              · rw [if_neg (fun h => heq h.2)] at hQ
                have HQ3 := hid hQ
                have hcmp : ((xa.toNat : Int) == (xb.toNat : Int)) = false := by
                  rw [beq_eq_false_iff_ne]; intro h; exact heq (UInt8.toNat_inj.1 (by omega))
                clear hQ heq
                have hq1' : IntKind.i64.wrap ((k : Int) + (j : Int)) = (k : Int) + (j : Int) := IntWalk.i64_in _ (by omega)
                have hq2' : IntKind.i64.wrap ((was : Int) + (j : Int)) = (was : Int) + (j : Int) := IntWalk.i64_in _ (by omega)
                have hq3' : (0 : Int) ≤ (k : Int) + (j : Int) := by omega
                have hq4' : (0 : Int) ≤ (was : Int) + (j : Int) := by omega
                have hq5' : ((was : Int) + (j : Int)) < (bs.length : Int) := by omega
                have hq6' : ((k : Int) + (j : Int)) < (bs.length : Int) := by omega
                have hq7' : ((k : Int) + (j : Int)).toNat = k + j := by omega
                have hq8' : ((was : Int) + (j : Int)).toNat = was + j := by omega
                go_wp2
                go_quiet (fail)
                clear hq1' hq2' hq3' hq4' hq5' hq6' hq7' hq8'
                have hst5 := hst4.drewN nq
                obtain ⟨wq, hwq⟩ : ∃ wq, wq = wr.drewN nq := ⟨_, rfl⟩
                rw [← hwq] at hst5 ⊢
                clear hwq hst4 hcw hck2
                go_wp2_with fail
                have hjq : q = j := HQ3.out
                subst hjq
                have hrk2 := hx.below hst5.bel hbb
                have hsl := sl_sub (B := w.heap.size) hrk2 hbb fr (k - fr) (cap - fr) (by omega) (by omega) (by unfold maxLen; omega)
                have hpl : ((bs.drop fr).take (k - fr)).length = k - fr := by simp; omega
                have hsq := seqL_len ((bs.drop fr).take (k - fr)) (k - was) (q - 4)
                rw [show ((k : Int) - (was : Int)) = ((k - was : Nat) : Int) by omega, show (Value.int .i64 (q : Int)) = Value.int .i64 ((q - 4 + 4 : Nat) : Int) by rw [show q - 4 + 4 = q by omega]]
                refine (seq_any u4 _ o ((bs.drop fr).take (k - fr)) (k - was) (q - 4) (w.heap.size + 1) w.heap.size wq hst5.own hsl (by omega) hst5.sz (by omega) (by omega)).mono ?_
                rintro e w6 ⟨v6, rfl, ho6, hb6⟩
                have hst6 := hst5.app ho6 hb6
                have hol6 : (o ++ seqL ((bs.drop fr).take (k - fr)) (k - was) (q - 4)).length ≤ 2 * (k + q) := by rw [List.length_append]; omega
                have HS6 : Hid (Seen bs (mupd m [ka, kb, kc, kd] k) (k + q)) := fun a b hab => by have := HS3.out a b hab; exact ⟨by omega, this.2.1, this.2.2⟩
                clear hst5 ho6 hb6 hrk2 hsl hpl hsq
                go_wp2
                go_roundw
                case rel => exact ⟨k+q, k+q, f, _, _, hst6, by go_num, by go_num, by omega, by omega, by omega, hol6, HS6, HR3⟩
                case measure => simp [intOf]; omega
            · have HQ3 : Hid (q = j) := by
                have := HQ2.out
                cases g with
                | zero => rw [ext] at this; exact this
                | succ g => rw [ext, if_neg (fun h => hjl h.1)] at this; exact this
              have hq1' : IntKind.i64.wrap ((k : Int) + (j : Int)) = (k : Int) + (j : Int) := IntWalk.i64_in _ (by omega)
              have hdf : decide ((k : Int) + (j : Int) < (bs.length : Int)) = false := by simp; omega
              clear HQ2 hrk
              go_wp2
              go_quiet (fail)
              clear hq1' hdf
              have hst5 := hst4.drewN nq
              obtain ⟨wq, hwq⟩ : ∃ wq, wq = wr.drewN nq := ⟨_, rfl⟩
              rw [← hwq] at hst5 ⊢
              clear hwq hst4
              go_wp2_with fail
              have hjq : q = j := HQ3.out
              subst hjq
              have hrk2 := hx.below hst5.bel hbb
              have hsl := sl_sub (B := w.heap.size) hrk2 hbb fr (k - fr) (cap - fr) (by omega) (by omega) (by unfold maxLen; omega)
              have hpl : ((bs.drop fr).take (k - fr)).length = k - fr := by simp; omega
              have hsq := seqL_len ((bs.drop fr).take (k - fr)) (k - was) (q - 4)
              rw [show ((k : Int) - (was : Int)) = ((k - was : Nat) : Int) by omega, show (Value.int .i64 (q : Int)) = Value.int .i64 ((q - 4 + 4 : Nat) : Int) by rw [show q - 4 + 4 = q by omega]]
              refine (seq_any u4 _ o ((bs.drop fr).take (k - fr)) (k - was) (q - 4) (w.heap.size + 1) w.heap.size wq hst5.own hsl (by omega) hst5.sz (by omega) (by omega)).mono ?_
              rintro e w6 ⟨v6, rfl, ho6, hb6⟩
              have hst6 := hst5.app ho6 hb6
              have hol6 : (o ++ seqL ((bs.drop fr).take (k - fr)) (k - was) (q - 4)).length ≤ 2 * (k + q) := by rw [List.length_append]; omega
              have HS6 : Hid (Seen bs (mupd m [ka, kb, kc, kd] k) (k + q)) := fun a b hab => by have := HS3.out a b hab; exact ⟨by omega, this.2.1, this.2.2⟩
              clear hst5 ho6 hb6 hrk2 hsl hpl hsq
              go_wp2
              go_roundw
              case rel => exact ⟨k+q, k+q, f, _, _, hst6, by go_num, by go_num, by omega, by omega, by omega, hol6, HS6, HR3⟩
              case measure => simp [intOf]; omega
    · have hR : R = o ++ tailL (bs.drop fr) := by
        have := HR2.out
        cases f with
        | zero => omega
        | succ f => rw [packGo, if_neg h4] at this; exact this
      have HR3 := hid hR
      have hrk := hx.below hst.bel hbb
      have hpl : (bs.drop fr).length = bs.length - fr := by simp
      clear hR HR2 HS
      by_cases hcf : cap = fr
      · have hsl : SlB wr w.heap.size (.slice (some ⟨bb, bo, none⟩) (bs.length - fr) 0) (bs.drop fr) := by
          refine ⟨_, _, by rw [hpl], by rw [hpl]; omega, by unfold maxLen; omega, fun hn => ?_⟩
          exact absurd (List.drop_eq_nil_of_le (by omega)) hn
        go_wp2_with fail
        refine (seq_end u4 _ o (bs.drop fr) (w.heap.size + 1) w.heap.size _ hst.own hsl (by omega) hst.sz (by rw [hpl]; omega)).mono ?_
        rintro e w6 ⟨v6, rfl, ho6, hb6⟩
        go_wp2
        go_ret
        exact ⟨v6, rfl, by rw [HR3.out]; exact ho6.any_base (by omega), hst.bel.trans (hb6.mono (by omega))⟩
      · have hsl : SlB wr w.heap.size (.slice (some ⟨bb, bo + fr, none⟩) (bs.length - fr) (cap - fr)) (bs.drop fr) := by
          have := sl_sub (B := w.heap.size) hrk hbb fr (bs.length - fr) (cap - fr) (by omega) (by omega) (by unfold maxLen; omega)
          rwa [List.take_of_length_le (by rw [hpl]; omega)] at this
        go_wp2_with fail
        refine (seq_end u4 _ o (bs.drop fr) (w.heap.size + 1) w.heap.size _ hst.own hsl (by omega) hst.sz (by rw [hpl]; omega)).mono ?_
        rintro e w6 ⟨v6, rfl, ho6, hb6⟩
        go_wp2
        go_ret
        exact ⟨v6, rfl, by rw [HR3.out]; exact ho6.any_base (by omega), hst.bel.trans (hb6.mono (by omega))⟩
set_option maxRecDepth 100000 in
set_option maxHeartbeats 1000000 in
theorem pack_call (bs : List UInt8) (bv : Value) (w : World) (hb : SlB w w.heap.size bv bs) (hlen : bs.length ≤ 1048576) :
    Calls Tryz.prog 283 #[bv] w fun e w' => ∃ v, e = .returned v ∧ SlB w' w'.heap.size v (pack bs) ∧ Below w.heap.size w w' := by
  obtain ⟨oa, cap, rfl, h1, h2, h3⟩ := hb
  by_cases hne : bs = []
  · subst hne
    have hm := @run_makeMap Tryz.prog
    have hp : pack [] = [0] := by decide
    rw [hp]
    have h2' : cap ≤ 9223372036854775807 := by unfold maxLen at h2; omega
    have hse : ∀ (pv : Value) (wx : World), SlB wx w.heap.size pv [] → w.heap.size + 1 ≤ wx.heap.size → Calls Tryz.prog 298 #[.slice none 0 0, pv, .int .i64 0, .int .i64 0] wx fun e w' => ∃ v', e = .returned v' ∧ OwnB w' (w.heap.size + 1) 5 v' ([] ++ tailL []) ∧ Below (w.heap.size + 1) wx w' := fun pv wx hs hz =>
      seq_end (.slice none 0 0) pv [] [] (w.heap.size + 1) w.heap.size wx (OwnB.nil _ _ _) hs (by omega) hz (by simp)
    have HSE := hid hse
    clear hse h3 h1 h2
    have hb0 : Below w.heap.size w (w.alloc (.map #[] 0)) := ⟨rfl, rfl, rfl, by simp, fun k hk => by show (w.heap.push _)[k]? = _; rw [Array.getElem?_push, if_neg (by omega)]⟩
    have HB := hid hb0
    clear hb0
    simp only [List.length_nil]
    cases oa with
    | none =>
      go_enter Tryz.func283, Tryz.ntmps283
      go_wp2
      refine wp_loop_once ?_
      go_wp2_with fail
      refine (HSE.out _ _ ⟨_, cap, rfl, by simp, by unfold maxLen; omega, fun h => absurd rfl h⟩ (by simp)).mono ?_
      rintro e w6 ⟨v6, rfl, ho6, hb6⟩
      have ho7 : SlB w6 w6.heap.size v6 [0] := ho6.slB
      have hb7 := HB.out.trans (hb6.mono (by omega))
      clear ho6 hb6
      go_wp2
      go_ret
      exact ⟨v6, rfl, ho7, hb7⟩
    | some a =>
      go_enter Tryz.func283, Tryz.ntmps283
      go_wp2
      refine wp_loop_once ?_
      go_wp2_with fail
      refine (HSE.out _ _ ⟨_, cap, rfl, by simp, by unfold maxLen; omega, fun h => absurd rfl h⟩ (by simp)).mono ?_
      rintro e w6 ⟨v6, rfl, ho6, hb6⟩
      have ho7 : SlB w6 w6.heap.size v6 [0] := ho6.slB
      have hb7 := HB.out.trans (hb6.mono (by omega))
      clear ho6 hb6
      go_wp2
      go_ret
      exact ⟨v6, rfl, ho7, hb7⟩
  · obtain ⟨bb, bo, rfl, hbb, hr⟩ := h3 hne
    exact (pack_some bs bb bo cap w hr hbb h1 hlen (by unfold maxLen at h2; omega) (List.length_pos_iff.2 hne)).mono fun e w' ⟨v, he, ho, hb⟩ => ⟨v, he, ho.slB, hb⟩
end Go.Proofs.YtmcllcepoiakeaaGreat.Zx
