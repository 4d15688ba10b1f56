import Derived.Test.YtbklhhmcigangaaW2
import Derived.BigQuiet
namespace Go.Proofs.Ytbklhhmcigangaa
open Go.RowKit Go.Mx Go.Lr Go.Maps
set_option linter.unusedVariables false
set_option linter.unusedSimpArgs false
/-- not an int yet -/
def mz : Value → Nat
  | .int _ _ => 0
  | _ => 1
section
variable {w w' : World} {base p m : Nat} {c : CM} {fs : List PR}
/-- the end of a Put after which one key goes -/
def EvP (base p m : Nat) (c1 : CM) (fs : List PR) (w : World) (v : Value) (w' : World) : Prop :=
  ∃ x fs', IsOld c1.all x ∧ CK w' base p m (evict1 c1 x []).1 fs' All ∧ Stp base p m w fs w' fs' ∧ OwnI w' base v (evict1 c1 x []).2 ∧ ∀ q, v.ownBlock = some q → Free p m fs' q ∧ w.heap.size ≤ q
theorem EvP.below {c1 : CM} {v : Value} {w2 : World} (h : EvP base p m c1 fs w v w') (hb : Below w'.heap.size w' w2) : EvP base p m c1 fs w v w2 := by
  obtain ⟨x, fs', h1, hc, hs, ho, hf⟩ := h
  exact ⟨x, fs', h1, hc.below hb, hs.trans (Stp.of_below hb hc.base_le), OwnV.below ho hb (Nat.le_refl _), hf⟩
set_option maxRecDepth 100000 in
set_option maxHeartbeats 1000000 in
theorem put_evict (h : CK w base p m c fs All) (k : Int) (hk : isI k) (hno : k ∉ c.all.map (·.k)) (v : Value) (b : List UInt8) (B : Nat) (hb : SlB w B v b) (hB : B ≤ w.heap.size) (hl : b.length ≤ 1000000) (dirty : Bool) (hu : c.uses ≤ 1000000000) (hroom : fs.length = c.room) (hr2 : c.room ≤ 1000000)
    (C1 : CM) (hC1 : Lr.lay c k b dirty = C1) (ok : OkC C1) (hud : ∀ e ∈ C1.all, e.pg.used ≤ 1000000000) (hlc : C1.all.length = fs.length + 1 ∧ C1.room = c.room) :
    Calls Try.prog 13 #[cp p, .int .i64 k, v, .bool dirty] w fun e w' => ∃ v, e = .returned v ∧ EvP base p m C1 fs w v w' := by
  have hfind : Lr.find c.all k = none := Lr.find_none.2 hno
  have hlkn : Mx.look (plOf fs) k = none := by
    rcases h.who k with ⟨hl, _⟩ | ⟨j, g, hj, hgn, hl, hfd⟩
    · exact hl
    · rw [hfind] at hfd; cases hfd
  obtain ⟨c0, c1, c2, cz⟩ := h.cells
  have hlk := h.look k hk
  rw [hlkn] at hlk
  have hlk' : (Instr.lookup 56 (.map (some m)) (.int .i64 k) false).run Try.prog w = .ok (.pointer none) w := hlk
  have hal : Below w.heap.size w (w.alloc (.cells #[.slice none 0 0, .bool false, .int .i64 0, .slice none 0 0] 66)) := (Below.refl _ _).alloc (Nat.le_refl _) _
  have hnb := alloc_new w (.cells #[.slice none 0 0, .bool false, .int .i64 0, .slice none 0 0] 66)
  obtain ⟨w3, hrun, hpm3, hg3, hz3, hf3⟩ := (h.below hal).mp.upd (t := 56) Try.underlying3 Try.underlying56 k hk.wf w.heap.size (by simp [plOf]; unfold maxLen; omega)
  have c13 : (w.alloc (.cells #[.slice none 0 0, .bool false, .int .i64 0, .slice none 0 0] 66)).cell? ⟨p, 1, none⟩ = some (.map (some m)) := (hal.cell (p := ⟨p, 1, none⟩) h.plt).trans c1
  have hkm : Kept w w3 (fun q => q ≠ m) := (Kept.of_below hal fun _ h _ => h).trans (Kept.grown hg3 fun k hk hN => by cases hk; exact hN rfl)
  have hbm : Below base w w3 := (hal.mono h.base_le).trans ((Below.refl base _).grown hg3 (by simp; have := h.base_le; omega) (fun k hk => by cases hk; exact h.hm))
  have hnb3 : w3.heap[w.heap.size]? = some (.cells #[.slice none 0 0, .bool false, .int .i64 0, .slice none 0 0] 66 (0, 0)) := (hg3.block _ (by simp) (fun e => by cases e; have := h.mp.lt; omega)).trans hnb
  have hpl3 : Mx.upd (plOf fs) k w.heap.size = plOf (fs ++ [newPR k w.heap.size]) := by
    unfold Mx.upd; rw [hlkn]; simp [plOf, newPR]
  rw [hpl3] at hpm3
  obtain ⟨hadd, hst⟩ := h.addPage k w.heap.size (Nat.le_refl _) hkm hbm hnb3 hpm3
  have hadd := hadd.weaken (V' := All) fun i _ => .inl trivial
  have hi : (fs ++ [newPR k w.heap.size])[fs.length]? = some (newPR k w.heap.size) := by rw [List.getElem?_append_right (Nat.le_refl _)]; simp
  have HFIN : Hid (∀ w', PutAt base p m { c with all := c.all ++ [⟨k, ⟨[], false, 0, []⟩⟩] } (fs ++ [newPR k w.heap.size]) w3 fs.length (newPR k w.heap.size) b dirty w' → PutP base p m c fs w k b dirty w') := hid fun w' ⟨bv, hc, hs⟩ => by
    refine ⟨_, ?_, hst.trans hs⟩
    unfold Lr.lay
    rw [hfind]
    simp only
    have e1 : ((fs ++ [newPR k w.heap.size]).set fs.length (putPR (newPR k w.heap.size) b bv dirty (c.uses + 1))).map (·.en) = c.all ++ [⟨k, ⟨b, dirty, c.uses + 1, []⟩⟩] := by
      rw [List.set_append_right _ _ (Nat.le_refl _), h.all]
      simp [putPR, newPR]
    rw [← e1]
    exact hc
  obtain ⟨va, vn, vc, rfl⟩ := slB_shape hb
  have hb3 : SlB w3 w3.heap.size (.slice va vn vc) b := (slB_notMap hb hB hkm h.mp.isMap).mono (by have := hkm.size; omega)
  have HCL := hid (clone_b (.slice va vn vc) b w3.heap.size w3 hb3 (Nat.le_refl _) hl)
  have H0 := hid (And.intro hadd hi)
  have hset : ∀ (bv : Value) (n : Nat), ((fs ++ [newPR k w.heap.size]).set fs.length (putPR (newPR k w.heap.size) b bv dirty n)).length = fs.length + 1 := fun _ _ => by simp
  have c33 := hadd.cells.2.1
  have HFS := hid (And.intro ok (And.intro hud hlc))
  have HC1 := hid hC1
  clear hC1 ok hud hlc h hb hlk hlkn hfind c0 c2 hal hnb hpm3 hg3 hz3 hf3 hkm hbm hnb3 hpl3 hadd hst hb3 hno cz
  go_enter Try.func13, Try.ntmps13
  go_wp2_with fail
  refine HCL.out.mono ?_
  rintro e w1 ⟨v1, rfl, ho1, hb1⟩
  obtain ⟨xa, xn, xc, rfl⟩ := slB_shape ho1.slB
  have hput := H0.out.1.putAt H0.out.2 hb1 ho1 dirty hu
  obtain ⟨d0, d1, d2, dz, dz2, fs3, hg3, hcall⟩ := hput
  have HC : Hid (Calls Try.prog 28 #[cp p, cp w.heap.size] ((w1.setCell ⟨w.heap.size, 0, none⟩ (.slice xa xn xc)).setCell ⟨w.heap.size, 1, none⟩ (.bool dirty)) fun e w' => e = .returned (.tuple #[]) ∧ PutAt base p m { c with all := c.all ++ [⟨k, ⟨[], false, 0, []⟩⟩] } (fs ++ [newPR k w.heap.size]) w3 fs.length (newPR k w.heap.size) b dirty w') := hid hcall
  have d0' : w1.cell? ⟨w.heap.size, 0, none⟩ = some (.slice none 0 0) := d0
  have d1' : w1.cell? ⟨w.heap.size, 1, none⟩ = some (.bool false) := d1
  have d2' : (w1.setCell ⟨w.heap.size, 0, none⟩ (.slice xa xn xc)).cell? ⟨w.heap.size, 1, none⟩ = some (.bool false) := d2
  have dz' : ∀ j, w1.frozen? ⟨w.heap.size, j, none⟩ = false := dz
  have dz2' : ∀ j, (w1.setCell ⟨w.heap.size, 0, none⟩ (.slice xa xn xc)).frozen? ⟨w.heap.size, j, none⟩ = false := dz2
  clear hcall ho1 hb1 c1 c13 hlk' hg3 d0 d1 d2 dz dz2 hrun
  go_wp2_with fail
  refine HC.out.mono ?_
  rintro e w2 ⟨rfl, hP⟩
  have HP := hid (HFIN.out w2 hP)
  obtain ⟨fs1, hc, hs⟩ := HP.out
  rw [HC1.out] at hc
  have H2 := hid (And.intro hc hs)
  clear hP HP hc hs d0' d1' d2' dz' dz2' HC c33 hset HFIN H0 HCL
  go_wp2_with fail
  go_loopw [10, 11] (fun s10 s11 wr => (mz s11 = 1 ∧ s10 = .slice none 0 0 ∧ ∃ fs1, CK wr base p m C1 fs1 All ∧ Stp base p m w fs wr fs1) ∨ (mz s11 = 0 ∧ EvP base p m C1 fs w s10 wr)) (fun _ s11 _ => mz s11)
  case atStart => exact .inl ⟨rfl, rfl, fs1, H2.out.1, H2.out.2⟩
  case round =>
    rcases hrel with ⟨hz, rfl, fs2, hc, hs⟩ | ⟨hz, hE⟩
    · obtain ⟨c0, c1, c2, cz⟩ := hc.cells
      have hll : fs2.length = fs.length + 1 := by rw [← hc.lenAll]; exact HFS.out.2.2.1
      have hlen := fun n => (hc.below (below_drewN (Below.refl wr.heap.size wr) n)).len 3
      rw [hll] at hlen
      have hlen' : ∀ n, (Builtin.len_ #[56] 3 #[.map (some m)]).run Try.prog (wr.drewN n) = .ok (.int .i64 ((fs.length : Int) + 1)) (wr.drewN n) := hlen
      rw [HFS.out.2.2.2] at c0
      have tt : decide ((c.room : Int) < (fs.length : Int) + 1) = true := by simp; omega
      have tt2 : (c.room : Int) < (fs.length : Int) + 1 := by omega
      have HO := hid (And.intro hc hs)
      clear hc hs hlen c2 cz hll
      go_wp2_with fail
      go_quiet (fail)
      rename_i nq
      generalize hwq : wr.drewN nq = wq
      have hbq : Below wr.heap.size wr wq := hwq ▸ below_drewN (Below.refl _ _) nq
      have hcq := HO.out.1.below hbq
      have HQ := hid (And.intro hcq (HO.out.2.trans (Stp.of_below hbq HO.out.1.base_le)))
      have HOL := hid (oldest_any hcq (by have := HFS.out.1.len; omega) (fun e => by have := HFS.out.2.2.1; rw [e] at this; simp at this) HFS.out.2.1)
      clear hwq hbq hcq hlen' c0 c1
      go_wp2_with fail
      refine HOL.out.mono ?_
      rintro e w3 ⟨hb3, x, rfl, hx⟩
      have hc3 := HQ.out.1.below hb3
      have hxI : isI x := by
        obtain ⟨e, he, rfl⟩ := List.mem_map.1 hx.1
        exact HFS.out.1.ks e he
      have H3 := hid (And.intro hc3 (And.intro (HQ.out.2.trans (Stp.of_below hb3 HQ.out.1.base_le)) (And.intro hx hxI)))
      have HL := hid (line_any hc3 HFS.out.1.is HFS.out.1.sm (by have := HFS.out.1.len; omega) x hxI (.slice none 0 0) [] (OwnV.nil _ _ _) (fun q e => by cases e) (by have := HFS.out.1.len; simp; omega))
      clear hc3 hb3 hx hxI HOL
      go_wp2_with fail
      refine HL.out.mono ?_
      rintro e w4 ⟨fs4, v4, rfl, hc4, hp4, ho4, hf4, hb4, hk4, hfr4, hv4⟩
      have e4 : ({ C1 with all := cleaned (fun z => decide (z ∈ (walk C1.all (C1.all.length + 1) x ([], [])).1)) C1.all } : CM) = (lineM C1 x []).1 := rfl
      rw [e4] at hc4
      replace ho4 : OwnI w4 base v4 (lineM C1 x []).2 := ho4
      have hst4 : Stp base p m w fs w4 fs4 := H3.out.2.1.trans ⟨hb4, hk4.imp fun q _ hq => ⟨hq, fun e => by cases e⟩, hfr4⟩
      have hv4' : ∀ q, v4.ownBlock = some q → w.heap.size ≤ q := fun q e => by
        rcases hv4 q e with h9 | h9
        · cases h9
        · have := H3.out.2.1.kept.size; omega
      have hlo := loose_any hc4 x (HFS.out.1.line x []).sm
      obtain ⟨oa, on, oc, rfl⟩ := ownG_shape (ownI_G ho4)
      have H4 := hid (And.intro hc4 (And.intro ho4 (And.intro hst4 (And.intro hv4' hf4))))
      have HLO := hid hlo
      clear hc4 ho4 hst4 hv4' hf4 hlo hp4 hb4 hk4 hfr4 hv4 e4 HL
      go_wp2_with fail
      refine HLO.out.mono ?_
      rintro e w5 ⟨rfl, fs5, hc5, hp5, hs5⟩
      have c1 := hc5.cells.2.1
      have ho5 : OwnI w5 base (.slice oa on oc) (lineM C1 x []).2 := ownI_kept H4.out.2.1 hs5.kept fun q e => H4.out.2.2.2.2 q e
      have hf5 : ∀ q, (Value.slice oa on oc).ownBlock = some q → Free p m fs5 q := fun q e => hs5.free q (OwnV.lt H4.out.2.1 q e) (H4.out.2.2.2.2 q e)
      obtain ⟨w6, hrun, hpm6, hg6, hz6, hfz6⟩ := hc5.mp.del (t := 56) Try.underlying3 Try.underlying56 x H3.out.2.2.2.wf 0
      obtain ⟨hc6, hs6⟩ := hc5.delPage x hpm6 hg6
      have ho6 : OwnI w6 base (.slice oa on oc) (lineM C1 x []).2 := ownI_kept ho5 hs6.kept fun q e => hf5 q e
      have hf6 : ∀ q, (Value.slice oa on oc).ownBlock = some q → Free p m _ q := fun q e => hs6.free q (OwnV.lt ho5 q e) (hf5 q e)
      have H6 := hid (show EvP base p m C1 fs w (.slice oa on oc) w6 from ⟨x, _, H3.out.2.2.1, hc6, (H4.out.2.2.1.trans hs5).trans hs6, ho6, fun q e => ⟨hf6 q e, H4.out.2.2.2.1 q e⟩⟩)
      clear hc5 hp5 hs5 ho5 hf5 hpm6 hg6 hz6 hfz6 hc6 hs6 ho6 hf6 HLO
      go_wp2_with fail
      exact ⟨.inr ⟨rfl, H6.out⟩, by rw [hz]; simp [mz]⟩
    · have HE := hid hE
      obtain ⟨x, fs2, hx, hc, hs, ho, hf⟩ := hE
      have hnd : (C1.all.map (·.k)).Nodup := by have := H2.out.1.nodup; rw [H2.out.1.all, List.map_map]; exact this
      have hel := evict_len C1 x [] hnd hx.1
      obtain ⟨c0, c1, c2, cz⟩ := hc.cells
      have hll : fs2.length = fs.length := by rw [← hc.lenAll]; have := HFS.out.2.2.1; omega
      have hlen := fun n => (hc.below (below_drewN (Below.refl wr.heap.size wr) n)).len 3
      rw [hll] at hlen
      rw [evict_room, HFS.out.2.2.2] at c0
      have tt : decide ((c.room : Int) < (fs.length : Int)) = false := by simp; omega
      have tt' : ¬ c.room < fs.length := by omega
      obtain ⟨oa, on, oc, rfl⟩ := ownG_shape (ownI_G ho)
      clear hc hs ho hf c2 cz hll hnd hel hx
      go_wp2_with fail
      go_quiet (fail)
      rename_i nq
      generalize hwq : wr.drewN nq = wq
      have hbq : Below wr.heap.size wr wq := hwq ▸ below_drewN (Below.refl _ _) nq
      clear hwq
      go_wp2_with fail
      go_ret
      exact ⟨_, rfl, HE.out.below hbq⟩
end
end Go.Proofs.Ytbklhhmcigangaa
