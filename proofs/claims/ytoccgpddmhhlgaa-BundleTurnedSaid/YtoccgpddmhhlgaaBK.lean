import Derived.Test.YtoccgpddmhhlgaaBJ
import Derived.Test.YtoccgpddmhhlgaaC
namespace Go.Proofs.Ytoccgpddmhhlgaa
open Go.RowKit Go.Mx Go.Crc Go.Str Go.Bun
set_option linter.unusedSimpArgs false
set_option linter.unusedVariables false

/-- what the reader holds once its index is read -/
structure Ix (its : List Itm) (w w' : World) (p : Nat) (bv : Value) (dn mu : Int) (rv : Value) : Prop where
  rd : Rdr w' p bv rv dn mu (fromOf its) 0
  own : OwnG w' w.heap.size 99 4 rv (irows its its.length)
  kept : Kept w w' (· ≠ p)
  bel : Below p w w'
section
variable {w0 w w' : World} {p : Nat} {bv rv : Value} {dn mu : Int} {its : List Itm}
theorem Ix.below (h : Ix its w0 w p bv dn mu rv) (hb : Below w.heap.size w w') : Ix its w0 w' p bv dn mu rv :=
  ⟨(hb.block p (blk_lt h.rd)).trans h.rd, h.own.below hb (Nat.le_refl _), h.kept.trans (.of_below hb fun _ h _ => h), h.bel.trans (hb.mono (Nat.le_of_lt (blk_lt h.rd)))⟩
theorem Ix.base {w1 : World} (h : Ix its w1 w' p bv dn mu rv) (hb : Below w.heap.size w w1) (hp : p < w.heap.size) : Ix its w w' p bv dn mu rv :=
  ⟨h.rd, h.own.any_base hb.size, (Kept.of_below hb fun _ h _ => h).trans h.kept, (hb.mono (Nat.le_of_lt hp)).trans h.bel⟩
theorem Rdr.setMu (h : Rdr w p bv rv dn mu 0 0) (x : Int) : Rdr (w.setCell ⟨p, 2, none⟩ (.int .i32 x)) p bv rv dn x 0 0 := heap_set1 w p 2 _ _ _ _ h
theorem Ix.set {x y : Int} (h : Ix its w0 w p bv dn mu rv) (hp : p < w0.heap.size) : Ix its w0 ((w.drew.setCell ⟨p, 1, none⟩ (.int .u32 x)).setCell ⟨p, 2, none⟩ (.int .i32 y)) p bv x y rv :=
  ⟨heap_set1 _ p 2 _ _ _ _ (heap_set1 _ p 1 _ _ _ _ h.rd), ⟨ownsRow_setCell_below (ownsRow_setCell_below h.own.1 (a := ⟨p, 1, none⟩) hp _) (a := ⟨p, 2, none⟩) hp _, h.own.2⟩,
    (Kept.trans (⟨h.kept.size, h.kept.block⟩ : Kept w0 w.drew (· ≠ p)) (Kept.set w.drew p 1 _ fun hn => hn rfl)).trans (Kept.set _ p 2 _ fun hn => hn rfl),
    (h.bel.drew.setCell (p := ⟨p, 1, none⟩) (Nat.le_refl _) _).setCell (p := ⟨p, 2, none⟩) (Nat.le_refl _) _⟩
theorem Ix.from_set {x : Value} (h : Ix its (w0.setCell ⟨p, 2, none⟩ x) w p bv dn mu rv) : Ix its w0 w p bv dn mu rv :=
  ⟨h.rd, by simpa using h.own, (Kept.set w0 p 2 x fun hn => hn rfl).trans h.kept, ((Below.refl p w0).setCell (p := ⟨p, 2, none⟩) (Nat.le_refl _) _).trans h.bel⟩
end

set_option maxRecDepth 100000 in
set_option maxHeartbeats 2000000 in
theorem index_fn (its : List Itm) (hg : Good its) (p pl : Nat) (bv : Value) (dn mu : Int) (w : World) (hne : p ≠ pl) (hpl : pl < w.heap.size) (hc : w.cell? ⟨pl, 0, none⟩ = some (.pointer (some ⟨p, 0, none⟩))) (hr : Rdr w p bv (.slice none 0 0) dn mu 0 0) (hb : SlB w p bv (bunB its)) :
    Calls Try.prog 59 #[.pointer (some ⟨pl, 0, none⟩)] w fun e w' => e = .returned (.tuple #[]) ∧ ∃ rv, Ix its w w' p bv dn mu rv := by
  have hp := blk_lt hr
  have hel := end_len its
  obtain ⟨F1, F2, F3, F4⟩ := hg.foot
  have hs := hg.short
  have hfe : fromOf its ≤ endOf its := by have := pos_end its 0; rw [pos_zero] at this; exact this
  have HF := hid (form_good its hg p bv dn mu w hr hb)
  have HB := hid (And.intro hb (And.intro F3 F4))
  have hlb := fun w' => hb.len (P := Try.prog) (ty := 3) Try.underlying25 w'
  obtain ⟨oa, nn, cp, rfl⟩ := slB_shape hb
  rw [hel] at hlb
  have HE := hid (And.intro hel hs)
  clear hr hb F1 F2 F3 F4 hel hs
  go_enter Try.func59, Try.ntmps59
  go_wp2_with fail
  refine HF.out.mono ?_
  rintro e w1 ⟨rfl, rv, r1, o1, k1, b1⟩
  have hc1 : w1.cell? ⟨pl, 0, none⟩ = some (.pointer (some ⟨p, 0, none⟩)) := (k1.cell hpl (Ne.symm hne)).trans hc
  have hp1 := blk_lt r1
  have hbs1 := ((HB.out.1.below b1 (Nat.le_refl _)).mono (Nat.le_of_lt hp1))
  obtain ⟨c0, c1, c2, c4, c5, c6, fz⟩ := r1.cells
  have HS := HE.out.2
  have hel' := HE.out.1
  have N := bnumr_any (bunB its) _ p (endOf its + 6) 4 w1 c0 hbs1 (by omega) (by omega) (by omega) (by omega) (by omega)
  rw [HB.out.2.1] at N
  obtain ⟨v5, hv5, hs5⟩ := hbs1.part (P := Try.prog) (t := 25) Try.underlying25 size5 (fromOf its) (endOf its + 6) (by omega) (by omega)
  rw [show ((bunB its).take (endOf its + 6)).drop (fromOf its) = tailB its by rw [List.drop_take, ← atB_eq]; exact HB.out.2.2] at hv5
  have htl : (tailB its).length ≤ 524288 := by rw [← HB.out.2.2, atB_length _ _ _ (by omega)]; omega
  obtain ⟨S, hS⟩ : ∃ S, S = sum (tailB its) := ⟨_, rfl⟩
  have HS5 := hid (fun w' (h : Below w1.heap.size w1 w') => bSum' (tailB its) v5 w1 w' h ((hv5.below h (Nat.le_refl _)).mono h.size) (by omega))
  rw [← hS] at N HS5
  obtain ⟨E, hE⟩ : ∃ E, E = endOf its := ⟨_, rfl⟩
  obtain ⟨Fo, hFo⟩ : ∃ F, F = fromOf its := ⟨_, rfl⟩
  rw [← hE] at N hlb hs5
  rw [← hFo] at hs5 c5
  rw [show ((E + 6 : Nat) : Int) = (E : Int) + 6 by omega, show ((4 : Nat) : Int) = 4 from rfl] at N
  have hs5' : ∀ w' (k k' : IntKind), (Instr.slice 25 (.slice oa nn cp) (some (.int k (Fo : Int))) (some (.int k' ((E : Int) + 6))) none).run Try.prog w' = .ok v5 w' := fun w' k k' => by
    have := hs5 w' k k'
    rwa [show ((E + 6 : Nat) : Int) = (E : Int) + 6 by omega] at this
  have hlb' : ∀ (w' : World), (Builtin.len_ #[25] 3 #[.slice oa nn cp]).run Try.prog w' = .ok (.int .i64 ((E : Int) + 10)) w' := fun w' => by rw [hlb w']; congr 2
  have HN := hid N
  have hEl : E + 10 ≤ 524288 := by omega
  have hsl := S.isLt
  have hws : IntKind.u32.wrap (S.toNat : Int) = (S.toNat : Int) := by rw [IntKind.wrap_u32]; omega
  have M0 : ∀ w', Below w1.heap.size w1 w' → w'.cell? ⟨p, 0, none⟩ = some (.slice oa nn cp) := fun w' h => (h.cell (p := ⟨p, 0, none⟩) hp1).trans c0
  have M5 : ∀ w', Below w1.heap.size w1 w' → w'.cell? ⟨p, 5, none⟩ = some (.int .i64 Fo) := fun w' h => (h.cell (p := ⟨p, 5, none⟩) hp1).trans c5
  have MP : ∀ w', Below w1.heap.size w1 w' → w'.cell? ⟨pl, 0, none⟩ = some (.pointer (some ⟨p, 0, none⟩)) := fun w' h => (h.cell (p := ⟨pl, 0, none⟩) (Nat.lt_of_lt_of_le hpl k1.size)).trans hc1
  have HX := hid (And.intro r1 (And.intro o1 (And.intro k1 b1)))
  have HFo := hid hFo
  obtain ⟨T, hT⟩ : ∃ T, T = S.toNat := ⟨_, rfl⟩
  rw [← hT] at HN HS5 hws hsl
  clear N hlb hs5 hv5 hbs1 hS hE hFo HS r1 o1 k1 b1 c1 c2 c4 c6 fz hfe hel' htl hT
  go_wp2_with fail
  rw [show (E : Int) + 10 - 4 = (E : Int) + 6 by omega]
  refine HN.out.mono ?_
  rintro e w' ⟨rfl, rfl⟩
  go_wp2_with fail
  go_region_held3 (fun w' => Below w1.heap.size w1 w') (first | exact (Below.refl _ _).drew | assumption | exact Below.drew (by assumption))
    (first | (go_at_call 36; refine (HS5.out _ (by assumption)).mono ?_; rintro e w9 ⟨rfl, hb9, hk9⟩; clear hk9))
  have hix : Ix its w w9 p (.slice oa nn cp) dn mu rv := Ix.below ⟨HX.out.1, HX.out.2.1, HX.out.2.2.1, HX.out.2.2.2⟩ hb9
  have HIX := hid hix
  clear hix hb9
  go_wp2
  go_end0
  exact ⟨rfl, rv, HIX.out⟩

set_option maxRecDepth 100000 in
set_option maxHeartbeats 1600000 in
theorem rslow_any (its : List Itm) (hg : Good its) (p pl : Nat) (bv : Value) (w : World) (hne : p ≠ pl) (hpl : pl < w.heap.size) (hp : w.cell? ⟨pl, 0, none⟩ = some (.pointer (some ⟨p, 0, none⟩))) (hr : Rdr w p bv (.slice none 0 0) 0 0 0 0) (hb : SlB w p bv (bunB its)) :
    Calls Try.prog 68 #[.pointer (some ⟨p, 1, none⟩), .func (.func 59) #[] #[.pointer (some ⟨pl, 0, none⟩)]] w fun e w' => e = .returned (.tuple #[]) ∧ ∃ rv, Ix its w w' p bv 1 0 rv := by
  obtain ⟨_, h0, h1, _, _, _, fz⟩ := hr.cells
  have hpp := blk_lt hr
  have hl := run_call_load (P := Try.prog) Try.func72 (by kernel_rfl) (by kernel_rfl) (by kernel_rfl) .u32 (by kernel_rfl) (w := w.setCell ⟨p, 2, none⟩ (.int .i32 1)) (a := ⟨p, 1, none⟩) (x := 0) ((cs_off (by omega)).trans h0)
  have hp1 : (w.setCell ⟨p, 2, none⟩ (.int .i32 1)).cell? ⟨pl, 0, none⟩ = some (.pointer (some ⟨p, 0, none⟩)) := (cs_ne hne).trans hp
  have hf0 := fz 1
  have hf1 := fz 2
  have HF := hid (index_fn its hg p pl bv 0 1 (w.setCell ⟨p, 2, none⟩ (.int .i32 1)) hne (by simpa using hpl) hp1 (hr.setMu 1) (hb.setCell _ (Nat.le_refl _)))
  have hnot : ∀ (x : Bool) (w : World), (Op.unary .not (.bool x)).run Try.prog w = .ok (.bool (!x)) w := fun _ _ => rfl
  clear hr hb fz
  go_enter_defers Try.func68, Try.ntmps68
  go_wp2_with (go_at_call 73; refine (lock_free ⟨p, 2, none⟩ _ (by go_simp) (by go_simp)).mono ?_; rintro e w' ⟨rfl, rfl⟩)
  go_wp2_with (first | (go_at_call 59; refine HF.out.mono ?_; rintro e w2 ⟨rfl, rv, hix⟩) | (go_at_call 67; go_in))
  obtain ⟨_, g0, g1, _, _, _, gz⟩ := hix.rd.cells
  refine leaves_cons (f := 75) (args := #[.pointer (some ⟨p, 1, none⟩), .bool true]) (by simp) (by simp [go_sem]) ?_
  refine (store_deferred ⟨p, 1, none⟩ (.int .u32 0) .returning _ g0 (gz 1)).mono ?_
  rintro e u' w'' ⟨rfl, rfl, rfl⟩
  refine leaves_cons (f := 74) (args := #[.pointer (some ⟨p, 2, none⟩)]) (by simp [settle]) (by simp [go_sem]) ?_
  have hc1 : (w2.drew.setCell ⟨p, 1, none⟩ (.int .u32 1)).cell? ⟨p, 2, none⟩ = some (.int .i32 1) := by
    rw [cs_off (by omega), World.cell?_drew]; exact g1
  refine (unlock_deferred ⟨p, 2, none⟩ _ _ hc1 (by rw [fz_set]; exact gz 2)).mono ?_
  rintro e u' w'' ⟨rfl, rfl, rfl⟩
  have hd : Ix its w ((w2.drew.setCell ⟨p, 1, none⟩ (.int .u32 1)).setCell ⟨p, 2, none⟩ (.int .i32 0)) p bv 1 0 rv := (hix.set (by simpa using hpp)).from_set
  simp [Leaves, settle, results, Try.results68]
  exact ⟨_, hd⟩

set_option maxRecDepth 100000 in
theorem rdo_first (its : List Itm) (hg : Good its) (p pl : Nat) (bv : Value) (w : World) (hne : p ≠ pl) (hpl : pl < w.heap.size) (hp : w.cell? ⟨pl, 0, none⟩ = some (.pointer (some ⟨p, 0, none⟩))) (hr : Rdr w p bv (.slice none 0 0) 0 0 0 0) (hb : SlB w p bv (bunB its)) :
    Calls Try.prog 58 #[.pointer (some ⟨p, 1, none⟩), .func (.func 59) #[] #[.pointer (some ⟨pl, 0, none⟩)]] w fun e w' => e = .returned (.tuple #[]) ∧ ∃ rv, Ix its w w' p bv 1 0 rv := by
  obtain ⟨_, h0, h1, _, _, _, fz⟩ := hr.cells
  have hl := run_call_load (P := Try.prog) Try.func72 (by kernel_rfl) (by kernel_rfl) (by kernel_rfl) .u32 (by kernel_rfl) h0
  have hnot : ∀ (x : Bool) (w : World), (Op.unary .not (.bool x)).run Try.prog w = .ok (.bool (!x)) w := fun _ _ => rfl
  have HS := hid (rslow_any its hg p pl bv w hne hpl hp hr hb)
  clear hr hb fz
  go_enter Try.func58, Try.ntmps58
  go_wp2_with (first | (go_at_call 68; refine HS.out.mono ?_; rintro e w' ⟨rfl, hd⟩) | (go_at_call 67; go_in))
  go_end0
  exact ⟨rfl, hd⟩

set_option maxRecDepth 100000 in
theorem bindex_any (its : List Itm) (hg : Good its) (p : Nat) (bv : Value) (w : World) (hr : Rdr w p bv (.slice none 0 0) 0 0 0 0) (hb : SlB w p bv (bunB its)) :
    Calls Try.prog 46 #[.pointer (some ⟨p, 0, none⟩)] w fun e w' => ∃ rv, e = .returned (.tuple #[rv, .int .i64 0]) ∧ Ix its w w' p bv 1 0 rv := by
  have hp := blk_lt hr
  have hmf : ∀ (fn : Fn) (first cap : Array Value) (w : World), (Instr.makeFunc fn first cap).run Try.prog w = .ok (.func fn first cap) w := fun _ _ _ _ => rfl
  have hb1 : Below w.heap.size w (w.alloc (.cells #[.pointer (some ⟨p, 0, none⟩)] 81)) := (Below.refl _ _).alloc (Nat.le_refl _) _
  have p0 : (w.alloc (.cells #[.pointer (some ⟨p, 0, none⟩)] 81)).cell? ⟨w.heap.size, 0, none⟩ = some (.pointer (some ⟨p, 0, none⟩)) := cell_alloc1 _ _ _
  have HD := hid (rdo_first its hg p w.heap.size bv _ (by omega) (by simp) p0 ((hb1.block p hp).trans hr) (hb.below hb1 (Nat.le_of_lt hp)))
  have HB := hid hb1
  clear hr hb hb1
  go_enter Try.func46, Try.ntmps46
  go_wp2_with fail
  refine HD.out.mono ?_
  rintro e w1 ⟨rfl, rv, hix⟩
  obtain ⟨_, _, _, c4, _, c6, _⟩ := hix.rd.cells
  have q0 : w1.cell? ⟨w.heap.size, 0, none⟩ = some (.pointer (some ⟨p, 0, none⟩)) := (hix.kept.cell (by simp) (by omega)).trans p0
  have hrv : ∃ oa n c, rv = .slice oa n c := by
    rcases hix.own.shape with ⟨rfl, _⟩ | ⟨g, c, rfl, _⟩
    · exact ⟨_, _, _, rfl⟩
    · exact ⟨_, _, _, rfl⟩
  obtain ⟨ra, rn, rc, rfl⟩ := hrv
  have HI := hid hix
  clear p0 hix
  go_wp2_with fail
  go_quiet (fail)
  go_wp2
  go_ret2
  exact ⟨_, rfl, (HI.out.below (below_drewN (Below.refl _ _) _)).base HB.out hp⟩
end Go.Proofs.Ytoccgpddmhhlgaa
