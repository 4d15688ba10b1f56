import Derived.Test.YtoccgpddmhhlgaaL4
import Derived.Deep.RegionLaw
import Derived.Deep.CutBlock
namespace Go.Proofs.Ytoccgpddmhhlgaa
open Go.RowKit Go.Mx Go.Crc Go.Str Go.Bun
set_option linter.unusedSimpArgs false
set_option linter.unusedVariables false

def irow (its : List Itm) (k : Nat) : List Value := [.string ⟨(its.getD k default).name.toArray⟩, .int .i64 (from_ its k), .int .i64 (its.getD k default).data.length, .int .u32 (its.getD k default).s]
def irows (its : List Itm) (k : Nat) : List (List Value) := (List.range k).map (irow its)
theorem irows_succ (its : List Itm) (k : Nat) : irows its (k + 1) = irows its k ++ [irow its k] := by simp [irows, List.range_succ]
theorem irows_len (its : List Itm) (k : Nat) : (irows its k).length = k := by simp [irows]
theorem Try.info99 : (Try.prog.info? 99).map (fun i => (i.zero, i.size, i.bytes)) = some (some (.agg #[.string ⟨#[]⟩, .int .i64 0, .int .i64 0, .int .u32 0]), 4, 40) := by kernel_rfl
theorem size99 : ∀ w, (sizeOf 99).run Try.prog w = .ok 4 w := fun w => by kernel_rfl

/-- the state of form's first loop -/
structure Fm (w0 w : World) (p : Nat) (bv : Value) (dn mu : Int) (its : List Itm) (k : Nat) (rv : Value) : Prop where
  rd : Rdr w p bv rv dn mu 0 0
  own : OwnG w w0.heap.size 99 4 rv (irows its k)
  kept : Kept w0 w (· ≠ p)
  bel : Below p w0 w
section
variable {w0 w w' : World} {p : Nat} {bv rv : Value} {dn mu : Int} {its : List Itm} {k : Nat}
theorem Fm.below (h : Fm w0 w p bv dn mu its k rv) (hp : p < w0.heap.size) (hb : Below w.heap.size w w') : Fm w0 w' p bv dn mu its k rv :=
  ⟨(hb.block p (blk_lt h.rd)).trans h.rd, h.own.below hb (Nat.le_refl _), h.kept.trans (.of_below hb fun _ h _ => h), h.bel.trans (hb.mono (Nat.le_of_lt (blk_lt h.rd)))⟩
theorem Fm.next {w3 : World} {v3 : Value} (h : Fm w0 w p bv dn mu its k rv) (hp : p < w0.heap.size) (hb : Below w0.heap.size w w3) (ho : OwnG w3 w0.heap.size 99 4 v3 (irows its (k + 1))) : Fm w0 (w3.setCell ⟨p, 4, none⟩ v3) p bv dn mu its (k + 1) v3 := by
  have r3 : Rdr w3 p bv rv dn mu 0 0 := (hb.block p hp).trans h.rd
  have hz := h.kept.size
  exact ⟨heap_set1 w3 p 4 v3 _ _ _ r3, ⟨ownsRow_setCell_below ho.1 (a := ⟨p, 4, none⟩) hp v3, ho.2⟩,
    Kept.trans ⟨Nat.le_trans hz hb.size, fun k hk hn => (hb.block k hk).trans (h.kept.block k hk hn)⟩ (Kept.set w3 p 4 v3 fun hn => hn rfl),
    (h.bel.trans (hb.mono (Nat.le_of_lt hp))).setCell (p := ⟨p, 4, none⟩) (Nat.le_refl _) _⟩
end
theorem irows_succ_shape {w : World} {b : Nat} {e : TypeId} {s : Nat} {v : Value} {rows : List (List Value)} {r : List Value} (h : OwnG w b e s v (rows ++ [r])) : ∃ oa n c, v = .slice oa n c := by
  rcases h.shape with ⟨rfl, _⟩ | ⟨g, c, rfl, _⟩
  · exact ⟨_, _, _, rfl⟩
  · exact ⟨_, _, _, rfl⟩
theorem Try.under93 : Try.prog.underlying 93 = some (.slice 99) := by kernel_rfl
theorem irow_at {w : World} {B : Nat} {v : Value} {its : List Itm} {n : Nat} (h : SlG w B 4 v (irows its n)) (i : Nat) (hi : i < n) :
    ∃ b o, b < B ∧ (∀ w' (k : IntKind), (Instr.indexAt 93 v (.int k (i : Int))).run Try.prog w' = .ok (.pointer (some ⟨b, o, none⟩)) w') ∧ w.cell? ⟨b, o, none⟩ = some (.string ⟨(its.getD i default).name.toArray⟩) ∧ w.cell? ⟨b, o + 1, none⟩ = some (.int .i64 (from_ its i)) ∧ w.cell? ⟨b, o + 2, none⟩ = some (.int .i64 (its.getD i default).data.length) ∧ w.cell? ⟨b, o + 3, none⟩ = some (.int .u32 (its.getD i default).s) := by
  obtain ⟨b, o, hb, hia, hc⟩ := h.addr (P := Try.prog) Try.under93 size99 i (by rw [irows_len]; exact hi)
  have e : (irows its n).getD i [] = irow its i := by simp [irows, List.getD_eq_getElem?_getD, List.getElem?_map, List.getElem?_range hi]
  rw [e] at hc
  exact ⟨b, o, hb, hia, hc 0 _ rfl, hc 1 _ rfl, hc 2 _ rfl, hc 3 _ rfl⟩
theorem irow_names (its : List Itm) (k : Nat) (hk : k < its.length) : (its.take (k + 1)).map (fun p => nrow p.name) = (its.take k).map (fun p => nrow p.name) ++ [nrow (its.getD k default).name] := by
  rw [takeD' its k default hk]; simp
theorem names_sls {w : World} {B p : Nat} {v : Value} {its : List Itm} (ho : OwnG w B 9 1 v (its.map (fun p => nrow p.name))) (hp : p < B) (x : Value) : SlS (w.setCell ⟨p, 5, none⟩ x) (w.setCell ⟨p, 5, none⟩ x).heap.size v (its.map (·.name)) := by
  have o7 : OwnG (w.setCell ⟨p, 5, none⟩ x) B 9 1 v (its.map (fun p => nrow p.name)) := ⟨ownsRow_setCell_below ho.1 (a := ⟨p, 5, none⟩) hp x, ho.2⟩
  have := o7.slG
  unfold SlS
  rw [List.map_map]
  exact this
theorem irow_one (nm : List UInt8) (a b c : Int) : ∀ u ∈ [Value.string ⟨nm.toArray⟩, .int .i64 a, .int .i64 b, .int .u32 c], u.oneCell' = true := by
  intro u hu; simp at hu; rcases hu with rfl | rfl | rfl | rfl <;> rfl

set_option maxRecDepth 100000 in
set_option maxHeartbeats 4000000 in
theorem form_good (its : List Itm) (hg : Good its) (p : Nat) (bv : Value) (dn mu : Int) (w : World) (hr : Rdr w p bv (.slice none 0 0) dn mu 0 0) (hb : SlB w p bv (bunB its)) :
    Calls Try.prog 60 #[.pointer (some ⟨p, 0, none⟩)] w fun e w' => e = .returned (.bool true) ∧ ∃ rv, Rdr w' p bv rv dn mu (fromOf its) 0 ∧ OwnG w' w.heap.size 99 4 rv (irows its its.length) ∧ Kept w w' (· ≠ p) ∧ Below p w w' := by
  have hpl := blk_lt hr
  have hs := hg.short
  have hf := hg.few
  have hlb := fun w' => hb.len (P := Try.prog) (ty := 3) Try.underlying25 w'
  have hel := end_len its
  obtain ⟨F1, F2, F3, F4⟩ := hg.foot
  have hfe : fromOf its ≤ endOf its := by have := pos_end its 0; rw [pos_zero] at this; exact this
  have hf4 : 4 ≤ fromOf its := by unfold fromOf; omega
  have hbw : SlB w w.heap.size bv (bunB its) := hb.mono (Nat.le_of_lt hpl)
  obtain ⟨c0, c1, c2, c4, c5, c6, fz⟩ := hr.cells
  have N1 := bnumr_any (bunB its) bv p (endOf its) 4 w c0 hbw (by omega) (by omega) (by omega) (by omega) (by omega)
  have N2 := bnumr_any (bunB its) bv p (endOf its + 4) 2 w c0 hbw (by omega) (by omega) (by omega) (by omega) (by omega)
  rw [F1] at N1
  rw [F2] at N2
  obtain ⟨v4, hv4, hs4⟩ := hbw.to (P := Try.prog) Try.underlying25 size5 4 (by omega)
  rw [bun_mark] at hv4
  have hc4 := conv_sl (P := Try.prog) (src := 25) (dst := 9) (e := 5) Try.underlying25 Try.underlying5 Try.underlying9 hv4
  have hs4' : ∀ w' (k : IntKind), (Instr.slice 25 bv none (some (.int k 4)) none).run Try.prog w' = .ok v4 w' := hs4
  have hc4' : (convert 25 9 v4).run Try.prog w = .ok (.string ⟨#[77, 66, 68, 76]⟩) w := hc4
  obtain ⟨E, hE⟩ : ∃ E, E = endOf its := ⟨_, rfl⟩
  obtain ⟨Fo, hFo⟩ : ∃ F, F = fromOf its := ⟨_, rfl⟩
  have hlb' : ∀ (w' : World), (Builtin.len_ #[25] 3 #[bv]).run Try.prog w' = .ok (.int .i64 ((E : Int) + 10)) w' := fun w' => by rw [hlb w', hel, hE]; rfl
  rw [← hE] at N1 N2 hel hfe
  rw [← hFo] at N1 hfe hf4 ⊢
  rw [show ((E + 4 : Nat) : Int) = (E : Int) + 4 by omega] at N2
  rw [show ((4 : Nat) : Int) = 4 from rfl] at N1
  rw [show ((2 : Nat) : Int) = 2 from rfl] at N2
  have HN1 := hid N1; have HN2 := hid N2
  have HE := hid (And.intro hE hFo)
  have HB := hid (And.intro hbw hb)
  have HG := hid hg
  have hEl : E + 10 ≤ 524288 := by omega
  have hFm : Fm w w p bv dn mu its 0 (.slice none 0 0) := ⟨hr, by simpa [irows] using OwnG.nil _ _ _ _, ⟨Nat.le_refl _, fun _ _ _ => rfl⟩, Below.refl _ _⟩
  have HF0 := hid hFm
  obtain ⟨oa, nn, cp, rfl⟩ := slB_shape hb
  clear N1 N2 hel F1 F2 F3 F4 hs4 hc4 hlb hE hFo hbw hb hg hs hr hv4 hFm fz c1 c2 c4 c5 c6
  have b1 : decide ((E : Int) < 4) = false := by simp; omega
  have b2 : decide (524288 < (E : Int) + 10) = false := by simp; omega
  have b3 : decide ((Fo : Int) < 4) = false := by simp; omega
  have b4 : decide ((E : Int) < (Fo : Int)) = false := by simp; omega
  have b4' : decide (E < Fo) = false := by simp; omega
  have b5 : decide (16 < (its.length : Int)) = false := by simp; omega
  have b5' : decide (16 < its.length) = false := by simp; omega
  go_enter Try.func60, Try.ntmps60
  go_wp2_with (first
    | (go_at_call 61; (first
      | ((with_reducible refine HN1.out.mono ?_); rintro e w' ⟨rfl, rfl⟩)
      | ((with_reducible refine HN2.out.mono ?_); rintro e w' ⟨rfl, rfl⟩))))
  go_loopw [8, 66] (fun a i wr => ∃ (k : Nat) (rv : Value), k ≤ its.length ∧ a = .int .i64 (posOf its k) ∧ i = .int .i64 k ∧ Fm w wr p (.slice oa nn cp) dn mu its k rv) (fun _ i _ => its.length - (intOf i).toNat)
  case atStart => exact ⟨0, _, by omega, by rw [pos_zero, ← HE.out.2], rfl, HF0.out⟩
  case round =>
    obtain ⟨k, rv, hk, rfl, rfl, hF⟩ := hrel
    clear HF0 HN1 HN2 c0 hs4' hc4'
    by_cases hlt : k < its.length
    · have HFm := hid hF
      have hpw := blk_lt hF.rd
      have hbz := hF.kept.size
      obtain ⟨c0, c1, c2, c4, c5, c6, fz⟩ := hF.rd.cells
      have hro := HG.out.row k hlt
      have hpe : posOf its (k + 1) ≤ E := by rw [HE.out.1]; exact pos_end its (k + 1)
      have hpn := pos_next its k hlt
      have hfm := from_mono its k hlt
      have hf4' : 4 ≤ from_ its k := by unfold from_; omega
      rw [← HE.out.2] at hfm
      have hbr : SlB wr wr.heap.size (.slice oa nn cp) (bunB its) := (HB.out.2.below hF.bel (Nat.le_refl p)).mono (Nat.le_of_lt hpw)
      have HR := hid (brow_any (bunB its) (.slice oa nn cp) p (posOf its k) _ _ _ _ wr c0 hpw hbr (by have := HG.out.short; omega) hro)
      have HK := hid (And.intro hro (And.intro hpn (irows_succ its k)))
      have hir : irow its k = [.string ⟨(its.getD k default).name.toArray⟩, .int .i64 (from_ its k), .int .i64 (its.getD k default).data.length, .int .u32 (its.getD k default).s] := rfl
      rw [← hpn] at HR
      obtain ⟨P0, hP0⟩ : ∃ x, x = posOf its k := ⟨_, rfl⟩
      obtain ⟨P1, hP1⟩ : ∃ x, x = posOf its (k + 1) := ⟨_, rfl⟩
      obtain ⟨X, hX⟩ : ∃ x, x = from_ its k := ⟨_, rfl⟩
      obtain ⟨it, hit⟩ : ∃ x, x = its.getD k default := ⟨_, rfl⟩
      rw [← hP0, ← hP1, ← hX, ← hit] at HR
      rw [← hP1] at hpe
      rw [← hX] at hfm hf4'
      rw [← hit] at hfm
      rw [← hX, ← hit] at hir
      obtain ⟨nm, da, sm⟩ := it
      simp only at HR hfm hir
      obtain ⟨D, hD⟩ : ∃ x, x = da.length := ⟨_, rfl⟩
      rw [← hD] at HR hfm hir
      have HP := hid (And.intro hP0 (And.intro hP1 (And.intro hX hD)))
      have HI := hid hir
      clear hP0 hP1 hX hD hit hpn hro hir hF fz c1 c2 c4 c5 c6
      rw [← HP.out.1]
      go_wp2_with fail
      refine HR.out.mono ?_
      rintro e w1 ⟨rfl, hb1⟩
      have HF1 := hid (HFm.out.below (by omega) hb1)
      obtain ⟨d0, d1, d2, d4, d5, d6, dz⟩ := HF1.out.rd.cells
      have HXI := hid HI.out
      obtain ⟨row, hrow⟩ : ∃ x, x = irow its k := ⟨_, rfl⟩
      rw [← hrow] at HI
      have HRW := hid hrow
      clear hrow
      have hb2 : Below w1.heap.size w1 (w1.alloc (.cells #[.string ⟨nm.toArray⟩, .int .i64 X, .int .i64 D, .int .u32 sm] 99)) := (Below.refl _ _).alloc (Nat.le_refl _) _
      have hq := alloc_new w1 (.cells #[.string ⟨nm.toArray⟩, .int .i64 X, .int .i64 D, .int .u32 sm] 99 (0, 0))
      go_wp2_with fail
      obtain ⟨W2, hW2⟩ : ∃ x, x = w1.alloc (.cells #[.string ⟨nm.toArray⟩, .int .i64 X, .int .i64 D, .int .u32 sm] 99) := ⟨_, rfl⟩
      rw [← hW2] at hb2 hq ⊢
      have HF2 := hid (HF1.out.below (by omega) hb2)
      clear d0 d1 d2 d4 d5 d6 dz
      obtain ⟨d0, d1, d2, d4, d5, d6, dz⟩ := HF2.out.rd.cells
      have q0 : W2.cell? ⟨w1.heap.size, 0, none⟩ = some (.string ⟨nm.toArray⟩) := by simp [World.cell?, hq]
      have q1 : W2.cell? ⟨w1.heap.size, 1, none⟩ = some (.int .i64 X) := by simp [World.cell?, hq]
      have q2 : W2.cell? ⟨w1.heap.size, 2, none⟩ = some (.int .i64 D) := by simp [World.cell?, hq]
      have q3 : W2.cell? ⟨w1.heap.size, 3, none⟩ = some (.int .u32 sm) := by simp [World.cell?, hq]
      have hlr := irows_len its k
      have hown : OwnG ((W2.alloc (.cells #[.string ⟨nm.toArray⟩, .int .i64 X, .int .i64 D, .int .u32 sm] 99)).drew) w.heap.size 99 4 rv (irows its k) := HF2.out.own.below ((Below.refl W2.heap.size W2).alloc (Nat.le_refl _) _).drew (Nat.le_refl _)
      have hrd : Rdr ((W2.alloc (.cells #[.string ⟨nm.toArray⟩, .int .i64 X, .int .i64 D, .int .u32 sm] 99)).drew) p (.slice oa nn cp) rv dn mu 0 0 := (((Below.refl W2.heap.size W2).alloc (Nat.le_refl _) _).drew.block p (blk_lt HF2.out.rd)).trans HF2.out.rd
      have hcl : ∀ j u, [Value.string ⟨nm.toArray⟩, .int .i64 X, .int .i64 D, .int .u32 sm][j]? = some u → ((W2.alloc (.cells #[.string ⟨nm.toArray⟩, .int .i64 X, .int .i64 D, .int .u32 sm] 99)).drew).cell? ⟨W2.heap.size, j, none⟩ = some u := row_cells W2 [.string ⟨nm.toArray⟩, .int .i64 X, .int .i64 D, .int .u32 sm] 99
      have hz2 := HF2.out.kept.size
      have hbw : w.heap.size ≤ ((W2.alloc (.cells #[.string ⟨nm.toArray⟩, .int .i64 X, .int .i64 D, .int .u32 sm] 99)).drew).heap.size := by simp; omega
      obtain ⟨rows, hrows⟩ : ∃ r, r = irows its k := ⟨_, rfl⟩
      rw [← hrows] at hown hlr
      have HRS := hid hrows
      have h40 : (rows.length + 1) * 40 ≤ 140737488355328 := by omega
      have h41 : rows.length + 1 ≤ 140737488355328 := by omega
      clear hrows hW2
      have hrv : ∃ oa n c, rv = .slice oa n c := by
        rcases hown.shape with ⟨rfl, _⟩ | ⟨g, c, rfl, _⟩
        · exact ⟨_, _, _, rfl⟩
        · exact ⟨_, _, _, rfl⟩
      obtain ⟨ra, rn, rc, rfl⟩ := hrv
      have d4x := (Rdr.cells hrd).2.2.2.1
      have d4y : (W2.alloc (.cells #[.string ⟨nm.toArray⟩, .int .i64 X, .int .i64 D, .int .u32 sm] 99)).cell? ⟨p, 4, none⟩ = some (.slice ra rn rc) := d4x
      go_region_law (refine step_append_g _ (by rfl) (.tmp 106) (.tmp 108) 93 99 _ 4 40 rfl Try.underlying93 Try.info99 rfl (by decide) w.heap.size _ rows (by rfl) hown W2.heap.size 1 [.string ⟨nm.toArray⟩, .int .i64 X, .int .i64 D, .int .u32 sm] (by rfl) rfl hcl (irow_one nm X D sm) h40 h41 hbw ?_; intro v3 w3 ho3 hg3 hb3; have hs3 := irows_succ_shape ho3; obtain ⟨ga, gn, gc, rfl⟩ := hs3; have e3 := Rdr.cells ((hb3.block p hpl).trans hrd); have e4 := e3.2.2.2.1; have e5 := e3.2.2.2.2.2.2 4; clear e3)
      all_goals
        have hirw : irows its (k + 1) = rows ++ [[.string ⟨nm.toArray⟩, .int .i64 X, .int .i64 D, .int .u32 sm]] := by rw [HK.out.2.2, ← HRS.out, HXI.out]
        have hFn := HF2.out.next hpl ((((Below.refl w.heap.size W2).alloc hz2 _).drew).trans hb3) (by rw [hirw]; exact ho3)
        have HFn := hid hFn
        clear hFn ho3 hg3 hb3 e4 e5 d4x d4y hcl hown hrd q0 q1 q2 q3 hq hb2
        go_wp2_with fail
        go_roundw
        case rel => exact ⟨k + 1, _, by omega, by rw [← HP.out.2.1], by go_num, HFn.out⟩
        case measure => simp [intOf]; omega
    · obtain rfl : k = its.length := by omega
      have HFm := hid hF
      have hpw := blk_lt hF.rd
      have hbz := hF.kept.size
      obtain ⟨c0, c1, c2, c4, c5, c6, fz⟩ := hF.rd.cells
      have hpe : posOf its its.length = E := HE.out.1.symm
      have hln := hF.own.slG.len (P := Try.prog) (ty := 3) Try.under93
      rw [irows_len] at hln
      have hrv : ∃ oa n c, rv = .slice oa n c := by
        rcases hF.own.shape with ⟨rfl, _⟩ | ⟨g, c, rfl, _⟩
        · exact ⟨_, _, _, rfl⟩
        · exact ⟨_, _, _, rfl⟩
      obtain ⟨ra, rn, rc, rfl⟩ := hrv
      obtain ⟨w5, hw5⟩ : ∃ x, x = wr := ⟨_, rfl⟩
      subst hw5
      clear hF fz c1 c2
      rw [hpe]
      clear hpe
      go_wp2_with fail
      go_loopw [12, 119] (fun n i wr => ∃ k : Nat, k ≤ its.length ∧ i = .int .i64 k ∧ OwnG wr w5.heap.size 9 1 n ((its.take k).map (fun p => nrow p.name)) ∧ Below w5.heap.size w5 wr) (fun _ i _ => its.length - (intOf i).toNat)
      case atStart => exact ⟨0, by omega, rfl, OwnG.nil _ _ _ _, Below.refl _ _⟩
      case round =>
        obtain ⟨k, hk, rfl, ho, hbl⟩ := hrel
        by_cases hlt : k < its.length
        · obtain ⟨b, o, hb, hia, i0, i1, i2, i3⟩ := irow_at (HFm.out.own.slG.below hbl (Nat.le_refl _)) k hlt
          have HT := hid (irow_names its k hlt)
          obtain ⟨it, hit⟩ : ∃ x, x = its.getD k default := ⟨_, rfl⟩
          rw [← hit] at HT i0 i2 i3
          obtain ⟨s, da, sm⟩ := it
          simp only at HT i0 i2 i3
          obtain ⟨X, hX⟩ : ∃ x, x = from_ its k := ⟨_, rfl⟩
          rw [← hX] at i1
          clear hX hit
          have hlr : ((its.take k).map (fun p => nrow p.name)).length ≤ 50000 := by simp; omega
          obtain ⟨rows, hrows⟩ : ∃ r, r = (its.take k).map (fun p => nrow p.name) := ⟨_, rfl⟩
          rw [← hrows] at ho HT hlr
          clear hrows
          have hbz2 := hbl.size
          have hb2 : Below wr.heap.size wr ((wr.alloc (.cells #[.string ⟨s.toArray⟩, .int .i64 X, .int .i64 da.length, .int .u32 sm] 99)).alloc (.cells #[.string ⟨s.toArray⟩] 9)) := ((Below.refl _ _).alloc (Nat.le_refl _) _).alloc (by simp) _
          have ho2 := ho.below hb2 (Nat.le_refl _)
          have hbl2 := hbl.trans (hb2.mono hbz2)
          have HB2 := hid hbl2
          clear hb2 ho hbl2
          go_wp2_with (at_builtin; refine append_g _ rfl _ _ 58 9 _ 1 16 rfl Try.underlying58 Try.info9 rfl (by decide) w5.heap.size _ rows rfl ho2 (wr.heap.size + 1) 1 (nrow s) ?_ rfl ?_ ?_ ?_ ?_ ?_ ?_)
          · first | rfl | go_simp
          · intro j u hu
            match j, hu with
            | 0, hu => simp [nrow] at hu; subst hu; go_simp
          · intro u hu; simp [nrow] at hu; subst hu; rfl
          · omega
          · omega
          · simp; omega
          intro v3 w3 ho3 _ hb3
          go_wp2
          go_roundw
          case rel => exact ⟨k + 1, by omega, by go_num, by rw [HT.out]; exact ho3, HB2.out.trans hb3⟩
          case measure => simp [intOf]; omega
        · obtain rfl : k = its.length := by omega
          rw [List.take_length] at ho
          have r6 : Rdr wr p (.slice oa nn cp) (.slice ra rn rc) dn mu 0 0 := (hbl.block p hpw).trans HFm.out.rd
          obtain ⟨_, _, _, _, g5, _, gz⟩ := r6.cells
          have g5z := gz 5
          have hss := names_sls ho hpw (.int .i64 Fo)
          have HN := hid (bright_any _ _ _ hss)
          rw [HG.out.rise] at HN
          have HX := hid (And.intro hbl (And.intro ho r6))
          clear hss hbl ho r6 gz
          go_wp2_with fail
          refine HN.out.mono ?_
          rintro e w' ⟨rfl, rfl⟩
          go_wp2
          go_ret
          have hbl := HX.out.1
          have ow := HFm.out.own.below hbl (Nat.le_refl _)
          exact ⟨rfl, _, heap_set1 wr p 5 _ _ _ _ HX.out.2.2, ⟨ownsRow_setCell_below ow.1 (a := ⟨p, 5, none⟩) hpl _, ow.2⟩, (HFm.out.kept.trans (.of_below hbl fun _ h _ => h)).trans (Kept.set wr p 5 _ fun hn => hn rfl), (HFm.out.bel.trans (hbl.mono (Nat.le_of_lt hpw))).setCell (p := ⟨p, 5, none⟩) (Nat.le_refl _) _⟩
end Go.Proofs.Ytoccgpddmhhlgaa
