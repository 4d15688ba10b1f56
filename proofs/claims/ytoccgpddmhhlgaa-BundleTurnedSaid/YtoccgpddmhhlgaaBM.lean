import Derived.Test.YtoccgpddmhhlgaaBL
import Derived.Test.YtoccgpddmhhlgaaR
namespace Go.Mx
open Go.RowKit
set_option linter.unusedSimpArgs false
set_option linter.unusedVariables false
/-- 'append(out, xs...)' in a drawn region walked by go_region_held3 -/
theorem step_append_sl {P : Program} (w : World) {ops : Array Oper} {o : Oper} {a : Act} {K : Act → World → Prop} {Q : Exit → Act → World → Prop} {E : Prop} (hgd : o.guard = none) (s x : Operand) (t e : TypeId)
    (ho : o.op = .call { callee := .builtin .append, args := #[s, x], argTypes := #[t, t] })
    (ht : P.underlying t = some (.slice e)) (hi : (P.info? e).map (fun i => (i.zero, i.size, i.bytes)) = some (some (.int .u8 0), 1, 1))
    (base : Nat) (v : Value) (l : List UInt8) (hs : a.eval s = v) (hown : OwnB w base e v l) (xv : Value) (bs : List UInt8) (B : Nat) (hx : a.eval x = xv) (hsl : SlB w B xv bs)
    (hlen : l.length + bs.length ≤ 140737488355328) (hB : base ≤ w.heap.size)
    (h : ∀ v' w', OwnB w' base e v' (l ++ bs) → Below base w w' → K (a.put o.dst v') w') : if Region.wanted o (yielded ops a.tmps) = true then Oper.wp P o a w K Q else E := by
  have hw : Region.wanted o (yielded ops a.tmps) = true := by simp [Region.wanted, hgd]
  rw [if_pos hw]
  exact op_append_sl w s x t e ho ht hi base v l hs hown xv bs B hx hsl hlen hB h
end Go.Mx
namespace Go.Proofs.Ytoccgpddmhhlgaa
open Go.RowKit Go.Mx Go.Crc Go.Str Go.Bun
set_option linter.unusedSimpArgs false
set_option linter.unusedVariables false

theorem rise_chain (l : List (List UInt8)) (h : rise l = true) (i : Nat) : ∀ d, i + d + 1 < l.length → lss (l.getD i []) (l.getD (i + d + 1) []) = true := by
  have hr := (rise_iff l).1 h
  have one : ∀ j, j + 1 < l.length → lss (l.getD j []) (l.getD (j + 1) []) = true := by
    intro j hj
    have := hr (j + 1) hj
    unfold riseAt at this
    simp at this
    have h2 := this.2
    simpa using h2
  intro d
  induction d with
  | zero => intro hd; exact one i hd
  | succ d ih => intro hd; exact lss_trans (ih (by omega)) (by have := one (i + d + 1) (by omega); rwa [show i + d + 1 + 1 = i + (d + 1) + 1 by omega] at this)
theorem rise_lt (its : List Itm) (h : Good its) (i k : Nat) (hik : i < k) (hk : k < its.length) : lss (its.getD i default).name (its.getD k default).name = true := by
  have := rise_chain _ h.rise i (k - i - 1) (by simp; omega)
  rw [show i + (k - i - 1) + 1 = k by omega] at this
  have e : ∀ j, j < its.length → (its.map (·.name)).getD j [] = (its.getD j default).name := fun j hj => by simp [List.getD_eq_getElem?_getD, List.getElem?_map, List.getElem?_eq_getElem hj]
  rw [e i (by omega), e k hk] at this
  exact this

/-- Find's answer -/
def FRes (its : List Itm) (nm : List UInt8) (e : Ending) (w' : World) : Prop :=
  (∃ k, k < its.length ∧ (its.getD k default).name = nm ∧ (((sum (its.getD k default).data).toNat = (its.getD k default).s ∧ ∃ v, e = .returned (.tuple #[v, .int .i64 0]) ∧ SlB w' w'.heap.size v (its.getD k default).data) ∨ ((sum (its.getD k default).data).toNat ≠ (its.getD k default).s ∧ e = .returned (.tuple #[.slice none 0 0, .int .i64 13])))) ∨
  ((∀ k, k < its.length → (its.getD k default).name ≠ nm) ∧ e = .returned (.tuple #[.slice none 0 0, .int .i64 4]))

set_option maxRecDepth 100000 in
set_option maxHeartbeats 2000000 in
theorem bfind_any (its : List Itm) (hg : Good its) (bv : Value) (nm : List UInt8) (w : World) (hb : SlB w w.heap.size bv (bunB its)) :
    Calls Try.prog 29 #[bv, .string ⟨nm.toArray⟩] w fun e w' => Below w.heap.size w w' ∧ FRes its nm e w' := by
  have hmf : ∀ (fn : Fn) (first cap : Array Value) (w : World), (Instr.makeFunc fn first cap).run Try.prog w = .ok (.func fn first cap) w := fun _ _ _ _ => rfl
  have HG := hid hg
  have hf := hg.few
  obtain ⟨w1, hw1⟩ : ∃ w1, w1 = w.alloc (.cells #[.string ⟨nm.toArray⟩] 9) := ⟨_, rfl⟩
  have hz1 : w1.heap.size = w.heap.size + 1 := by rw [hw1]; simp
  have hb1 : Below w.heap.size w w1 := by rw [hw1]; exact (Below.refl _ _).alloc (Nat.le_refl _) _
  have q1 : w1.cell? ⟨w.heap.size, 0, none⟩ = some (.string ⟨nm.toArray⟩) := by rw [hw1]; exact cell_alloc1 _ _ _
  obtain ⟨w2, hw2⟩ : ∃ w2, w2 = w1.alloc (.cells (rcells bv (.slice none 0 0) 0 0 0 0) 95) := ⟨_, rfl⟩
  have hb2 : Below w1.heap.size w1 w2 := by rw [hw2]; exact (Below.refl _ _).alloc (Nat.le_refl _) _
  have hz2 : w2.heap.size = w.heap.size + 2 := by rw [hw2]; simp; omega
  have hr2 : Rdr w2 (w.heap.size + 1) bv (.slice none 0 0) 0 0 0 0 := by rw [hw2, ← hz1]; exact alloc_new w1 _
  have HX := hid (bindex_any its hg (w.heap.size + 1) bv w2 hr2 (((hb.below hb1 (Nat.le_refl _)).below hb2 (by omega)).mono (by omega)))
  have q2 : w2.cell? ⟨w.heap.size, 0, none⟩ = some (.string ⟨nm.toArray⟩) := (hb2.cell (p := ⟨w.heap.size, 0, none⟩) (by show w.heap.size < w1.heap.size; omega)).trans q1
  have hb02 : Below w.heap.size w w2 := hb1.trans (hb2.mono (by omega))
  have HB := hid (And.intro hb hb02)
  obtain ⟨oa, nn, cp, rfl⟩ := slB_shape hb
  have HW := hid (And.intro hw1 hw2)
  rw [hw1] at hw2
  clear hb hb1 hb2 hg q1 hr2 hw1 hb02
  go_enter Try.func29, Try.ntmps29
  go_wp2_with fail
  unfold rcells at hw2
  rw [← hw2]
  clear hw2
  refine HX.out.mono ?_
  rintro e w3 ⟨rv, rfl, hix⟩
  have hz3 := hix.kept.size
  have q3 : w3.cell? ⟨w.heap.size, 0, none⟩ = some (.string ⟨nm.toArray⟩) := (hix.kept.cell (by omega) (by omega)).trans q2
  have hb3 : Below w.heap.size w w3 := HB.out.2.trans (hix.bel.mono (by omega))
  have hrv : ∃ oa n c, rv = .slice oa n c := by
    rcases hix.own.shape with ⟨rfl, _⟩ | ⟨g, c, rfl, _⟩
    · exact ⟨_, _, _, rfl⟩
    · exact ⟨_, _, _, rfl⟩
  obtain ⟨ra, rn, rc, rfl⟩ := hrv
  have hln := hix.own.slG.len (P := Try.prog) (ty := 3) Try.under93
  rw [irows_len] at hln
  have hsl := hix.own.slG
  obtain ⟨w4, hw4⟩ : ∃ x, x = w3.alloc (.cells #[.slice ra rn rc] 93) := ⟨_, rfl⟩
  have hb4 : Below w3.heap.size w3 w4 := by rw [hw4]; exact (Below.refl _ _).alloc (Nat.le_refl _) _
  have a4 : w4.cell? ⟨w3.heap.size, 0, none⟩ = some (.slice ra rn rc) := by rw [hw4]; exact cell_alloc1 _ _ _
  have hz4 : w4.heap.size = w3.heap.size + 1 := by rw [hw4]; simp
  have q4 : w4.cell? ⟨w.heap.size, 0, none⟩ = some (.string ⟨nm.toArray⟩) := (hb4.cell (p := ⟨w.heap.size, 0, none⟩) (by show w.heap.size < w3.heap.size; omega)).trans q3
  have hsl4 := (hsl.below hb4 (Nat.le_refl _)).mono (by omega : w3.heap.size ≤ w4.heap.size)
  have HS := hid (search_any its.length (fun t => !lss (its.getD t default).name nm) #[.pointer (some ⟨w3.heap.size, 0, none⟩), .pointer (some ⟨w.heap.size, 0, none⟩)] w4 (by omega)
    (fun w' i hb' hi => find1_any its _ nm w3.heap.size w.heap.size i w' ((hb'.cell (p := ⟨w3.heap.size, 0, none⟩) (by show w3.heap.size < w4.heap.size; omega)).trans a4) ((hb'.cell (p := ⟨w.heap.size, 0, none⟩) (by show w.heap.size < w4.heap.size; omega)).trans q4) ((hsl4.below hb' (Nat.le_refl _)).mono hb'.size) hi)
    (fun a b hab hb' ha => by
      rcases Nat.lt_or_ge a b with hlt | hge
      · have h1 := rise_lt its HG.out a b hlt hb'
        have ha' : lss (its.getD a default).name nm = false := by simpa using ha
        show (!lss (its.getD b default).name nm) = true
        cases h2 : lss (its.getD b default).name nm
        · rfl
        · rw [lss_trans h1 h2] at ha'; cases ha'
      · have : a = b := by omega
        subst this; exact ha))
  have a4' : (w3.alloc (.cells #[.slice ra rn rc] 93)).cell? ⟨w3.heap.size, 0, none⟩ = some (.slice ra rn rc) := by rw [← hw4]; exact a4
  have HI := hid (And.intro hsl4 hb3)
  have HIX := hid hix
  clear hix hsl hsl4 hb3 q2 q3
  go_wp2_with fail
  rw [← hw4]
  clear hw4 a4'
  refine HS.out.mono ?_
  rintro e w5 ⟨i, rfl, hi, F1, F2, hb5⟩
  have a5 : w5.cell? ⟨w3.heap.size, 0, none⟩ = some (.slice ra rn rc) := (hb5.cell (p := ⟨w3.heap.size, 0, none⟩) (by show w3.heap.size < w4.heap.size; omega)).trans a4
  have q5 : w5.cell? ⟨w.heap.size, 0, none⟩ = some (.string ⟨nm.toArray⟩) := (hb5.cell (p := ⟨w.heap.size, 0, none⟩) (by show w.heap.size < w4.heap.size; omega)).trans q4
  have hbX : Below w.heap.size w w5 := HI.out.2.trans ((hb4.mono (by omega)).trans (hb5.mono (by omega)))
  have HZ := hid (And.intro hbX (And.intro F1 F2))
  have hsl5 := (HI.out.1.below hb5 (Nat.le_refl _)).mono hb5.size
  clear a4 q4 F1 F2 hbX hz1 hz2
  by_cases hil : i < its.length
  · obtain ⟨b, o, hbb, hia, i0, i1, i2, i3⟩ := irow_at hsl5 i hil
    have t1 : ((i : Int) == (its.length : Int)) = false := by simp; omega
    have hrow := hid (And.intro (HG.out.row i hil) (And.intro (from_mono its i hil) (data_at its i hil)))
    obtain ⟨it, hit⟩ : ∃ x, x = its.getD i default := ⟨_, rfl⟩
    rw [← hit] at i0 i2 i3
    have HT := hid hit
    obtain ⟨s, da, sm⟩ := it
    simp only at i0 i2 i3
    obtain ⟨X, hX⟩ : ∃ x, x = from_ its i := ⟨_, rfl⟩
    rw [← hX] at i1
    have HXX := hid hX
    clear hit hX hsl5
    by_cases hnm : s = nm
    · subst hnm
      go_wp2_with fail
      go_quiet (fail)
      rename_i nq
      go_wp2_with fail
      have hb6 : Below w5.heap.size w5 (w5.drewN nq) := below_drewN (Below.refl _ _) nq
      obtain ⟨w6, hw6⟩ : ∃ x, x = w5.drewN nq := ⟨_, rfl⟩
      rw [← hw6] at hb6 ⊢
      have hz5 := hb5.size
      have hz6 := hb6.size
      have hb06 : Below w.heap.size w w6 := HZ.out.1.trans (hb6.mono HZ.out.1.size)
      obtain ⟨D, hD⟩ : ∃ x, x = da.length := ⟨_, rfl⟩
      have hR := hrow.out
      have hrl := hR.1.len
      have hfm := hR.2.1
      have hda := hR.2.2
      have hbs := end_len its
      have hsh := HG.out.short
      rw [← HT.out, ← HXX.out] at hfm hda
      simp only at hfm hda
      rw [← hD] at hfm hda i2
      have hfe : fromOf its ≤ endOf its := by have := pos_end its 0; rw [pos_zero] at this; exact this
      have hbb6 := (HB.out.1.below hb06 (Nat.le_refl _)).mono hb06.size
      obtain ⟨v6, hv6, hs6⟩ := hbb6.part (P := Try.prog) (t := 25) Try.underlying25 size5 X (X + D) (by omega) (by omega)
      rw [show ((bunB its).take (X + D)).drop X = da by rw [List.drop_take, ← atB_eq, show X + D - X = D by omega]; exact hda] at hv6
      have hs6' : ∀ w' (k k' : IntKind), (Instr.slice 25 (.slice oa nn cp) (some (.int k (X : Int))) (some (.int k' ((X : Int) + (D : Int)))) none).run Try.prog w' = .ok v6 w' := fun w' k k' => hs6 w' k k'
      have hwX : IntKind.i64.wrap ((X : Int) + (D : Int)) = (X : Int) + D := IntWalk.i64_in _ (by omega)
      have M0 : ∀ w', Below w6.heap.size w6 w' → w'.cell? ⟨w3.heap.size, 0, none⟩ = some (.slice ra rn rc) := fun w' h => (h.cell (p := ⟨w3.heap.size, 0, none⟩) (by show w3.heap.size < _; omega)).trans ((hb6.cell (p := ⟨w3.heap.size, 0, none⟩) (by show w3.heap.size < _; omega)).trans a5)
      have MX : ∀ w', Below w6.heap.size w6 w' → w'.cell? ⟨b, o + 1, none⟩ = some (.int .i64 X) := fun w' h => (h.cell (p := ⟨b, o + 1, none⟩) (by show b < _; omega)).trans ((hb6.cell (p := ⟨b, o + 1, none⟩) (by show b < _; omega)).trans i1)
      have MD : ∀ w', Below w6.heap.size w6 w' → w'.cell? ⟨b, o + 2, none⟩ = some (.int .i64 D) := fun w' h => (h.cell (p := ⟨b, o + 2, none⟩) (by show b < _; omega)).trans ((hb6.cell (p := ⟨b, o + 2, none⟩) (by show b < _; omega)).trans i2)
      have MS : ∀ w', Below w6.heap.size w6 w' → w'.cell? ⟨b, o + 3, none⟩ = some (.int .u32 sm) := fun w' h => (h.cell (p := ⟨b, o + 3, none⟩) (by show b < _; omega)).trans ((hb6.cell (p := ⟨b, o + 3, none⟩) (by show b < _; omega)).trans i3)
      have hv6X : SlB (w6.drew.alloc (.cells #[] 5)) w6.heap.size v6 da := hv6.below ((Below.refl w6.heap.size w6).drew.alloc (Nat.le_refl _) _) (Nat.le_refl _)
      have hdl : da.length ≤ 524288 := by omega
      have hll : ([] : List UInt8).length + da.length ≤ 140737488355328 := by simp; omega
      have hBX : w6.heap.size ≤ (w6.drew.alloc (.cells #[] 5)).heap.size := by simp
      have HE := hid (And.intro hb06 hD)
      have hmp := own_empty w6.drew 5
      clear hw6 hs6 hbb6 hbs hsh hR hrl hda hfe a5 q5 i0 i1 i2 i3 hb6 t1 hD hfm
      go_region_held3 (fun w' => Below w6.heap.size w6 w') (first | exact (Below.refl _ _).drew | exact (Below.refl _ _).drew.alloc (Nat.le_refl _) _ | assumption | exact Below.drew (by assumption))
        (first | (refine step_append_sl _ (by rfl) _ _ 25 5 rfl Try.underlying25 Try.info5 w6.heap.size _ [] rfl hmp v6 da w6.heap.size rfl hv6X hll hBX ?_; intro v7 w7 ho7 hb7; have hb7 := ((Below.refl w6.heap.size w6).drew.alloc (Nat.le_refl _) (.cells #[] 5)).trans hb7))
      have ho7' : SlB w7 w7.heap.size v7 da := by simpa using ho7.slB
      have HX7 := hid (And.intro ho7' hb7)
      have hz7 := hb7.size
      have K0 : ∀ w', Below w7.heap.size w7 w' → w'.cell? ⟨w3.heap.size, 0, none⟩ = some (.slice ra rn rc) := fun w' h => M0 w' (hb7.trans (h.mono hz7))
      have KS : ∀ w', Below w7.heap.size w7 w' → w'.cell? ⟨b, o + 3, none⟩ = some (.int .u32 sm) := fun w' h => MS w' (hb7.trans (h.mono hz7))
      obtain ⟨T, hT⟩ : ∃ x, x = (sum da).toNat := ⟨_, rfl⟩
      have HS7 := hid (fun w' (h : Below w7.heap.size w7 w') => bSum' da v7 w7 w' h ((ho7'.below h (Nat.le_refl _)).mono h.size) (by omega))
      rw [← hT] at HS7
      obtain ⟨va, vn, vc, rfl⟩ := slB_shape ho7'
      have HTT := hid hT
      clear ho7 ho7' hb7 M0 MX MD MS hmp hv6X hv6 hs6' hwX hT
      by_cases hsm : T = sm
      · have t3 : ((T : Int) == (sm : Int)) = true := by simp; omega
        have HSM := hid hsm
        clear hsm
        go_wp2_with fail
        go_region_held3 (fun w' => Below w7.heap.size w7 w') (first | exact (Below.refl _ _).drew | assumption | exact Below.drew (by assumption))
          (first | (go_at_call 36; refine (HS7.out _ (by assumption)).mono ?_; rintro e w9 ⟨rfl, hb9, hk9⟩; clear hk9))
        go_wp2_with fail
        go_ret2
        have hbl : Below w.heap.size w w9 := HE.out.1.trans ((HX7.out.2.trans (hb9.mono HX7.out.2.size)).mono HE.out.1.size)
        exact ⟨hbl, .inl ⟨i, hil, by rw [← HT.out], .inl ⟨by rw [← HT.out]; show (sum da).toNat = sm; rw [← HTT.out]; exact HSM.out, _, rfl, by rw [← HT.out]; exact (HX7.out.1.below hb9 (Nat.le_refl _)).mono hb9.size⟩⟩⟩
      · have t3 : ((T : Int) == (sm : Int)) = false := by simp; omega
        have HSM := hid hsm
        clear hsm
        go_wp2_with fail
        go_region_held3 (fun w' => Below w7.heap.size w7 w') (first | exact (Below.refl _ _).drew | assumption | exact Below.drew (by assumption))
          (first | (go_at_call 36; refine (HS7.out _ (by assumption)).mono ?_; rintro e w9 ⟨rfl, hb9, hk9⟩; clear hk9))
        go_wp2_with fail
        go_ret2
        have hbl : Below w.heap.size w w9 := HE.out.1.trans ((HX7.out.2.trans (hb9.mono HX7.out.2.size)).mono HE.out.1.size)
        exact ⟨hbl, .inl ⟨i, hil, by rw [← HT.out], .inr ⟨by rw [← HT.out]; show (sum da).toNat ≠ sm; rw [← HTT.out]; exact HSM.out, rfl⟩⟩⟩
    · have t2 : (s == nm) = false := by simpa using hnm
      go_wp2_with fail
      go_quiet (fail)
      rename_i nq
      go_wp2_with fail
      go_ret2
      refine ⟨HZ.out.1.trans ((below_drewN (Below.refl _ _) nq).mono HZ.out.1.size), .inr ⟨fun k hk hkn => ?_, rfl⟩⟩
      have hin : (its.getD i default).name = s := by rw [← HT.out]
      have F2 := HZ.out.2.2
      have hsn : lss s nm = false := by have := F2 i (Nat.le_refl _) hil; simp only [hin] at this; simpa using this
      rcases Nat.lt_trichotomy k i with h | h | h
      · have := HZ.out.2.1 k h
        simp only [hkn, lss_irr] at this
        cases this
      · subst h; rw [hin] at hkn; exact hnm hkn
      · have := rise_lt its HG.out i k h hk
        rw [hin, hkn, hsn] at this
        cases this
  · obtain rfl : i = its.length := by omega
    go_wp2_with fail
    go_quiet (fail)
    rename_i nq
    go_wp2_with fail
    go_ret2
    refine ⟨HZ.out.1.trans ((below_drewN (Below.refl _ _) nq).mono HZ.out.1.size), .inr ⟨fun k hk hkn => ?_, rfl⟩⟩
    have := HZ.out.2.1 k hk
    simp only [hkn, lss_irr] at this
    cases this
end Go.Proofs.Ytoccgpddmhhlgaa
