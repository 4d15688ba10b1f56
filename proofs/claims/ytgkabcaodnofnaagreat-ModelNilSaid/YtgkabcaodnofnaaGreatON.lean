import Derived.Test.YtgkabcaodnofnaaGreatSD
import Derived.Defers
import Derived.Laws.Pointers
import Derived.Laws.LoneSync
import Derived.RegionTactic
import Derived.RegionCalls
import Derived.ChangeAlike
import Derived.Laws.EntriesVeiled
namespace Go.Proofs.YtgkabcaodnofnaaGreat
open Go.RowKit Go.Mx Go.Md
set_option linter.unusedVariables false
set_option linter.unusedSimpArgs false
theorem tab_len (mb k : Nat) : ((tabL mb).take k).length < maxLen := by
  have h : (tabL mb).length = 26 := rfl
  rw [List.length_take, h]; unfold maxLen; omega
theorem upd_le {l : ML Int} {n : Nat} (k : Int) (v : Value) (h : l.length ≤ n) : (Mx.upd l k v).length ≤ n + 1 := by rw [upd_len]; split <;> omega
theorem tabK {w a b : World} (h : Kept w a (fun _ => True)) (hg : a.grownBy b (some w.heap.size)) : Kept w b (fun _ => True) :=
  ⟨Nat.le_trans h.size hg.size, fun k hk _ => (hg.block k (Nat.lt_of_lt_of_le hk h.size) (fun e => by have := Option.some.inj e; omega)).trans (h.block k hk trivial), hg.os.trans h.st.1, hg.tape.trans h.st.2.1, hg.output.trans h.st.2.2⟩
set_option maxRecDepth 100000 in
set_option maxHeartbeats 4000000 in
/-- function 35 -/
theorem fill_any (mb pl : Nat) (w : World) (C : Array Value) (p0 : w.cell? ⟨pl, 0, none⟩ = some (pt mb)) (hpl : pl < w.heap.size) (hm : w.heap[mb]? = some (.cells C 73 (0, 0))) (hC : ∃ v, C[6]? = some v) :
    Calls Tryz.prog 35 #[pt pl] w fun e w' => e = .returned (.tuple #[]) ∧ GM EI Tryz.prog 3 w' w.heap.size (tabL mb) ∧ Kept w w' (· ≠ mb) ∧ w'.heap[mb]? = some (.cells (C.setIfInBounds 6 (.map (some w.heap.size))) 73 (0, 0)) := by
  obtain ⟨cv, hcv⟩ := hC
  obtain ⟨w1, hw1⟩ : ∃ w1, w1 = w.alloc (.map #[] 0) := ⟨_, rfl⟩
  have k1 : Kept w w1 (fun _ => True) := by rw [hw1]; exact Kept.alloc _ _ _
  have p1 : w1.cell? ⟨pl, 0, none⟩ = some (pt mb) := (k1.cell hpl trivial).trans p0
  have g1 : GM EI Tryz.prog 3 w1 w.heap.size ((tabL mb).take 0) := by rw [hw1]; exact GM.made EI Tryz.prog 3 w
  obtain ⟨w2, r2, g2, gr2, sz2, fz2⟩ := g1.upd K3 (t := 71) Tryz.underlying71 1 (by show (Lit.int .i64 1).wf = true; decide) (fnV 36 mb) rfl (tab_len mb 0)
  have q2 : (Instr.mapUpdate 71 (.map (some w.heap.size)) (.int .i64 1) (.func (.func 36) #[pt mb] #[])).run Tryz.prog w1 = .ok () w2 := r2
  rw [show Mx.upd ((tabL mb).take 0) 1 (fnV 36 mb) = (tabL mb).take 1 from rfl] at g2
  have k2 : Kept w w2 (fun _ => True) := tabK k1 gr2
  have p2 : w2.cell? ⟨pl, 0, none⟩ = some (pt mb) := (k2.cell hpl trivial).trans p0
  clear r2 gr2 sz2 fz2
  obtain ⟨w3, r3, g3, gr3, sz3, fz3⟩ := g2.upd K3 (t := 71) Tryz.underlying71 2 (by show (Lit.int .i64 2).wf = true; decide) (fnV 37 mb) rfl (tab_len mb 1)
  have q3 : (Instr.mapUpdate 71 (.map (some w.heap.size)) (.int .i64 2) (.func (.func 37) #[pt mb] #[])).run Tryz.prog w2 = .ok () w3 := r3
  rw [show Mx.upd ((tabL mb).take 1) 2 (fnV 37 mb) = (tabL mb).take 2 from rfl] at g3
  have k3 : Kept w w3 (fun _ => True) := tabK k2 gr3
  have p3 : w3.cell? ⟨pl, 0, none⟩ = some (pt mb) := (k3.cell hpl trivial).trans p0
  clear r3 gr3 sz3 fz3
  obtain ⟨w4, r4, g4, gr4, sz4, fz4⟩ := g3.upd K3 (t := 71) Tryz.underlying71 3 (by show (Lit.int .i64 3).wf = true; decide) (fnV 38 mb) rfl (tab_len mb 2)
  have q4 : (Instr.mapUpdate 71 (.map (some w.heap.size)) (.int .i64 3) (.func (.func 38) #[pt mb] #[])).run Tryz.prog w3 = .ok () w4 := r4
  rw [show Mx.upd ((tabL mb).take 2) 3 (fnV 38 mb) = (tabL mb).take 3 from rfl] at g4
  have k4 : Kept w w4 (fun _ => True) := tabK k3 gr4
  have p4 : w4.cell? ⟨pl, 0, none⟩ = some (pt mb) := (k4.cell hpl trivial).trans p0
  clear r4 gr4 sz4 fz4
  obtain ⟨w5, r5, g5, gr5, sz5, fz5⟩ := g4.upd K3 (t := 71) Tryz.underlying71 4 (by show (Lit.int .i64 4).wf = true; decide) (fnV 39 mb) rfl (tab_len mb 3)
  have q5 : (Instr.mapUpdate 71 (.map (some w.heap.size)) (.int .i64 4) (.func (.func 39) #[pt mb] #[])).run Tryz.prog w4 = .ok () w5 := r5
  rw [show Mx.upd ((tabL mb).take 3) 4 (fnV 39 mb) = (tabL mb).take 4 from rfl] at g5
  have k5 : Kept w w5 (fun _ => True) := tabK k4 gr5
  have p5 : w5.cell? ⟨pl, 0, none⟩ = some (pt mb) := (k5.cell hpl trivial).trans p0
  clear r5 gr5 sz5 fz5
  obtain ⟨w6, r6, g6, gr6, sz6, fz6⟩ := g5.upd K3 (t := 71) Tryz.underlying71 5 (by show (Lit.int .i64 5).wf = true; decide) (fnV 40 mb) rfl (tab_len mb 4)
  have q6 : (Instr.mapUpdate 71 (.map (some w.heap.size)) (.int .i64 5) (.func (.func 40) #[pt mb] #[])).run Tryz.prog w5 = .ok () w6 := r6
  rw [show Mx.upd ((tabL mb).take 4) 5 (fnV 40 mb) = (tabL mb).take 5 from rfl] at g6
  have k6 : Kept w w6 (fun _ => True) := tabK k5 gr6
  have p6 : w6.cell? ⟨pl, 0, none⟩ = some (pt mb) := (k6.cell hpl trivial).trans p0
  clear r6 gr6 sz6 fz6
  obtain ⟨w7, r7, g7, gr7, sz7, fz7⟩ := g6.upd K3 (t := 71) Tryz.underlying71 6 (by show (Lit.int .i64 6).wf = true; decide) (fnV 41 mb) rfl (tab_len mb 5)
  have q7 : (Instr.mapUpdate 71 (.map (some w.heap.size)) (.int .i64 6) (.func (.func 41) #[pt mb] #[])).run Tryz.prog w6 = .ok () w7 := r7
  rw [show Mx.upd ((tabL mb).take 5) 6 (fnV 41 mb) = (tabL mb).take 6 from rfl] at g7
  have k7 : Kept w w7 (fun _ => True) := tabK k6 gr7
  have p7 : w7.cell? ⟨pl, 0, none⟩ = some (pt mb) := (k7.cell hpl trivial).trans p0
  clear r7 gr7 sz7 fz7
  obtain ⟨w8, r8, g8, gr8, sz8, fz8⟩ := g7.upd K3 (t := 71) Tryz.underlying71 7 (by show (Lit.int .i64 7).wf = true; decide) (fnV 42 mb) rfl (tab_len mb 6)
  have q8 : (Instr.mapUpdate 71 (.map (some w.heap.size)) (.int .i64 7) (.func (.func 42) #[pt mb] #[])).run Tryz.prog w7 = .ok () w8 := r8
  rw [show Mx.upd ((tabL mb).take 6) 7 (fnV 42 mb) = (tabL mb).take 7 from rfl] at g8
  have k8 : Kept w w8 (fun _ => True) := tabK k7 gr8
  have p8 : w8.cell? ⟨pl, 0, none⟩ = some (pt mb) := (k8.cell hpl trivial).trans p0
  clear r8 gr8 sz8 fz8
  obtain ⟨w9, r9, g9, gr9, sz9, fz9⟩ := g8.upd K3 (t := 71) Tryz.underlying71 8 (by show (Lit.int .i64 8).wf = true; decide) (fnV 43 mb) rfl (tab_len mb 7)
  have q9 : (Instr.mapUpdate 71 (.map (some w.heap.size)) (.int .i64 8) (.func (.func 43) #[pt mb] #[])).run Tryz.prog w8 = .ok () w9 := r9
  rw [show Mx.upd ((tabL mb).take 7) 8 (fnV 43 mb) = (tabL mb).take 8 from rfl] at g9
  have k9 : Kept w w9 (fun _ => True) := tabK k8 gr9
  have p9 : w9.cell? ⟨pl, 0, none⟩ = some (pt mb) := (k9.cell hpl trivial).trans p0
  clear r9 gr9 sz9 fz9
  obtain ⟨w10, r10, g10, gr10, sz10, fz10⟩ := g9.upd K3 (t := 71) Tryz.underlying71 9 (by show (Lit.int .i64 9).wf = true; decide) (fnV 44 mb) rfl (tab_len mb 8)
  have q10 : (Instr.mapUpdate 71 (.map (some w.heap.size)) (.int .i64 9) (.func (.func 44) #[pt mb] #[])).run Tryz.prog w9 = .ok () w10 := r10
  rw [show Mx.upd ((tabL mb).take 8) 9 (fnV 44 mb) = (tabL mb).take 9 from rfl] at g10
  have k10 : Kept w w10 (fun _ => True) := tabK k9 gr10
  have p10 : w10.cell? ⟨pl, 0, none⟩ = some (pt mb) := (k10.cell hpl trivial).trans p0
  clear r10 gr10 sz10 fz10
  obtain ⟨w11, r11, g11, gr11, sz11, fz11⟩ := g10.upd K3 (t := 71) Tryz.underlying71 10 (by show (Lit.int .i64 10).wf = true; decide) (fnV 45 mb) rfl (tab_len mb 9)
  have q11 : (Instr.mapUpdate 71 (.map (some w.heap.size)) (.int .i64 10) (.func (.func 45) #[pt mb] #[])).run Tryz.prog w10 = .ok () w11 := r11
  rw [show Mx.upd ((tabL mb).take 9) 10 (fnV 45 mb) = (tabL mb).take 10 from rfl] at g11
  have k11 : Kept w w11 (fun _ => True) := tabK k10 gr11
  have p11 : w11.cell? ⟨pl, 0, none⟩ = some (pt mb) := (k11.cell hpl trivial).trans p0
  clear r11 gr11 sz11 fz11
  obtain ⟨w12, r12, g12, gr12, sz12, fz12⟩ := g11.upd K3 (t := 71) Tryz.underlying71 11 (by show (Lit.int .i64 11).wf = true; decide) (fnV 46 mb) rfl (tab_len mb 10)
  have q12 : (Instr.mapUpdate 71 (.map (some w.heap.size)) (.int .i64 11) (.func (.func 46) #[pt mb] #[])).run Tryz.prog w11 = .ok () w12 := r12
  rw [show Mx.upd ((tabL mb).take 10) 11 (fnV 46 mb) = (tabL mb).take 11 from rfl] at g12
  have k12 : Kept w w12 (fun _ => True) := tabK k11 gr12
  have p12 : w12.cell? ⟨pl, 0, none⟩ = some (pt mb) := (k12.cell hpl trivial).trans p0
  clear r12 gr12 sz12 fz12
  obtain ⟨w13, r13, g13, gr13, sz13, fz13⟩ := g12.upd K3 (t := 71) Tryz.underlying71 12 (by show (Lit.int .i64 12).wf = true; decide) (fnV 47 mb) rfl (tab_len mb 11)
  have q13 : (Instr.mapUpdate 71 (.map (some w.heap.size)) (.int .i64 12) (.func (.func 47) #[pt mb] #[])).run Tryz.prog w12 = .ok () w13 := r13
  rw [show Mx.upd ((tabL mb).take 11) 12 (fnV 47 mb) = (tabL mb).take 12 from rfl] at g13
  have k13 : Kept w w13 (fun _ => True) := tabK k12 gr13
  have p13 : w13.cell? ⟨pl, 0, none⟩ = some (pt mb) := (k13.cell hpl trivial).trans p0
  clear r13 gr13 sz13 fz13
  obtain ⟨w14, r14, g14, gr14, sz14, fz14⟩ := g13.upd K3 (t := 71) Tryz.underlying71 13 (by show (Lit.int .i64 13).wf = true; decide) (fnV 47 mb) rfl (tab_len mb 12)
  have q14 : (Instr.mapUpdate 71 (.map (some w.heap.size)) (.int .i64 13) (.func (.func 47) #[pt mb] #[])).run Tryz.prog w13 = .ok () w14 := r14
  rw [show Mx.upd ((tabL mb).take 12) 13 (fnV 47 mb) = (tabL mb).take 13 from rfl] at g14
  have k14 : Kept w w14 (fun _ => True) := tabK k13 gr14
  have p14 : w14.cell? ⟨pl, 0, none⟩ = some (pt mb) := (k14.cell hpl trivial).trans p0
  clear r14 gr14 sz14 fz14
  obtain ⟨w15, r15, g15, gr15, sz15, fz15⟩ := g14.upd K3 (t := 71) Tryz.underlying71 14 (by show (Lit.int .i64 14).wf = true; decide) (fnV 47 mb) rfl (tab_len mb 13)
  have q15 : (Instr.mapUpdate 71 (.map (some w.heap.size)) (.int .i64 14) (.func (.func 47) #[pt mb] #[])).run Tryz.prog w14 = .ok () w15 := r15
  rw [show Mx.upd ((tabL mb).take 13) 14 (fnV 47 mb) = (tabL mb).take 14 from rfl] at g15
  have k15 : Kept w w15 (fun _ => True) := tabK k14 gr15
  have p15 : w15.cell? ⟨pl, 0, none⟩ = some (pt mb) := (k15.cell hpl trivial).trans p0
  clear r15 gr15 sz15 fz15
  obtain ⟨w16, r16, g16, gr16, sz16, fz16⟩ := g15.upd K3 (t := 71) Tryz.underlying71 15 (by show (Lit.int .i64 15).wf = true; decide) (fnV 47 mb) rfl (tab_len mb 14)
  have q16 : (Instr.mapUpdate 71 (.map (some w.heap.size)) (.int .i64 15) (.func (.func 47) #[pt mb] #[])).run Tryz.prog w15 = .ok () w16 := r16
  rw [show Mx.upd ((tabL mb).take 14) 15 (fnV 47 mb) = (tabL mb).take 15 from rfl] at g16
  have k16 : Kept w w16 (fun _ => True) := tabK k15 gr16
  have p16 : w16.cell? ⟨pl, 0, none⟩ = some (pt mb) := (k16.cell hpl trivial).trans p0
  clear r16 gr16 sz16 fz16
  obtain ⟨w17, r17, g17, gr17, sz17, fz17⟩ := g16.upd K3 (t := 71) Tryz.underlying71 16 (by show (Lit.int .i64 16).wf = true; decide) (fnV 47 mb) rfl (tab_len mb 15)
  have q17 : (Instr.mapUpdate 71 (.map (some w.heap.size)) (.int .i64 16) (.func (.func 47) #[pt mb] #[])).run Tryz.prog w16 = .ok () w17 := r17
  rw [show Mx.upd ((tabL mb).take 15) 16 (fnV 47 mb) = (tabL mb).take 16 from rfl] at g17
  have k17 : Kept w w17 (fun _ => True) := tabK k16 gr17
  have p17 : w17.cell? ⟨pl, 0, none⟩ = some (pt mb) := (k17.cell hpl trivial).trans p0
  clear r17 gr17 sz17 fz17
  obtain ⟨w18, r18, g18, gr18, sz18, fz18⟩ := g17.upd K3 (t := 71) Tryz.underlying71 17 (by show (Lit.int .i64 17).wf = true; decide) (fnV 47 mb) rfl (tab_len mb 16)
  have q18 : (Instr.mapUpdate 71 (.map (some w.heap.size)) (.int .i64 17) (.func (.func 47) #[pt mb] #[])).run Tryz.prog w17 = .ok () w18 := r18
  rw [show Mx.upd ((tabL mb).take 16) 17 (fnV 47 mb) = (tabL mb).take 17 from rfl] at g18
  have k18 : Kept w w18 (fun _ => True) := tabK k17 gr18
  have p18 : w18.cell? ⟨pl, 0, none⟩ = some (pt mb) := (k18.cell hpl trivial).trans p0
  clear r18 gr18 sz18 fz18
  obtain ⟨w19, r19, g19, gr19, sz19, fz19⟩ := g18.upd K3 (t := 71) Tryz.underlying71 18 (by show (Lit.int .i64 18).wf = true; decide) (fnV 48 mb) rfl (tab_len mb 17)
  have q19 : (Instr.mapUpdate 71 (.map (some w.heap.size)) (.int .i64 18) (.func (.func 48) #[pt mb] #[])).run Tryz.prog w18 = .ok () w19 := r19
  rw [show Mx.upd ((tabL mb).take 17) 18 (fnV 48 mb) = (tabL mb).take 18 from rfl] at g19
  have k19 : Kept w w19 (fun _ => True) := tabK k18 gr19
  have p19 : w19.cell? ⟨pl, 0, none⟩ = some (pt mb) := (k19.cell hpl trivial).trans p0
  clear r19 gr19 sz19 fz19
  obtain ⟨w20, r20, g20, gr20, sz20, fz20⟩ := g19.upd K3 (t := 71) Tryz.underlying71 19 (by show (Lit.int .i64 19).wf = true; decide) (fnV 49 mb) rfl (tab_len mb 18)
  have q20 : (Instr.mapUpdate 71 (.map (some w.heap.size)) (.int .i64 19) (.func (.func 49) #[pt mb] #[])).run Tryz.prog w19 = .ok () w20 := r20
  rw [show Mx.upd ((tabL mb).take 18) 19 (fnV 49 mb) = (tabL mb).take 19 from rfl] at g20
  have k20 : Kept w w20 (fun _ => True) := tabK k19 gr20
  have p20 : w20.cell? ⟨pl, 0, none⟩ = some (pt mb) := (k20.cell hpl trivial).trans p0
  clear r20 gr20 sz20 fz20
  obtain ⟨w21, r21, g21, gr21, sz21, fz21⟩ := g20.upd K3 (t := 71) Tryz.underlying71 20 (by show (Lit.int .i64 20).wf = true; decide) (fnV 50 mb) rfl (tab_len mb 19)
  have q21 : (Instr.mapUpdate 71 (.map (some w.heap.size)) (.int .i64 20) (.func (.func 50) #[pt mb] #[])).run Tryz.prog w20 = .ok () w21 := r21
  rw [show Mx.upd ((tabL mb).take 19) 20 (fnV 50 mb) = (tabL mb).take 20 from rfl] at g21
  have k21 : Kept w w21 (fun _ => True) := tabK k20 gr21
  have p21 : w21.cell? ⟨pl, 0, none⟩ = some (pt mb) := (k21.cell hpl trivial).trans p0
  clear r21 gr21 sz21 fz21
  obtain ⟨w22, r22, g22, gr22, sz22, fz22⟩ := g21.upd K3 (t := 71) Tryz.underlying71 21 (by show (Lit.int .i64 21).wf = true; decide) (fnV 51 mb) rfl (tab_len mb 20)
  have q22 : (Instr.mapUpdate 71 (.map (some w.heap.size)) (.int .i64 21) (.func (.func 51) #[pt mb] #[])).run Tryz.prog w21 = .ok () w22 := r22
  rw [show Mx.upd ((tabL mb).take 20) 21 (fnV 51 mb) = (tabL mb).take 21 from rfl] at g22
  have k22 : Kept w w22 (fun _ => True) := tabK k21 gr22
  have p22 : w22.cell? ⟨pl, 0, none⟩ = some (pt mb) := (k22.cell hpl trivial).trans p0
  clear r22 gr22 sz22 fz22
  obtain ⟨w23, r23, g23, gr23, sz23, fz23⟩ := g22.upd K3 (t := 71) Tryz.underlying71 22 (by show (Lit.int .i64 22).wf = true; decide) (fnV 52 mb) rfl (tab_len mb 21)
  have q23 : (Instr.mapUpdate 71 (.map (some w.heap.size)) (.int .i64 22) (.func (.func 52) #[pt mb] #[])).run Tryz.prog w22 = .ok () w23 := r23
  rw [show Mx.upd ((tabL mb).take 21) 22 (fnV 52 mb) = (tabL mb).take 22 from rfl] at g23
  have k23 : Kept w w23 (fun _ => True) := tabK k22 gr23
  have p23 : w23.cell? ⟨pl, 0, none⟩ = some (pt mb) := (k23.cell hpl trivial).trans p0
  clear r23 gr23 sz23 fz23
  obtain ⟨w24, r24, g24, gr24, sz24, fz24⟩ := g23.upd K3 (t := 71) Tryz.underlying71 23 (by show (Lit.int .i64 23).wf = true; decide) (fnV 53 mb) rfl (tab_len mb 22)
  have q24 : (Instr.mapUpdate 71 (.map (some w.heap.size)) (.int .i64 23) (.func (.func 53) #[pt mb] #[])).run Tryz.prog w23 = .ok () w24 := r24
  rw [show Mx.upd ((tabL mb).take 22) 23 (fnV 53 mb) = (tabL mb).take 23 from rfl] at g24
  have k24 : Kept w w24 (fun _ => True) := tabK k23 gr24
  have p24 : w24.cell? ⟨pl, 0, none⟩ = some (pt mb) := (k24.cell hpl trivial).trans p0
  clear r24 gr24 sz24 fz24
  obtain ⟨w25, r25, g25, gr25, sz25, fz25⟩ := g24.upd K3 (t := 71) Tryz.underlying71 24 (by show (Lit.int .i64 24).wf = true; decide) (fnV 54 mb) rfl (tab_len mb 23)
  have q25 : (Instr.mapUpdate 71 (.map (some w.heap.size)) (.int .i64 24) (.func (.func 54) #[pt mb] #[])).run Tryz.prog w24 = .ok () w25 := r25
  rw [show Mx.upd ((tabL mb).take 23) 24 (fnV 54 mb) = (tabL mb).take 24 from rfl] at g25
  have k25 : Kept w w25 (fun _ => True) := tabK k24 gr25
  have p25 : w25.cell? ⟨pl, 0, none⟩ = some (pt mb) := (k25.cell hpl trivial).trans p0
  clear r25 gr25 sz25 fz25
  obtain ⟨w26, r26, g26, gr26, sz26, fz26⟩ := g25.upd K3 (t := 71) Tryz.underlying71 25 (by show (Lit.int .i64 25).wf = true; decide) (fnV 55 mb) rfl (tab_len mb 24)
  have q26 : (Instr.mapUpdate 71 (.map (some w.heap.size)) (.int .i64 25) (.func (.func 55) #[pt mb] #[])).run Tryz.prog w25 = .ok () w26 := r26
  rw [show Mx.upd ((tabL mb).take 24) 25 (fnV 55 mb) = (tabL mb).take 25 from rfl] at g26
  have k26 : Kept w w26 (fun _ => True) := tabK k25 gr26
  have p26 : w26.cell? ⟨pl, 0, none⟩ = some (pt mb) := (k26.cell hpl trivial).trans p0
  clear r26 gr26 sz26 fz26
  obtain ⟨w27, r27, g27, gr27, sz27, fz27⟩ := g26.upd K3 (t := 71) Tryz.underlying71 26 (by show (Lit.int .i64 26).wf = true; decide) (fnV 56 mb) rfl (tab_len mb 25)
  have q27 : (Instr.mapUpdate 71 (.map (some w.heap.size)) (.int .i64 26) (.func (.func 56) #[pt mb] #[])).run Tryz.prog w26 = .ok () w27 := r27
  rw [show Mx.upd ((tabL mb).take 25) 26 (fnV 56 mb) = (tabL mb).take 26 from rfl] at g27
  have k27 : Kept w w27 (fun _ => True) := tabK k26 gr27
  have p27 : w27.cell? ⟨pl, 0, none⟩ = some (pt mb) := (k27.cell hpl trivial).trans p0
  clear r27 gr27 sz27 fz27
  have hq27 : w27.heap[mb]? = some (.cells C 73 (0, 0)) := (k27.block mb (blk_lt hm) trivial).trans hm
  have c27 : w27.cell? ⟨mb, 6, none⟩ = some cv := by simp [World.cell?, hq27, hcv]
  have z27 : w27.frozen? ⟨mb, 6, none⟩ = false := by simp [World.frozen?, hq27]
  rw [hw1] at q2 p1
  have HW := hid hw1
  have hmm := @run_makeMap Tryz.prog
  have H := hid (And.intro g27 (And.intro k27 (And.intro hq27 hm)))
  clear hw1 g27 hq27 hm g1 k1 g2 k2 g3 k3 g4 k4 g5 k5 g6 k6 g7 k7 g8 k8 g9 k9 g10 k10 g11 k11 g12 k12 g13 k13 g14 k14 g15 k15 g16 k16 g17 k17 g18 k18 g19 k19 g20 k20 g21 k21 g22 k22 g23 k23 g24 k24 g25 k25 g26 k26 k27 hcv
  go_enter Tryz.func35, Tryz.ntmps35
  go_wp2_with fail
  go_end0
  obtain ⟨g27, k27, hq27, hm⟩ := H.out
  have g27 : GM EI Tryz.prog 3 w27 w.heap.size (tabL mb) := g27
  refine ⟨rfl, g27.block (Below.heap_setCell _ _ _ _ (by show w.heap.size ≠ mb; have := blk_lt hm; omega)), (k27.imp fun _ _ => trivial).trans (Kept.set _ _ _ _ (by simp)), ?_⟩
  rw [heap_setCell_at' w27 mb 6 _ _ 73 _ hq27]
end Go.Proofs.YtgkabcaodnofnaaGreat
