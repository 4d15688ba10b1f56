import Derived.Test.YtgkabcaodnofnaaGreatBK
namespace Go.Proofs.YtgkabcaodnofnaaGreat
open Go.RowKit Go.Mx Go.Md
set_option linter.unusedVariables false
set_option linter.unusedSimpArgs false
variable {w w' : World}
/-- the names that were seen -/
def SeenM (w : World) (m : Nat) (seen : List Bs) : Prop := ∃ l, GM ES Tryz.prog 9 w m l ∧ l.length ≤ seen.length ∧ ∀ s, Mx.look l s = if s ∈ seen then some (.int .i64 1) else none
set_option maxRecDepth 100000 in
set_option maxHeartbeats 1000000 in
/-- function 75 -/
theorem stands_any (B : Bs → Option Bs) {nm : Nat} {l : ML (List UInt8)} (hg : GM ES Tryz.prog 9 w nm l) (hB : ∀ n, Mx.look l n = (B n).map fun b => str b) (hb : ∀ n b, B n = some b → b.length ≤ 1000) (n : Bs) (hn : n.length ≤ 1000) :
    Calls Tryz.prog 75 #[.map (some nm), str n] w fun e w' => e = .returned (.int .i64 (standsM B n)) ∧ Below w.heap.size w w' := by
  obtain ⟨w1, hw1⟩ : ∃ w1, w1 = w.alloc (.map #[] 0) := ⟨_, rfl⟩
  have hb1 : Below w.heap.size w w1 := by rw [hw1]; exact (Below.refl _ _).alloc (Nat.le_refl _) _
  have hg1 : GM ES Tryz.prog 9 w1 w.heap.size [] := by rw [hw1]; exact GM.made ES Tryz.prog 9 w
  have hs1 : w1.heap.size = w.heap.size + 1 := by rw [hw1]; simp
  have H := hid (And.intro hg (And.intro hB (And.intro hb (And.intro hb1 hg1))))
  have HW := hid hw1
  have hmm := @run_makeMap Tryz.prog
  obtain ⟨R, hR⟩ : ∃ R, R = standsM B n := ⟨_, rfl⟩
  rw [← hR]
  have HR := hid hR
  clear hg hB hb hb1 hg1 hw1 hR
  go_enter Tryz.func75, Tryz.ntmps75
  go_upto_region 2 with (fail)
  rw [← HW.out]
  go_wp2_with fail
  go_loopw [6, 7] (fun s6 s7 wr => ∃ (k : Nat) (seen : List Bs) (a : Bs), s6 = .int .i64 k ∧ s7 = str a ∧ k = seen.length ∧ k ≤ 8 ∧ a.length ≤ 1000 ∧ Hid (R = stn B (9 - k) seen a ∧ SeenM wr w.heap.size seen ∧ Below w.heap.size w wr)) (fun s6 _ _ => 9 - (intOf s6).toNat)
  case atStart => exact ⟨0, [], n, rfl, rfl, rfl, by omega, hn, hid ⟨HR.out, ⟨[], H.out.2.2.2.2, by simp, fun s => rfl⟩, H.out.2.2.2.1⟩⟩
  case round =>
    obtain ⟨k, seen, a, rfl, rfl, hk, hk8, hal, hrel⟩ := hrel
    obtain ⟨hR, ⟨ls, hgs, hll, hlk⟩, hbl⟩ := hrel.out
    clear hrel
    have h9 : 9 - k = (8 - k) + 1 := by omega
    rw [h9] at hR
    have hgn : GM ES Tryz.prog 9 wr nm l := H.out.1.block (hbl.block _ H.out.1.lt)
    have hok : ES.ok a := Nat.le_trans hal (by unfold maxLen; omega)
    have hl1 := hgn.lookOk K9 (t := 127) Tryz.underlying127 zero9 (zd := .lit (.string [])) rfl a hok
    have hl2 := hgs.look K9 (t := 169) Tryz.underlying169 zero3 (zd := .lit (.int .i64 0)) rfl a hok
    by_cases ha : a = []
    · subst ha
      have hR0 : R = 0 := by rw [hR]; rfl
      subst hR0
      have HX := hid hbl
      clear hR hgs hlk hgn hl1 hl2 hbl
      go_wp2_with fail
      go_ret
      exact ⟨rfl, HX.out⟩
    · have hae : (a == []) = false := by simpa using ha
      rw [H.out.2.1 a] at hl1
      rw [hlk a] at hl2
      unfold stn at hR
      rw [if_neg ha] at hR
      have hnb : nm < w.heap.size := H.out.1.lt
      cases hBa : B a with
      | none =>
        rw [hBa] at hR hl1
        have hl1' : (Instr.lookup 127 (.map (some nm)) (str a) true).run Tryz.prog wr = .ok (.tuple #[.string ⟨#[]⟩, .bool false]) wr := hl1
        have hR4 : R = 4 := hR
        subst hR4
        by_cases hs : a ∈ seen
        · rw [if_pos hs] at hl2
          obtain ⟨w6, hrun, hg6, hgr6, hs6, hf6⟩ := hgs.upd K9 (t := 169) Tryz.underlying169 a hok (.int .i64 2) rfl (by unfold maxLen; omega)
          have hrun' : (Instr.mapUpdate 169 (.map (some w.heap.size)) (str a) (.int .i64 2)).run Tryz.prog wr = .ok () w6 := hrun
          have hl6 := hg6.look K9 (t := 169) Tryz.underlying169 zero3 (zd := .lit (.int .i64 0)) rfl a hok
          rw [look_upd, if_pos rfl] at hl6
          have hl6' : (Instr.lookup 169 (.map (some w.heap.size)) (str a) false).run Tryz.prog w6 = .ok (.int .i64 2) w6 := hl6
          have hl2' : (Instr.lookup 169 (.map (some w.heap.size)) (str a) false).run Tryz.prog wr = .ok (.int .i64 1) wr := hl2
          have hb6 : Below w.heap.size w w6 := hbl.grown hgr6 hbl.size fun k hk => by cases hk; exact Nat.le_refl _
          have HX := hid (hb6)
          clear hb6 hR hgs hlk hgn hl1 hl2 hbl hg6 hgr6 hs6 hf6 hrun hl6 hBa hs
          go_wp2_with fail
          go_ret
          exact ⟨rfl, HX.out⟩
        · rw [if_neg hs] at hl2
          obtain ⟨w6, hrun, hg6, hgr6, hs6, hf6⟩ := hgs.upd K9 (t := 169) Tryz.underlying169 a hok (.int .i64 1) rfl (by unfold maxLen; omega)
          have hrun' : (Instr.mapUpdate 169 (.map (some w.heap.size)) (str a) (.int .i64 1)).run Tryz.prog wr = .ok () w6 := hrun
          have hl6 := hg6.look K9 (t := 169) Tryz.underlying169 zero3 (zd := .lit (.int .i64 0)) rfl a hok
          rw [look_upd, if_pos rfl] at hl6
          have hl6' : (Instr.lookup 169 (.map (some w.heap.size)) (str a) false).run Tryz.prog w6 = .ok (.int .i64 1) w6 := hl6
          have hl2' : (Instr.lookup 169 (.map (some w.heap.size)) (str a) false).run Tryz.prog wr = .ok (.int .i64 0) wr := hl2
          have hb6 : Below w.heap.size w w6 := hbl.grown hgr6 hbl.size fun k hk => by cases hk; exact Nat.le_refl _
          have HX := hid (hb6)
          clear hb6 hR hgs hlk hgn hl1 hl2 hbl hg6 hgr6 hs6 hf6 hrun hl6 hBa hs
          go_wp2_with fail
          go_ret
          exact ⟨rfl, HX.out⟩
      | some b =>
        rw [hBa] at hR hl1
        have hl1' : (Instr.lookup 127 (.map (some nm)) (str a) true).run Tryz.prog wr = .ok (.tuple #[str b, .bool true]) wr := hl1
        by_cases hs : a ∈ seen
        · rw [if_pos hs] at hl2
          have hR4 : R = 11 := by rw [hR]; simp only [if_pos hs]
          subst hR4
          obtain ⟨w6, hrun, hg6, hgr6, hs6, hf6⟩ := hgs.upd K9 (t := 169) Tryz.underlying169 a hok (.int .i64 2) rfl (by unfold maxLen; omega)
          have hrun' : (Instr.mapUpdate 169 (.map (some w.heap.size)) (str a) (.int .i64 2)).run Tryz.prog wr = .ok () w6 := hrun
          have hl6 := hg6.look K9 (t := 169) Tryz.underlying169 zero3 (zd := .lit (.int .i64 0)) rfl a hok
          rw [look_upd, if_pos rfl] at hl6
          have hl6' : (Instr.lookup 169 (.map (some w.heap.size)) (str a) false).run Tryz.prog w6 = .ok (.int .i64 2) w6 := hl6
          have hl2' : (Instr.lookup 169 (.map (some w.heap.size)) (str a) false).run Tryz.prog wr = .ok (.int .i64 1) wr := hl2
          have hb6 : Below w.heap.size w w6 := hbl.grown hgr6 hbl.size fun k hk => by cases hk; exact Nat.le_refl _
          have HX := hid (hb6)
          clear hb6 hR hgs hlk hgn hl1 hl2 hbl hg6 hgr6 hs6 hf6 hrun hl6 hBa hs
          go_wp2_with fail
          go_ret
          exact ⟨rfl, HX.out⟩
        · rw [if_neg hs] at hl2
          obtain ⟨w6, hrun, hg6, hgr6, hs6, hf6⟩ := hgs.upd K9 (t := 169) Tryz.underlying169 a hok (.int .i64 1) rfl (by unfold maxLen; omega)
          have hrun' : (Instr.mapUpdate 169 (.map (some w.heap.size)) (str a) (.int .i64 1)).run Tryz.prog wr = .ok () w6 := hrun
          have hl6 := hg6.look K9 (t := 169) Tryz.underlying169 zero3 (zd := .lit (.int .i64 0)) rfl a hok
          rw [look_upd, if_pos rfl] at hl6
          have hl6' : (Instr.lookup 169 (.map (some w.heap.size)) (str a) false).run Tryz.prog w6 = .ok (.int .i64 1) w6 := hl6
          have hl2' : (Instr.lookup 169 (.map (some w.heap.size)) (str a) false).run Tryz.prog wr = .ok (.int .i64 0) wr := hl2
          have hb6 : Below w.heap.size w w6 := hbl.grown hgr6 hbl.size fun k hk => by cases hk; exact Nat.le_refl _
          have hR2 : R = if 8 < seen.length + 1 then 10 else stn B (8 - k) (a :: seen) b := by rw [hR]; simp only [if_neg hs]
          by_cases h8 : k = 8
          · have hR4 : R = 10 := by rw [hR2, if_pos (by omega)]
            subst hR4
            subst h8
            have HX := hid (hb6)
            clear hb6 hR hgs hlk hgn hl1 hl2 hbl hg6 hgr6 hs6 hf6 hrun hl6 hBa hs hR2
            go_wp2_with fail
            go_ret
            exact ⟨rfl, HX.out⟩
          · rw [if_neg (by omega)] at hR2
            have hgn6 : GM ES Tryz.prog 9 w6 nm l := hgn.block (hgr6.block _ hgn.lt fun e => by have := Option.some.inj e; omega)
            have hl3 := hgn6.look K9 (t := 127) Tryz.underlying127 zero9 (zd := .lit (.string [])) rfl a hok
            rw [H.out.2.1 a, hBa] at hl3
            have hl3' : (Instr.lookup 127 (.map (some nm)) (str a) false).run Tryz.prog w6 = .ok (str b) w6 := hl3
            have hsee : SeenM w6 w.heap.size (a :: seen) := by
              refine ⟨_, hg6, ?_, fun s => ?_⟩
              · rw [upd_len]; split <;> simp <;> omega
              · rw [look_upd, hlk s]
                by_cases e : s = a
                · subst e; simp
                · rw [if_neg e]; simp [e]
            have hbb := H.out.2.2.1 a b hBa
            have HX := hid (And.intro hb6 (And.intro hsee hR2))
            have h98 : 9 - (k + 1) = 8 - k := by omega
            have hH98 := hid h98
            have hkk : k < 8 := by omega
            clear hb6 hsee hR2 hR hgs hlk hgn hl1 hl2 hbl hg6 hgr6 hs6 hf6 hrun hl6 hBa hs hgn6 hl3 h98 h8
            go_wp2_with fail
            go_roundw
            case rel => exact ⟨k + 1, a :: seen, b, by go_num, rfl, by simp; omega, by omega, hbb, hid ⟨by rw [hH98.out]; exact HX.out.2.2, HX.out.2.1, HX.out.1⟩⟩
            case measure => simp [intOf]; omega
end Go.Proofs.YtgkabcaodnofnaaGreat
