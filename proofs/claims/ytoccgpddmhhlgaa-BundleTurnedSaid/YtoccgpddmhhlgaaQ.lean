import Derived.Test.YtoccgpddmhhlgaaP
namespace Go.Proofs.Ytoccgpddmhhlgaa
open Go.RowKit Go.Mx Go.Crc Go.Str

/-- the reader of fields at block p -/
def Rd (w : World) (p : Nat) (bv : Value) (a : Nat) (bad : Bool) : Prop := w.heap[p]? = some (.cells #[bv, .int .i64 a, .bool bad] 111 (0, 0))
theorem Rd.cells {w : World} {p : Nat} {bv : Value} {a : Nat} {bad : Bool} (h : Rd w p bv a bad) : w.cell? ⟨p, 0, none⟩ = some bv ∧ w.cell? ⟨p, 1, none⟩ = some (.int .i64 a) ∧ w.cell? ⟨p, 2, none⟩ = some (.bool bad) ∧ ∀ o, w.frozen? ⟨p, o, none⟩ = false := by
  unfold Rd at h
  refine ⟨?_, ?_, ?_, fun o => ?_⟩ <;> simp [World.cell?, World.frozen?, h]
theorem Rd.lt {w : World} {p : Nat} {bv : Value} {a : Nat} {bad : Bool} (h : Rd w p bv a bad) : p < w.heap.size := (Array.getElem?_eq_some_iff.1 h).1
theorem Rd.below {w w' : World} {p : Nat} {bv : Value} {a : Nat} {bad : Bool} (h : Rd w p bv a bad) (hb : Below w.heap.size w w') : Rd w' p bv a bad := (hb.block p h.lt).trans h

set_option maxRecDepth 100000 in
set_option maxHeartbeats 2000000 in
theorem rdnum_any (b : List UInt8) (bv : Value) (p a n : Nat) (bad : Bool) (w : World) (h : Rd w p bv a bad) (hb : SlB w p bv b) (hl : b.length ≤ 1000000000) (ha : a ≤ 3000000000) (h1 : 1 ≤ n) (h4 : n ≤ 4) :
    Calls Try.prog 57 #[.pointer (some ⟨p, 0, none⟩), .int .i64 n] w fun e w' => (e = .returned (.int .i64 ((if a + n ≤ b.length then deL (atB b a n) else 0 : Nat) : Int)) ∧ Rd w' p bv (a + n) (bad || !decide (a + n ≤ b.length))) ∧ Below p w w' ∧ Kept w w' (· ≠ p) := by
  have hpl := h.lt
  have C0 : ∀ w', Below w.heap.size w w' → w'.cell? ⟨p, 0, none⟩ = some bv := fun w' hb => (hb.cell (p := ⟨p, 0, none⟩) hpl).trans h.cells.1
  have C1 : ∀ w', Below w.heap.size w w' → w'.cell? ⟨p, 1, none⟩ = some (.int .i64 a) := fun w' hb => (hb.cell (p := ⟨p, 1, none⟩) hpl).trans h.cells.2.1
  have HC := hid (fun w' (hbl : Below w.heap.size w w') => get_any b bv a n w' ((hb.below hbl (Nat.le_of_lt hpl)).mono (by have := hbl.size; omega)) hl (by omega) h1 h4)
  have H := hid h
  clear h hb
  cases bad
  · by_cases hc : a + n ≤ b.length
    · simp only [hc, if_true] at HC
      have hdl : deL (atB b a n) < 256 ^ n := by have := deL_lt (atB b a n); rwa [atB_length b a n hc] at this
      have hd4 : deL (atB b a n) < 4294967296 := Nat.lt_of_lt_of_le hdl (Nat.pow_le_pow_right (n := 256) (by omega) h4)
      have HV := hid (show (if a + n ≤ b.length then deL (atB b a n) else 0) = deL (atB b a n) from if_pos hc)
      have HD := hid (show decide (a + n ≤ b.length) = true from decide_eq_true hc)
      rw [HV.out, HD.out]
      obtain ⟨x, hx⟩ : ∃ x, x = deL (atB b a n) := ⟨_, rfl⟩
      rw [← hx] at HC hd4 ⊢
      clear hx hdl HV HD hc
      go_enter Try.func57, Try.ntmps57
      go_wp2_with fail
      go_region_held (fun w' => Below w.heap.size w w') (first | exact (Below.refl _ _).drew | assumption | exact Below.drew (by assumption)) (first | (go_at_call 66; refine (HC.out _ (by assumption)).mono ?_; rintro e w5 ⟨rfl, rfl⟩))
      have hb1 : Below w.heap.size w w.drew := (Below.refl _ _).drew
      have R1 := H.out.below hb1
      obtain ⟨w1, hw1⟩ : ∃ w1, w1 = w.drew := ⟨_, rfl⟩
      rw [← hw1] at hb1 R1 ⊢
      clear hw1 C0 C1
      obtain ⟨c0, c1, c2, fz⟩ := R1.cells
      have fz1 := fz 1
      have fz2 := fz 2
      have hr2 : (w1.setCell ⟨p, 2, none⟩ (.bool false)).heap[p]? = some (.cells #[bv, .int .i64 a, .bool false] 111 (0, 0)) := heap_set1 w1 p 2 _ _ _ _ R1
      have hr3 : ((w1.setCell ⟨p, 2, none⟩ (.bool false)).setCell ⟨p, 1, none⟩ (.int .i64 ((a : Int) + (n : Int)))).heap[p]? = some (.cells #[bv, .int .i64 ((a : Int) + (n : Int)), .bool false] 111 (0, 0)) := heap_set1 _ p 1 _ _ _ _ hr2
      have k3 : Kept w ((w1.setCell ⟨p, 2, none⟩ (.bool false)).setCell ⟨p, 1, none⟩ (.int .i64 ((a : Int) + (n : Int)))) (· ≠ p) := ((Kept.of_below hb1 fun _ h _ => h).trans (.set _ _ _ _ fun hn => hn rfl)).trans (.set _ _ _ _ fun hn => hn rfl)
      have b3 : Below p w ((w1.setCell ⟨p, 2, none⟩ (.bool false)).setCell ⟨p, 1, none⟩ (.int .i64 ((a : Int) + (n : Int)))) := ((hb1.mono (Nat.le_of_lt hpl)).setCell (p := ⟨p, 2, none⟩) (Nat.le_refl _) _).setCell (p := ⟨p, 1, none⟩) (Nat.le_refl _) _
      have e1 : (w1.setCell ⟨p, 2, none⟩ (.bool false)).cell? ⟨p, 1, none⟩ = some (.int .i64 a) := by simp [World.cell?, hr2]
      have HE := hid (And.intro hr3 (And.intro b3 k3))
      clear HC H hb1 R1 hr2 hr3 k3 b3 fz hpl c0
      go_wp2_with fail
      go_ret
      exact ⟨⟨rfl, HE.out.1⟩, HE.out.2.1, HE.out.2.2⟩
    · simp only [hc, if_false] at HC
      have HV := hid (show (if a + n ≤ b.length then deL (atB b a n) else 0) = 0 from if_neg hc)
      have HD := hid (show decide (a + n ≤ b.length) = false from decide_eq_false hc)
      rw [HV.out, HD.out]
      clear HV HD hc
      go_enter Try.func57, Try.ntmps57
      go_wp2_with fail
      go_region_held (fun w' => Below w.heap.size w w') (first | exact (Below.refl _ _).drew | assumption | exact Below.drew (by assumption)) (first | (go_at_call 66; refine (HC.out _ (by assumption)).mono ?_; rintro e w5 ⟨rfl, rfl⟩))
      have hb1 : Below w.heap.size w w.drew := (Below.refl _ _).drew
      have R1 := H.out.below hb1
      obtain ⟨w1, hw1⟩ : ∃ w1, w1 = w.drew := ⟨_, rfl⟩
      rw [← hw1] at hb1 R1 ⊢
      clear hw1 C0 C1
      obtain ⟨c0, c1, c2, fz⟩ := R1.cells
      have fz1 := fz 1
      have fz2 := fz 2
      have hr2 : (w1.setCell ⟨p, 2, none⟩ (.bool true)).heap[p]? = some (.cells #[bv, .int .i64 a, .bool true] 111 (0, 0)) := heap_set1 w1 p 2 _ _ _ _ R1
      have hr3 : ((w1.setCell ⟨p, 2, none⟩ (.bool true)).setCell ⟨p, 1, none⟩ (.int .i64 ((a : Int) + (n : Int)))).heap[p]? = some (.cells #[bv, .int .i64 ((a : Int) + (n : Int)), .bool true] 111 (0, 0)) := heap_set1 _ p 1 _ _ _ _ hr2
      have k3 : Kept w ((w1.setCell ⟨p, 2, none⟩ (.bool true)).setCell ⟨p, 1, none⟩ (.int .i64 ((a : Int) + (n : Int)))) (· ≠ p) := ((Kept.of_below hb1 fun _ h _ => h).trans (.set _ _ _ _ fun hn => hn rfl)).trans (.set _ _ _ _ fun hn => hn rfl)
      have b3 : Below p w ((w1.setCell ⟨p, 2, none⟩ (.bool true)).setCell ⟨p, 1, none⟩ (.int .i64 ((a : Int) + (n : Int)))) := ((hb1.mono (Nat.le_of_lt hpl)).setCell (p := ⟨p, 2, none⟩) (Nat.le_refl _) _).setCell (p := ⟨p, 1, none⟩) (Nat.le_refl _) _
      have e1 : (w1.setCell ⟨p, 2, none⟩ (.bool true)).cell? ⟨p, 1, none⟩ = some (.int .i64 a) := by simp [World.cell?, hr2]
      have HE := hid (And.intro hr3 (And.intro b3 k3))
      clear HC H hb1 R1 hr2 hr3 k3 b3 fz hpl c0
      go_wp2_with fail
      go_ret
      exact ⟨⟨rfl, HE.out.1⟩, HE.out.2.1, HE.out.2.2⟩
  · by_cases hc : a + n ≤ b.length
    · simp only [hc, if_true] at HC
      have hdl : deL (atB b a n) < 256 ^ n := by have := deL_lt (atB b a n); rwa [atB_length b a n hc] at this
      have hd4 : deL (atB b a n) < 4294967296 := Nat.lt_of_lt_of_le hdl (Nat.pow_le_pow_right (n := 256) (by omega) h4)
      have HV := hid (show (if a + n ≤ b.length then deL (atB b a n) else 0) = deL (atB b a n) from if_pos hc)
      have HD := hid (show decide (a + n ≤ b.length) = true from decide_eq_true hc)
      rw [HV.out, HD.out]
      obtain ⟨x, hx⟩ : ∃ x, x = deL (atB b a n) := ⟨_, rfl⟩
      rw [← hx] at HC hd4 ⊢
      clear hx hdl HV HD hc
      go_enter Try.func57, Try.ntmps57
      go_wp2_with fail
      go_region_held (fun w' => Below w.heap.size w w') (first | exact (Below.refl _ _).drew | assumption | exact Below.drew (by assumption)) (first | (go_at_call 66; refine (HC.out _ (by assumption)).mono ?_; rintro e w5 ⟨rfl, rfl⟩))
      have hb1 : Below w.heap.size w w.drew := (Below.refl _ _).drew
      have R1 := H.out.below hb1
      obtain ⟨w1, hw1⟩ : ∃ w1, w1 = w.drew := ⟨_, rfl⟩
      rw [← hw1] at hb1 R1 ⊢
      clear hw1 C0 C1
      obtain ⟨c0, c1, c2, fz⟩ := R1.cells
      have fz1 := fz 1
      have fz2 := fz 2
      have hr2 : (w1.setCell ⟨p, 2, none⟩ (.bool true)).heap[p]? = some (.cells #[bv, .int .i64 a, .bool true] 111 (0, 0)) := heap_set1 w1 p 2 _ _ _ _ R1
      have hr3 : ((w1.setCell ⟨p, 2, none⟩ (.bool true)).setCell ⟨p, 1, none⟩ (.int .i64 ((a : Int) + (n : Int)))).heap[p]? = some (.cells #[bv, .int .i64 ((a : Int) + (n : Int)), .bool true] 111 (0, 0)) := heap_set1 _ p 1 _ _ _ _ hr2
      have k3 : Kept w ((w1.setCell ⟨p, 2, none⟩ (.bool true)).setCell ⟨p, 1, none⟩ (.int .i64 ((a : Int) + (n : Int)))) (· ≠ p) := ((Kept.of_below hb1 fun _ h _ => h).trans (.set _ _ _ _ fun hn => hn rfl)).trans (.set _ _ _ _ fun hn => hn rfl)
      have b3 : Below p w ((w1.setCell ⟨p, 2, none⟩ (.bool true)).setCell ⟨p, 1, none⟩ (.int .i64 ((a : Int) + (n : Int)))) := ((hb1.mono (Nat.le_of_lt hpl)).setCell (p := ⟨p, 2, none⟩) (Nat.le_refl _) _).setCell (p := ⟨p, 1, none⟩) (Nat.le_refl _) _
      have e1 : (w1.setCell ⟨p, 2, none⟩ (.bool true)).cell? ⟨p, 1, none⟩ = some (.int .i64 a) := by simp [World.cell?, hr2]
      have HE := hid (And.intro hr3 (And.intro b3 k3))
      clear HC H hb1 R1 hr2 hr3 k3 b3 fz hpl c0
      go_wp2_with fail
      go_ret
      exact ⟨⟨rfl, HE.out.1⟩, HE.out.2.1, HE.out.2.2⟩
    · simp only [hc, if_false] at HC
      have HV := hid (show (if a + n ≤ b.length then deL (atB b a n) else 0) = 0 from if_neg hc)
      have HD := hid (show decide (a + n ≤ b.length) = false from decide_eq_false hc)
      rw [HV.out, HD.out]
      clear HV HD hc
      go_enter Try.func57, Try.ntmps57
      go_wp2_with fail
      go_region_held (fun w' => Below w.heap.size w w') (first | exact (Below.refl _ _).drew | assumption | exact Below.drew (by assumption)) (first | (go_at_call 66; refine (HC.out _ (by assumption)).mono ?_; rintro e w5 ⟨rfl, rfl⟩))
      have hb1 : Below w.heap.size w w.drew := (Below.refl _ _).drew
      have R1 := H.out.below hb1
      obtain ⟨w1, hw1⟩ : ∃ w1, w1 = w.drew := ⟨_, rfl⟩
      rw [← hw1] at hb1 R1 ⊢
      clear hw1 C0 C1
      obtain ⟨c0, c1, c2, fz⟩ := R1.cells
      have fz1 := fz 1
      have fz2 := fz 2
      have hr2 : (w1.setCell ⟨p, 2, none⟩ (.bool true)).heap[p]? = some (.cells #[bv, .int .i64 a, .bool true] 111 (0, 0)) := heap_set1 w1 p 2 _ _ _ _ R1
      have hr3 : ((w1.setCell ⟨p, 2, none⟩ (.bool true)).setCell ⟨p, 1, none⟩ (.int .i64 ((a : Int) + (n : Int)))).heap[p]? = some (.cells #[bv, .int .i64 ((a : Int) + (n : Int)), .bool true] 111 (0, 0)) := heap_set1 _ p 1 _ _ _ _ hr2
      have k3 : Kept w ((w1.setCell ⟨p, 2, none⟩ (.bool true)).setCell ⟨p, 1, none⟩ (.int .i64 ((a : Int) + (n : Int)))) (· ≠ p) := ((Kept.of_below hb1 fun _ h _ => h).trans (.set _ _ _ _ fun hn => hn rfl)).trans (.set _ _ _ _ fun hn => hn rfl)
      have b3 : Below p w ((w1.setCell ⟨p, 2, none⟩ (.bool true)).setCell ⟨p, 1, none⟩ (.int .i64 ((a : Int) + (n : Int)))) := ((hb1.mono (Nat.le_of_lt hpl)).setCell (p := ⟨p, 2, none⟩) (Nat.le_refl _) _).setCell (p := ⟨p, 1, none⟩) (Nat.le_refl _) _
      have e1 : (w1.setCell ⟨p, 2, none⟩ (.bool true)).cell? ⟨p, 1, none⟩ = some (.int .i64 a) := by simp [World.cell?, hr2]
      have HE := hid (And.intro hr3 (And.intro b3 k3))
      clear HC H hb1 R1 hr2 hr3 k3 b3 fz hpl c0
      go_wp2_with fail
      go_ret
      exact ⟨⟨rfl, HE.out.1⟩, HE.out.2.1, HE.out.2.2⟩
end Go.Proofs.Ytoccgpddmhhlgaa
