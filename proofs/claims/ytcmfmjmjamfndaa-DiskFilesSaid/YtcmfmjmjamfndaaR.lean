import Derived.Test.YtcmfmjmjamfndaaQ
namespace Go.Dk
/-- a disk of one file -/
def S1 (room : Nat) (now kept : List Sec) (log : List (Nat × Sec)) (left : Nat) (off : Bool) : DM := ⟨room, [⟨[102], now, kept⟩], log.map fun x => ⟨[102], x.1, x.2⟩, left, off⟩
def lay (l : List Sec) (xs : List (Nat × Sec)) : List Sec := xs.foldl (fun l x => put l x.1 x.2) l
def pk1 (picks : List Bool) (log : List (Nat × Sec)) : List (Nat × Sec) := (List.range log.length).filterMap fun i => if picks.getD i false then log[i]? else none
theorem play_one (now kept : List Sec) (k : Nat) (s : Sec) : play [⟨[102], now, kept⟩] ⟨[102], k, s⟩ = [⟨[102], put now k s, kept⟩] := rfl
theorem picked_map (picks : List Bool) (log : List (Nat × Sec)) : picked picks (log.map fun x => (⟨[102], x.1, x.2⟩ : RM)) = (pk1 picks log).map fun x => ⟨[102], x.1, x.2⟩ := by
  unfold picked pk1
  rw [List.length_map, List.map_filterMap]
  congr 1
  funext i
  by_cases hp : picks.getD i false = true
  · rw [if_pos hp, if_pos hp, List.getElem?_map]
  · rw [if_neg hp, if_neg hp]; rfl
theorem plays (xs : List (Nat × Sec)) : ∀ (now kept : List Sec), (xs.map fun x => (⟨[102], x.1, x.2⟩ : RM)).foldl play [⟨[102], now, kept⟩] = [⟨[102], lay now xs, kept⟩] := by
  induction xs with
  | nil => intro now kept; rfl
  | cons x xs ih => intro now kept; rw [List.map_cons, List.foldl_cons, play_one, ih]; rfl
theorem crash_one (room : Nat) (now kept : List Sec) (log : List (Nat × Sec)) (left : Nat) (off : Bool) (picks : List Bool) : crash (S1 room now kept log left off) picks = S1 room (lay kept (pk1 picks log)) (lay kept (pk1 picks log)) [] 0 false := by
  unfold crash S1
  simp only [List.map_cons, List.map_nil]
  rw [picked_map, plays]
  rfl
theorem one_S1 (room : Nat) (now kept : List Sec) (log : List (Nat × Sec)) (left k : Nat) (s : Sec) : one (S1 room now kept log left false) [102] k s = if left = 1 then (S1 room now kept log 0 true, false) else (S1 room (put now k s) kept (log ++ [(k, s)]) (left - 1) false, true) := by
  unfold one
  show (if left = 1 then _ else _) = _
  split
  · rfl
  · simp [S1, setF]
theorem forget_S1 (log : List (Nat × Sec)) : forget (log.map fun x => (⟨[102], x.1, x.2⟩ : RM)) [102] 0 = [] := by
  unfold forget
  rw [List.filter_eq_nil_iff]
  intro r hr
  obtain ⟨x, _, rfl⟩ := List.mem_map.1 hr
  simp
theorem used_S1 (room : Nat) (now kept : List Sec) (log : List (Nat × Sec)) (left : Nat) (off : Bool) : used (S1 room now kept log left off).files = now.length := by simp [S1, used]
end Go.Dk
namespace Go.Proofs.Ytcmfmjmjamfndaa
open Go.RowKit Go.Mx Go.Dk
set_option linter.unusedSimpArgs false
set_option linter.unusedVariables false
def H1 (w : World) (base p : Nat) (d : DM) : Prop := ∃ fs m lv x, DK w base p d fs m lv x (fun _ _ => True)
theorem H1.below {w w' : World} {base p : Nat} {d : DM} (h : H1 w base p d) (hb : Below w.heap.size w w') : H1 w' base p d := by
  obtain ⟨fs, m, lv, x, h⟩ := h; exact ⟨fs, m, lv, x, h.below hb⟩
theorem H1.base_le {w : World} {base p : Nat} {d : DM} (h : H1 w base p d) : base ≤ w.heap.size := by
  obtain ⟨fs, m, lv, x, h⟩ := h; exact h.base_le
def LogOk (log : List (Nat × Sec)) : Prop := log.length ≤ 100000 ∧ ∀ x ∈ log, x.1 < 65536 ∧ x.2.length = 16
theorem small_S1 {room : Nat} {now kept : List Sec} {log : List (Nat × Sec)} {left : Nat} {off : Bool} (h1 : SecsOk now) (h2 : SecsOk kept) (h3 : LogOk log) : Small (S1 room now kept log left off) := by
  refine ⟨?_, ?_, ?_, ?_⟩
  · intro r hr
    obtain ⟨x, hx, rfl⟩ := List.mem_map.1 hr
    exact (h3.2 x hx).2
  · show (log.map _).length ≤ _
    rw [List.length_map]; have := h3.1; omega
  · intro f hf; simp [S1] at hf; rw [hf]; exact h1
  · intro f hf; simp [S1] at hf; rw [hf]; exact h2
theorem file_S1 {w : World} {base p : Nat} {room : Nat} {now kept : List Sec} {log : List (Nat × Sec)} {left : Nat} {off : Bool} {fs : List FR} {m : Nat} {lv : Value} {x : Int} {V : Nat → Bool → Prop} (h : DK w base p (S1 room now kept log left off) fs m lv x V) : ∃ f, fs[0]? = some f ∧ f.fm = ⟨[102], now, kept⟩ := by
  have := h.files
  cases fs with
  | nil => simp [S1] at this
  | cons f l => simp [S1] at this; exact ⟨f, rfl, this.1.symm⟩
abbrev fN : Value := .string ⟨#[102]⟩
/-- what stays as it is whatever a disk does -/
theorem stab_own {w : World} {base b : Nat} {v : Value} {l : List UInt8} (h : OwnB w b 5 v l) : ∀ w', Fr base w w' → SlB w' w'.heap.size v l := by
  intro w' hf
  refine (h.kept hf.kept fun k hk => ?_).slB
  rcases h.2 with ⟨rfl, _⟩ | ⟨g, cap, cur, rfl, _, hg, _⟩
  · cases hk
  · cases hk; exact ⟨_, _, _, hg, by decide, by decide, by decide, by decide⟩
theorem picks_new (w : World) (b : Bool) (base : Nat) : ∀ w', Fr base (w.alloc (.cells #[.bool b] 4)) w' → Picks w' (.slice (some ⟨w.heap.size, 0, none⟩) 1 1) [b] := by
  intro w' hf
  have hn := alloc_new w (.cells #[.bool b] 4)
  have hn' := (hf.foreign ⟨_, _, _, hn, by decide, by decide, by decide, by decide⟩).trans hn
  refine ⟨_, 1, rfl, by simp, by simp [maxLen], fun _ => ⟨w.heap.size, 0, rfl, blk_lt hn', ?_⟩⟩
  intro i hi j u hu
  obtain rfl : i = 0 := by simp at hi; omega
  simp at hu
  obtain ⟨rfl, rfl⟩ : j = 0 ∧ u = .bool b := by
    cases j with
    | zero => simp at hu; exact ⟨rfl, hu.symm⟩
    | succ j => simp at hu
  simp [World.cell?, hn']
theorem picks_out {w : World} {base B : Nat} {v : Value} {l : List Bool} (h : SlG w B 1 v (l.map fun b => [.bool b])) (hB : B ≤ base) (hb : base ≤ w.heap.size) : ∀ w', Fr base w w' → Picks w' v l :=
  fun w' hf => (h.below hf.bel hB).mono (by have := hf.size; omega)
section
variable {w : World} {base p room left : Nat} {now kept : List Sec} {log : List (Nat × Sec)} {off : Bool}
theorem create_S0 {m : Nat} {lv : Value} {x : Int} (h : DK w base p ⟨room, [], [], 0, false⟩ [] m lv x (fun _ _ => True)) : Calls Try.prog 13 #[dp p, fN] w fun e w' => e = .returned (.int .i64 0) ∧ H1 w' base p (S1 room [] [] [] 0 false) ∧ Fr base w w' :=
  (create_new h ⟨by simp, by simp, by simp, by simp⟩ rfl [102] (by simp) (by simp) (by simp [plOf, Mx.look_nil]) (by simp)).mono fun e w' ⟨he, ⟨b, lv', hd⟩, hf⟩ => ⟨he, ⟨_, _, _, _, hd⟩, hf⟩
theorem flush_S1 (h : H1 w base p (S1 room now kept log left false)) (h1 : SecsOk now) (h2 : SecsOk kept) (h3 : LogOk log) : Calls Try.prog 16 #[dp p, fN] w fun e w' => e = .returned (.int .i64 0) ∧ H1 w' base p (S1 room now now [] left false) ∧ Fr base w w' := by
  obtain ⟨fs, m, lv, x, h⟩ := h
  obtain ⟨f, hi, hf⟩ := file_S1 h
  have hn : f.fm.name = [102] := by rw [hf]
  have := flush_any h (small_S1 h1 h2 h3) hi rfl (by rw [hn]; decide)
  rw [hn] at this
  refine this.mono fun e w' ⟨he, ⟨fs', lv', hd⟩, hfr⟩ => ⟨he, ⟨fs', m, lv', x, ?_⟩, hfr⟩
  have e1 : Dk.forget (S1 room now kept log left false).log [102] 0 = [] := forget_S1 log
  rw [e1] at hd
  exact hd
theorem read_S1 (h : H1 w base p (S1 room now kept log left false)) (h1 : SecsOk now) (h2 : SecsOk kept) (h3 : LogOk log) (a n : Nat) (han : a + n ≤ now.length) : Calls Try.prog 19 #[dp p, fN, .int .i64 a, .int .i64 n] w fun e w' => ∃ v, e = .returned (.tuple #[v, .int .i64 0]) ∧ OwnB w' w.heap.size 5 v (secs now a n) ∧ Below w.heap.size w w' := by
  obtain ⟨fs, m, lv, x, h⟩ := h
  obtain ⟨f, hi, hf⟩ := file_S1 h
  have hn : f.fm.name = [102] := by rw [hf]
  have hw : f.fm.now = now := by rw [hf]
  have := read_any h (small_S1 h1 h2 h3) rfl hi (by rw [hn]; decide) a n (by rw [hw]; exact han)
  rw [hn, hw] at this
  exact this
theorem crash_S1 (h : H1 w base p (S1 room now kept log left off)) (h1 : SecsOk now) (h2 : SecsOk kept) (h3 : LogOk log) (pv : Value) (picks : List Bool) (hp : ∀ w', Fr base w w' → Picks w' pv picks) (hpl : picks.length ≤ 1000000000) :
    Calls Try.prog 18 #[dp p, pv] w fun e w' => e = .returned (.tuple #[]) ∧ H1 w' base p (S1 room (lay kept (pk1 picks log)) (lay kept (pk1 picks log)) [] 0 false) ∧ Fr base w w' := by
  obtain ⟨fs, m, lv, x, h⟩ := h
  refine (crash_any h (small_S1 h1 h2 h3) pv picks hp hpl ?_).mono fun e w' ⟨he, ⟨fs', lv', hd, _⟩, hfr⟩ => ⟨he, ⟨fs', m, lv', x, ?_⟩, hfr⟩
  · intro r hr
    obtain ⟨y, hy, rfl⟩ := List.mem_map.1 hr
    exact ⟨(h3.2 y hy).1, (show ([102] : List UInt8).length ≤ maxLen by decide), by simp [S1]⟩
  · rw [crash_one] at hd; exact hd
theorem size_S1 (h : H1 w base p (S1 room now kept log left off)) : Calls Try.prog 22 #[dp p, fN] w fun e w' => e = .returned (.tuple #[.int .i64 now.length, .int .i64 0]) ∧ w = w' := by
  obtain ⟨fs, m, lv, x, h⟩ := h
  have := size_any h (fun _ => trivial) [102] (by decide)
  exact this
theorem power_S1 (h : H1 w base p (S1 room now kept log left off)) (n : Nat) : Calls Try.prog 17 #[dp p, .int .i64 n] w fun e w' => e = .returned (.tuple #[]) ∧ H1 w' base p (S1 room now kept log n off) ∧ Fr base w w' := by
  obtain ⟨fs, m, lv, x, h⟩ := h
  exact (power_any h n).mono fun e w' ⟨he, hd, hf⟩ => ⟨he, ⟨_, _, _, _, hd⟩, hf⟩
/-- one sector is written -/
theorem write_S1 (h : H1 w base p (S1 room now kept log left false)) (h1 : SecsOk now) (h2 : SecsOk kept) (h3 : LogOk log) (k : Nat) (s : Sec) (hs : s.length = 16) (bv : Value) (hst : ∀ w', Fr base w w' → SlB w' w'.heap.size bv s) (hk : k < 65536) (hf1 : k + 1 ≤ room) (hf2 : now.length ≤ room)
    (hroom : room ≤ 1048576) (hleft : left ≤ 9223372036854775807) :
    Calls Try.prog 14 #[dp p, fN, .int .i64 k, bv] w fun e w' => Fr base w w' ∧ e = .returned (.int .i64 (if left = 1 then 8 else 0)) ∧ H1 w' base p (if left = 1 then S1 room now kept log 0 true else S1 room (put now k s) kept (log ++ [(k, s)]) (left - 1) false) := by
  obtain ⟨fs, m, lv, x, h⟩ := h
  obtain ⟨f, hi, hf⟩ := file_S1 h
  have hn : f.fm.name = [102] := by rw [hf]
  have hw : f.fm.now = now := by rw [hf]
  have := write_any h (small_S1 h1 h2 h3) rfl hi (by rw [hn]; decide) k [s] bv (by simpa using hst) (by simpa using hs) (by simp; omega) (by simp) (by rw [used_S1]; exact hf2) hroom hleft (by
    show (log.map _).length + 1 ≤ _
    rw [List.length_map]; have := h3.1; omega)
  rw [hn] at this
  refine this.mono fun e w' ⟨hfr, hr⟩ => ⟨hfr, ?_⟩
  unfold WRes at hr
  rw [hn] at hr
  have hm : Dk.many (S1 room now kept log left false) [102] k [s] = if left = 1 then (S1 room now kept log 0 true, false) else (S1 room (put now k s) kept (log ++ [(k, s)]) (left - 1) false, true) := by
    simp only [Dk.many]
    rw [one_S1]
    by_cases hl : left = 1
    · simp [hl]
    · simp [hl]
  rcases hr with ⟨_, he, fs', lv', x', hd⟩ | ⟨hnf, _⟩
  · rw [hm] at he hd
    by_cases hl : left = 1
    · rw [if_pos hl] at he hd ⊢; rw [if_pos hl]; exact ⟨he, _, _, _, _, hd⟩
    · rw [if_neg hl] at he hd ⊢; rw [if_neg hl]; exact ⟨he, _, _, _, _, hd⟩
  · exact absurd (.inr (by rw [used_S1, hw]; show k + 1 + now.length ≤ room + now.length; omega)) hnf
end
end Go.Proofs.Ytcmfmjmjamfndaa
