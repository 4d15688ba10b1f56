import Derived.Test.YtgkabcaodnofnaaGreatD
import Derived.Test.YtgkabcaodnofnaaGreatMV
import Derived.Deep.RegionHeld
namespace Go.Proofs.YtgkabcaodnofnaaGreat
open Go.RowKit Go.Mx Go.Md
set_option linter.unusedVariables false
set_option linter.unusedSimpArgs false
theorem size108 (w : World) : (sizeOf 108).run Tryz.prog w = .ok 3 w := by kernel_rfl
theorem info108 : (Tryz.prog.info? 108).map (fun i => (i.zero, i.size, i.bytes)) = some (some (.agg #[.string ⟨#[]⟩, .bool false, .slice none 0 0]), 3, 48) := by kernel_rfl
theorem rightS_len : ∀ (l : List Sp) (last : Int), last ≤ 1073741824 → rightS last l = true → (l.length : Int) ≤ 1073741824 - last
  | [], last, h, _ => by simp; omega
  | s :: r, last, h, hr => by
    simp only [rightS, Bool.and_eq_true, Bool.not_eq_true', decide_eq_false_iff_not] at hr
    obtain ⟨⟨h1, h2⟩, h3⟩ := hr
    simp only [mayS, Bool.and_eq_true, decide_eq_true_eq] at h1
    have := rightS_len r s.2 h1.2 h3
    simp only [List.length_cons]
    omega
theorem allS_len (l : List Sp) : (allS l).length ≤ 1073741825 := by
  unfold allS
  split
  · rename_i h
    have := rightS_len l (-1) (by omega) h
    omega
  · simp
theorem addS_len (l : List Sp) (s : Sp) : (addS l s).length ≤ 3000000000 := by
  have h1 := addI_len s (allS l)
  have h2 := allS_len l
  have h3 : addS l s = if (addI s (allS l)).laid then (addI s (allS l)).out else (addI s (allS l)).out ++ [(addI s (allS l)).s] := rfl
  rw [h3]
  split
  · omega
  · rw [List.length_append]; simp; omega
theorem subS_len (l : List Sp) (s : Sp) : (subS l s).length ≤ 3000000000 := by
  have key : ∀ (t out : List Sp), (t.foldl (subR s) out).length ≤ out.length + 2 * t.length := by
    intro t; induction t with
    | nil => intro out; simp
    | cons x t ih =>
      intro out
      have h1 := ih (subR s out x)
      have h2 : (subR s out x).length ≤ out.length + 2 := by
        unfold subR; split
        · simp
        · rw [List.length_append]
          split <;> split <;> simp
      simp only [List.foldl_cons, List.length_cons]; omega
  have h2 := allS_len l
  have h3 := key (allS l) []
  unfold subS
  simp only [List.length_nil] at h3
  omega
/-- a bitmap and where its spans lie -/
structure PB where
  b : BM
  lv : Value
abbrev pbrow (p : PB) : List Value := [.string ⟨p.b.name.toArray⟩, .bool p.b.on, p.lv]
theorem pbrow_one (p : PB) (h : ∃ a n c, p.lv = .slice a n c) : ∀ u ∈ pbrow p, u.oneCell' = true := by
  obtain ⟨a, n, c, e⟩ := h
  intro u hu; simp [pbrow, e] at hu; rcases hu with rfl | rfl | rfl <;> rfl
/-- bitmaps in memory -/
structure BMS (w : World) (base : Nat) (v : Value) (l : List BM) (ps : List PB) : Prop where
  e : l = ps.map (·.b)
  o : OwnG w base 108 3 v (ps.map pbrow)
  s : ∀ p ∈ ps, OwnG w base 111 2 p.lv (p.b.l.map spC)
  n : l.length ≤ 100
  k : ∀ b ∈ l, b.l.length ≤ 3000000000
section
variable {w w' : World} {base : Nat} {v : Value} {l : List BM} {ps : List PB}
theorem BMS.kept {N : Nat → Prop} (h : BMS w base v l ps) (hk : Kept w w' N) (hN : ∀ b c t f, w.heap[b]? = some (.cells c t f) → t = 108 ∨ t = 111 → N b) : BMS w' base v l ps where
  e := h.e
  o := h.o.kept hk fun k e => by obtain ⟨c, f, hc⟩ := ownG_type h.o k e; exact hN k c _ f hc (.inl rfl)
  s := fun p hp => (h.s p hp).kept hk fun k e => by obtain ⟨c, f, hc⟩ := ownG_type (h.s p hp) k e; exact hN k c _ f hc (.inr rfl)
  n := h.n
  k := h.k
theorem BMS.below (h : BMS w base v l ps) (hb : Below w.heap.size w w') : BMS w' base v l ps :=
  h.kept (Kept.of_below (N := fun _ => True) hb fun _ h _ => h) fun _ _ _ _ _ _ => trivial
theorem BMS.any_base {b' : Nat} (h : BMS w base v l ps) (hb : b' ≤ base) : BMS w b' v l ps := { h with o := h.o.any_base hb, s := fun p hp => (h.s p hp).any_base hb }
theorem BMS.nil (w : World) (base : Nat) : BMS w base (.slice none 0 0) [] [] where
  e := rfl
  o := OwnG.nil _ _ _ _
  s := by simp
  n := by simp
  k := by simp
theorem BMS.pl (h : BMS w base v l ps) : ps.length = l.length := by rw [h.e, List.length_map]
theorem BMS.len (h : BMS w base v l ps) (w' : World) : (Builtin.len_ #[43] 3 #[v]).run Tryz.prog w' = .ok (.int .i64 l.length) w' := by
  have := SlG.len (P := Tryz.prog) (ty := 3) h.o.slG Tryz.underlying43 w'
  rwa [List.length_map, h.pl] at this
theorem BMS.place (h : BMS w base v l ps) {i : Nat} {p : PB} (hi : ps[i]? = some p) : ∃ g n c, v = .slice (some ⟨g, 0, none⟩) n c ∧ base ≤ g ∧ (∃ cc, w.heap[g]? = some (.cells cc 108 (0, 0))) ∧ (∀ w' (k : IntKind), (Instr.indexAt 43 v (.int k (i : Int))).run Tryz.prog w' = .ok (.pointer (some ⟨g, i * 3, none⟩)) w') := by
  have hl : i < (ps.map pbrow).length := by rw [List.length_map]; exact (List.getElem?_eq_some_iff.1 hi).1
  have ho := h.o
  rcases ho.shape with ⟨_, he⟩ | ⟨g, c, rfl, hg, _⟩
  · rw [he] at hl; simp at hl
  · obtain ⟨_, _, _, _, cur, hc, _⟩ := ho.parts
    exact ⟨g, _, c, rfl, hg, ⟨cur, hc⟩, ho.addr (P := Tryz.prog) Tryz.underlying43 size108 i hl⟩
theorem BMS.cellAt {g n c : Nat} (h : BMS w base (.slice (some ⟨g, 0, none⟩) n c) l ps) {i : Nat} {p : PB} (hi : ps[i]? = some p) (t : Nat) (u : Value) (hu : (pbrow p)[t]? = some u) : w.cell? ⟨g, i * 3 + t, none⟩ = some u := by
  have hil := (List.getElem?_eq_some_iff.1 hi).1
  have hgd : (ps.map pbrow).getD i [] = pbrow p := by rw [List.getD_eq_getElem?_getD, List.getElem?_map, hi]; rfl
  have h1 := h.o.rangeAt i (by rw [List.length_map]; exact hil)
  rw [hgd] at h1
  exact h1 t u hu
theorem BMS.fz {g n c : Nat} (h : BMS w base (.slice (some ⟨g, 0, none⟩) n c) l ps) (j : Nat) : w.frozen? ⟨g, j, none⟩ = false := by
  obtain ⟨_, _, _, _, cur, hc, _⟩ := h.o.parts
  simp [World.frozen?, hc]
/-- the spans of one bitmap are others -/
theorem BMS.setL {g n c : Nat} (h : BMS w base (.slice (some ⟨g, 0, none⟩) n c) l ps) {i : Nat} {p : PB} (hi : ps[i]? = some p) {lv : Value} {ls : List Sp} (ho : OwnG w base 111 2 lv (ls.map spC)) (hl : ls.length ≤ 3000000000) :
    BMS (w.setCell ⟨g, i * 3 + 2, none⟩ lv) base (.slice (some ⟨g, 0, none⟩) n c) (l.set i { p.b with l := ls }) (ps.set i ⟨{ p.b with l := ls }, lv⟩) := by
  have hil := (List.getElem?_eq_some_iff.1 hi).1
  obtain ⟨_, hg, _, _, cur, hc, _⟩ := h.o.parts
  have hs := h.o.setOne i 2 lv (by rw [List.length_map]; exact hil) (by decide)
  have hgd : (ps.map pbrow).getD i [] = pbrow p := by rw [List.getD_eq_getElem?_getD, List.getElem?_map, hi]; rfl
  have he : (pbrow p).set 2 lv = pbrow ⟨{ p.b with l := ls }, lv⟩ := rfl
  rw [hgd, he, ← List.map_set] at hs
  have hkp : Kept w (w.setCell ⟨g, i * 3 + 2, none⟩ lv) (fun k => k ≠ g) := Kept.set w g _ _ (by simp)
  refine { e := by rw [List.map_set, ← h.e], o := hs, s := fun q hq => ?_, n := by rw [List.length_set]; exact h.n, k := fun b hb => ?_ }
  · have h9 : OwnG w base 111 2 q.lv (q.b.l.map spC) := by
      rcases List.mem_or_eq_of_mem_set hq with h1 | h1
      · exact h.s q h1
      · rw [h1]; exact ho
    exact h9.kept hkp fun k e => by obtain ⟨c9, f9, hc9⟩ := ownG_type h9 k e; exact blk_ne hc9 hc (by decide)
  · rcases List.mem_or_eq_of_mem_set hb with h1 | h1
    · exact h.k b h1
    · rw [h1]; exact hl
/-- one bitmap is switched -/
theorem BMS.setOn {g n c : Nat} (h : BMS w base (.slice (some ⟨g, 0, none⟩) n c) l ps) {i : Nat} {p : PB} (hi : ps[i]? = some p) (on : Bool) :
    BMS (w.setCell ⟨g, i * 3 + 1, none⟩ (.bool on)) base (.slice (some ⟨g, 0, none⟩) n c) (l.set i { p.b with on := on }) (ps.set i ⟨{ p.b with on := on }, p.lv⟩) := by
  have hil := (List.getElem?_eq_some_iff.1 hi).1
  obtain ⟨_, hg, _, _, cur, hc, _⟩ := h.o.parts
  have hs := h.o.setOne i 1 (.bool on) (by rw [List.length_map]; exact hil) (by decide)
  have hgd : (ps.map pbrow).getD i [] = pbrow p := by rw [List.getD_eq_getElem?_getD, List.getElem?_map, hi]; rfl
  have he : (pbrow p).set 1 (.bool on) = pbrow ⟨{ p.b with on := on }, p.lv⟩ := rfl
  rw [hgd, he, ← List.map_set] at hs
  have hkp : Kept w (w.setCell ⟨g, i * 3 + 1, none⟩ (.bool on)) (fun k => k ≠ g) := Kept.set w g _ _ (by simp)
  have hpm := List.mem_of_getElem? hi
  refine { e := by rw [List.map_set, ← h.e], o := hs, s := fun q hq => ?_, n := by rw [List.length_set]; exact h.n, k := fun b hb => ?_ }
  · have h9 : OwnG w base 111 2 q.lv (q.b.l.map spC) := by
      rcases List.mem_or_eq_of_mem_set hq with h1 | h1
      · exact h.s q h1
      · rw [h1]; exact h.s p hpm
    exact h9.kept hkp fun k e => by obtain ⟨c9, f9, hc9⟩ := ownG_type h9 k e; exact blk_ne hc9 hc (by decide)
  · rcases List.mem_or_eq_of_mem_set hb with h1 | h1
    · exact h.k b h1
    · rw [h1]; exact h.k p.b (by rw [h.e]; exact List.mem_map_of_mem hpm)
end
set_option maxRecDepth 100000 in
theorem clone108 (v : Value) (rows : List (List Value)) (B : Nat) (w : World) (h : SlG w B 3 v rows) (hB : B ≤ w.heap.size) (hr : ∀ r ∈ rows, r.length = 3) (hone : ∀ r ∈ rows, ∀ u ∈ r, u.oneCell' = true) (hl : rows.length ≤ 100000000000) : Calls Tryz.prog 62 #[v] w fun e w' => ∃ v', e = .returned v' ∧ OwnG w' w.heap.size 108 3 v' rows ∧ Below w.heap.size w w' := by
  obtain ⟨oa, cap, rfl, h1, h2, h3⟩ := id h
  cases oa with
  | none =>
    have hb : rows = [] := by
      cases rows with
      | nil => rfl
      | cons y r => obtain ⟨_, _, hh, _⟩ := h3 (by simp); cases hh
    subst hb
    have hq : ∀ w', (binOp .eql 43 (.slice none 0 cap) (.slice none 0 0)).run Tryz.prog w' = .ok (.bool true) w' := fun w' => run_eql_nil_slice w' 43 108 none 0 cap 0 0 Tryz.underlying43
    clear h h1 h2 h3
    go_enter Tryz.func62, Tryz.ntmps62
    go_wp2
    go_ret
    exact ⟨_, rfl, OwnG.nil _ _ _ _, Below.refl _ _⟩
  | some ad =>
    obtain ⟨N, hN⟩ : ∃ N, N = rows.length := ⟨_, rfl⟩
    rw [← hN] at h
    have hq : ∀ w', (binOp .eql 43 (.slice (some ad) N cap) (.slice none 0 0)).run Tryz.prog w' = .ok (.bool false) w' := fun w' => Lib.run_eql_slice_nil w' 43 108 _ _ _ _ _ Tryz.underlying43
    have HH := hid h
    have HN := hid hN
    rw [← hN]
    clear h h1 h2 h3 hN
    go_enter Tryz.func62, Tryz.ntmps62
    go_wp2_with (at_builtin; refine append_sg _ rfl _ _ 43 108 _ 3 48 rfl Tryz.underlying43 info108 rfl (by decide) w.heap.size _ [] rfl (OwnG.empty w 108 3) B _ rows rfl (HH.out.below ((Below.refl _ _).alloc (Nat.le_refl _) _) hB) hr hone ?_ ?_ ?_ ?_)
    · simp; omega
    · simp; omega
    · first | exact Nat.le_refl _ | (simp; try omega)
    intro v' w' ho' hg' hb'
    have hb := ((Below.refl w.heap.size w).alloc (Nat.le_refl _) (.cells #[] 108)).trans hb'
    have ho' : OwnG w' w.heap.size 108 3 v' rows := ho'
    clear hg' hb'
    go_wp2
    go_ret
    exact ⟨_, rfl, ho', hb⟩
set_option maxRecDepth 100000 in
theorem clone111 (v : Value) (rows : List (List Value)) (B : Nat) (w : World) (h : SlG w B 2 v rows) (hB : B ≤ w.heap.size) (hr : ∀ r ∈ rows, r.length = 2) (hone : ∀ r ∈ rows, ∀ u ∈ r, u.oneCell' = true) (hl : rows.length ≤ 100000000000) : Calls Tryz.prog 63 #[v] w fun e w' => ∃ v', e = .returned v' ∧ OwnG w' w.heap.size 111 2 v' rows ∧ Below w.heap.size w w' := by
  obtain ⟨oa, cap, rfl, h1, h2, h3⟩ := id h
  cases oa with
  | none =>
    have hb : rows = [] := by
      cases rows with
      | nil => rfl
      | cons y r => obtain ⟨_, _, hh, _⟩ := h3 (by simp); cases hh
    subst hb
    have hq : ∀ w', (binOp .eql 32 (.slice none 0 cap) (.slice none 0 0)).run Tryz.prog w' = .ok (.bool true) w' := fun w' => run_eql_nil_slice w' 32 111 none 0 cap 0 0 Tryz.underlying32
    clear h h1 h2 h3
    go_enter Tryz.func63, Tryz.ntmps63
    go_wp2
    go_ret
    exact ⟨_, rfl, OwnG.nil _ _ _ _, Below.refl _ _⟩
  | some ad =>
    obtain ⟨N, hN⟩ : ∃ N, N = rows.length := ⟨_, rfl⟩
    rw [← hN] at h
    have hq : ∀ w', (binOp .eql 32 (.slice (some ad) N cap) (.slice none 0 0)).run Tryz.prog w' = .ok (.bool false) w' := fun w' => Lib.run_eql_slice_nil w' 32 111 _ _ _ _ _ Tryz.underlying32
    have HH := hid h
    have HN := hid hN
    rw [← hN]
    clear h h1 h2 h3 hN
    go_enter Tryz.func63, Tryz.ntmps63
    go_wp2_with (at_builtin; refine append_sg _ rfl _ _ 32 111 _ 2 16 rfl Tryz.underlying32 info111 rfl (by decide) w.heap.size _ [] rfl (OwnG.empty w 111 2) B _ rows rfl (HH.out.below ((Below.refl _ _).alloc (Nat.le_refl _) _) hB) hr hone ?_ ?_ ?_ ?_)
    · simp; omega
    · simp; omega
    · first | exact Nat.le_refl _ | (simp; try omega)
    intro v' w' ho' hg' hb'
    have hb := ((Below.refl w.heap.size w).alloc (Nat.le_refl _) (.cells #[] 111)).trans hb'
    have ho' : OwnG w' w.heap.size 111 2 v' rows := ho'
    clear hg' hb'
    go_wp2
    go_ret
    exact ⟨_, rfl, ho', hb⟩
end Go.Proofs.YtgkabcaodnofnaaGreat
