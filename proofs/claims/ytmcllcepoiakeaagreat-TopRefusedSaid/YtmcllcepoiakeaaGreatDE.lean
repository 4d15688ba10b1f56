import Derived.Test.YtmcllcepoiakeaaGreatDC
import Derived.Deep.Upon
set_option linter.unusedSimpArgs false
set_option linter.unusedVariables false
namespace Go.Proofs.YtmcllcepoiakeaaGreat.Dx
open Go.RowKit Go.Mx Go.Mp Go.Dk Go.Maps
def usedIf (fs : List FR) (q : List UInt8 → Bool) : Nat := ((fs.filter fun f => q f.fm.name).map fun f => f.fm.now.length).sum
theorem usedIf_step (left : List UInt8 → Bool) : ∀ (fs : List FR) (hn : (fs.map (·.fm.name)).Nodup) (i : Nat) (f : FR) (hi : fs[i]? = some f) (hl : left f.fm.name = true),
    usedIf fs (fun t => !(left t && !(t == f.fm.name))) = usedIf fs (fun t => !left t) + f.fm.now.length
  | [], _, i, f, hi, _ => by simp at hi
  | g :: l, hn, 0, f, hi, hl => by
    simp at hi; subst hi
    rw [List.map_cons, List.nodup_cons] at hn
    have e : l.filter (fun x => !(left x.fm.name && !(x.fm.name == g.fm.name))) = l.filter (fun x => !left x.fm.name) := by
      apply List.filter_congr
      intro x hx
      have : (x.fm.name == g.fm.name) = false := by
        rw [beq_eq_false_iff_ne]; intro e; exact hn.1 (e ▸ List.mem_map.2 ⟨x, hx, rfl⟩)
      rw [this]; simp
    unfold usedIf
    rw [List.filter_cons, List.filter_cons]
    simp only [hl, e]
    simp; omega
  | g :: l, hn, i + 1, f, hi, hl => by
    rw [List.map_cons, List.nodup_cons] at hn
    have hf : f ∈ l := by simp at hi; exact List.mem_of_getElem? hi
    have ih := usedIf_step left l hn.2 i f (by simpa using hi) hl
    have hne : (g.fm.name == f.fm.name) = false := by
      rw [beq_eq_false_iff_ne]; intro e; exact hn.1 (e ▸ List.mem_map.2 ⟨f, hf, rfl⟩)
    unfold usedIf at ih ⊢
    rw [List.filter_cons, List.filter_cons]
    simp only [hne]
    cases hg : left g.fm.name
    · simp only [Bool.false_and, Bool.not_false, if_true, List.map_cons, List.sum_cons] at ih ⊢
      omega
    · simp only [Bool.true_and, Bool.not_false, Bool.not_true, Bool.false_eq_true, if_false]
      exact ih
theorem usedIf_le (fs : List FR) (q : List UInt8 → Bool) : usedIf fs q ≤ Dk.used (fs.map (·.fm)) := by
  unfold usedIf Dk.used
  induction fs with
  | nil => simp
  | cons g l ih =>
    rw [List.filter_cons]
    split
    · simp at ih ⊢; omega
    · simp at ih ⊢; omega
theorem usedIf_all (fs : List FR) (q : List UInt8 → Bool) (h : ∀ s, q s = true) : usedIf fs q = Dk.used (fs.map (·.fm)) := by
  unfold usedIf Dk.used
  rw [List.filter_eq_self.2 fun f _ => h _, List.map_map]; rfl
theorem usedIf_none (fs : List FR) (q : List UInt8 → Bool) (h : ∀ f ∈ fs, q f.fm.name = false) : usedIf fs q = 0 := by
  unfold usedIf
  rw [List.filter_eq_nil_iff.2 fun f hf => by rw [h f hf]; simp]; rfl
theorem plOf_names (fs : List FR) : (plOf fs).map (·.1) = fs.map (·.fm.name) := by unfold plOf; rw [List.map_map]; rfl
theorem look_mem {fs : List FR} {f : FR} (hf : f ∈ fs) : (Mp.look (plOf fs) f.fm.name).isSome = true := by
  cases h : Mp.look (plOf fs) f.fm.name with
  | some b => rfl
  | none => rw [look_none, plOf_names] at h; exact absurd (List.mem_map.2 ⟨f, hf, rfl⟩) h
theorem look_at {fs : List FR} {nm : List UInt8} {b : Nat} (h : Mp.look (plOf fs) nm = some b) : ∃ (i : Nat) (f : FR), fs[i]? = some f ∧ f.fm.name = nm ∧ f.fb = b := by
  induction fs with
  | nil => unfold plOf at h; simp [Mp.look_nil] at h
  | cons g l ih =>
    unfold plOf at h ih
    rw [List.map_cons, look_cons] at h
    by_cases e : g.fm.name = nm
    · rw [if_pos e] at h; exact ⟨0, g, rfl, e, by simpa using h⟩
    · rw [if_neg e] at h
      obtain ⟨i, f, h1, h2⟩ := ih h
      exact ⟨i + 1, f, by simpa using h1, h2⟩
section
variable {w : World} {base p : Nat} {d : DM} {fs : List FR} {m : Nat} {lv : Value} {x : Int} {V : Nat → Bool → Prop}
set_option maxRecDepth 100000 in
theorem used_any (h : DK w base p d fs m lv x V) (hV : ∀ i, V i true) (hu : Dk.used d.files ≤ 1000000000) : Calls Tryz.prog 6 #[dp p] w fun e w' => e = .returned (.int .i64 (Dk.used d.files)) ∧ Below w.heap.size w w' := by
  obtain ⟨c0, c1, c2, c3, c4, c5⟩ := h.cells
  have H := hid h
  have hmp := h.mp
  have hn : (fs.map (·.fm.name)).Nodup := by have := h.mp.nodup; rwa [plOf_names] at this
  have HN := hid hn
  have HU := hid hu
  have HF := hid h.files
  clear h c0 c2 c3 c4 c5 hn hu
  go_enter Tryz.func6, Tryz.ntmps6
  go_wp2_with (first
    | (at_range; refine range_pm _ rfl _ rfl Tryz.underlying9 Tryz.underlying61 rfl hmp ?_; intro w0 hrg0 hg0 hs0)
    | go_in)
  go_frame
  go_loopw [3] (fun n wr => ∃ (left : List UInt8 → Bool) (cnt : Nat), n = .int .i64 (usedIf fs fun t => !left t) ∧ RG Tryz.prog 9 wr m w.heap.size (plOf fs) left cnt ∧ Below w.heap.size w wr) (fun _ wr => wr.rangeLeft m w.heap.size)
  case atStart =>
    refine ⟨_, _, ?_, hrg0, (Below.refl w.heap.size w).grown hg0 (Nat.le_refl _) (by simp)⟩
    rw [usedIf_none fs _ fun f hf => by rw [look_mem hf]; rfl]; rfl
  case round =>
    obtain ⟨left, cnt, rfl, hrg, hbel⟩ := hrel
    clear hrg0 hg0 hs0
    go_wp2_with (first
      | (at_next; refine next_pm _ rfl _ rfl Tryz.underlying9 w.heap.size _ _ rfl hrg ?_ ?_)
      | go_in)
    · intro hl0
      rw [usedIf_all fs _ fun s => by rw [hl0]; rfl]
      rw [← HF.out]
      go_wp2
      go_ret
      exact ⟨rfl, hbel⟩
    · intro s b w1 cnt1 hlk hls hrg1 hlt hg1 hs1 hen
      obtain ⟨i, f, hi, rfl, rfl⟩ := look_at hlk
      have hb1 : Below w.heap.size w w1 := hbel.grown hg1 (by have := hbel.size; omega) (fun k hk => by cases hk; exact Nat.le_refl _)
      have h1 := H.out.below hb1
      obtain ⟨d0, d1, _⟩ := h1.fcells hi
      have hlen := fun w' => secs_len (h1.ow i f true hi (hV i)) w' (ty := 3)
      obtain ⟨oa, nn, c, hv⟩ := h1.sh i f true hi
      have hnv : f.nv = .slice oa nn c := hv
      rw [show sl f true = f.nv from rfl, hnv] at hlen
      rw [hnv] at d0
      have HS := hid (usedIf_step left fs HN.out i f hi hls)
      have hul := usedIf_le fs (fun t => !(left t && !(t == f.fm.name)))
      rw [HS.out, ← HF.out] at hul
      have hul2 := HU.out
      obtain ⟨U, hU⟩ : ∃ U, U = usedIf fs fun t => !left t := ⟨_, rfl⟩
      rw [← hU] at HS hul ⊢
      obtain ⟨N, hN⟩ : ∃ N, N = (rws f true).length := ⟨_, rfl⟩
      have hlen' : ∀ w', (Builtin.len_ #[66] 3 #[.slice oa nn c]).run Tryz.prog w' = .ok (.int .i64 N) w' := fun w' => by rw [hN]; exact hlen w'
      have hN' : N = f.fm.now.length := hN
      rw [← hN'] at HS hul
      have hwr : IntKind.i64.wrap ((U : Int) + (N : Int)) = (U : Int) + (N : Int) := IntWalk.i64_in _ (by omega)
      have HR := hid (And.intro hrg1 (And.intro hlt (And.intro hb1 hrg)))
      clear hN hN' hU hlen hv hnv h1 hb1 hbel hrg1 hlt hg1 hs1 hul hul2 d1 hls hlk hrg
      go_wp2_with fail
      go_roundw
      case rel => exact ⟨_, cnt1, by rw [HS.out]; simp, HR.out.1, HR.out.2.2.1⟩
      case measure => rw [HR.out.1.left_eq, HR.out.2.2.2.left_eq]; exact HR.out.2.1
end
end Go.Proofs.YtmcllcepoiakeaaGreat.Dx
namespace Go.Mx
open Go.RowKit
theorem toList_set {α : Type} (a : Array α) (i : Nat) (x : α) : (a.setIfInBounds i x).toList = a.toList.set i x := by simp
theorem heap_setCells_at : ∀ (vs : List Value) (w : World) (g o : Nat) (cur : Array Value) (e : TypeId) (fr : Nat × Nat), w.heap[g]? = some (.cells cur e fr) → o + vs.length ≤ cur.size →
    ∃ cur' : Array Value, (w.setCells g o vs).heap[g]? = some (.cells cur' e fr) ∧ cur'.toList = cur.toList.take o ++ (vs ++ cur.toList.drop (o + vs.length))
  | [], w, g, o, cur, e, fr, h, _ => ⟨cur, h, by simp⟩
  | v :: r, w, g, o, cur, e, fr, h, hl => by
    simp only [List.length_cons] at hl
    obtain ⟨cur', h1, h2⟩ := heap_setCells_at r (w.setCell ⟨g, o, none⟩ v) g (o + 1) (cur.setIfInBounds o v) e fr (heap_setCell_at' w g o v cur e fr h) (by simp; omega)
    refine ⟨cur', h1, ?_⟩
    have hol : o < cur.toList.length := by simp; omega
    have e1 : (cur.toList.set o v).take (o + 1) = cur.toList.take o ++ [v] := by
      rw [List.take_add_one, List.take_set_of_le (Nat.le_refl _), List.getElem?_set_self (by omega)]; rfl
    have e2 : (cur.toList.set o v).drop (o + 1 + r.length) = cur.toList.drop (o + 1 + r.length) := by
      rw [List.drop_set]; rw [if_pos (by omega)]
    rw [h2, toList_set, e1, e2, List.length_cons, show o + (r.length + 1) = o + 1 + r.length by omega]
    simp
theorem Below.setCells {B : Nat} {w0 : World} : ∀ (vs : List Value) {w : World} (h : Below B w0 w) {g o : Nat} (hg : B ≤ g), Below B w0 (w.setCells g o vs)
  | [], _, h, _, _, _ => h
  | v :: r, w, h, g, o, hg => Below.setCells r (h.setCell (p := ⟨g, o, none⟩) hg v) hg
theorem size_setCells : ∀ (vs : List Value) (w : World) (g o : Nat), (w.setCells g o vs).heap.size = w.heap.size
  | [], _, _, _ => rfl
  | v :: r, w, g, o => (size_setCells r _ g (o + 1)).trans (by simp)
theorem Kept.setCells (w : World) (g o : Nat) (vs : List Value) {N : Nat → Prop} (hn : ¬ N g) : Kept w (w.setCells g o vs) N :=
  ⟨Nat.le_of_eq (size_setCells vs w g o).symm, fun k hk hN => World.heap_setCells_other w g o vs hk fun e => hn (e ▸ hN)⟩
theorem flat_take {s : Nat} : ∀ (rows : List (List Value)) (m : Nat), (∀ r ∈ rows, r.length = s) → rows.flatten.take (m * s) = (rows.take m).flatten
  | [], m, _ => by simp
  | r :: rows, 0, _ => by simp
  | r :: rows, m + 1, h => by
    have hr : r.length = s := h r (by simp)
    rw [List.flatten_cons, Nat.succ_mul, List.take_succ_cons, List.flatten_cons, ← flat_take rows m fun x hx => h x (by simp [hx]), List.take_append, List.take_of_length_le (by omega), hr]
    congr 2; omega
theorem flat_drop {s : Nat} : ∀ (rows : List (List Value)) (m : Nat), (∀ r ∈ rows, r.length = s) → rows.flatten.drop (m * s) = (rows.drop m).flatten
  | [], m, _ => by simp
  | r :: rows, 0, _ => by simp
  | r :: rows, m + 1, h => by
    have hr : r.length = s := h r (by simp)
    rw [List.flatten_cons, Nat.succ_mul, List.drop_succ_cons, ← flat_drop rows m fun x hx => h x (by simp [hx]), List.drop_append, List.drop_of_length_le (by omega), hr]
    simp
theorem flat_set {s : Nat} (rows : List (List Value)) (j : Nat) (row : List Value) (hj : j < rows.length) (h : ∀ r ∈ rows, r.length = s) : (rows.set j row).flatten = rows.flatten.take (j * s) ++ (row ++ rows.flatten.drop (j * s + s)) := by
  rw [flat_take rows j h, show j * s + s = (j + 1) * s by rw [Nat.succ_mul], flat_drop rows (j + 1) h]
  rw [List.set_eq_take_append_cons_drop, if_pos hj]
  simp
theorem splice_take {α : Type} (L : List α) (a s N : Nat) (row : List α) (hr : row.length = s) (h : a + s ≤ N) (hN : N ≤ L.length) : (L.take a ++ (row ++ L.drop (a + s))).take N = (L.take N).take a ++ (row ++ (L.take N).drop (a + s)) := by
  have h1 : min N a = a := by omega
  have h2 : min a N = a := by omega
  have h3 : min a L.length = a := by omega
  rw [List.take_append, List.take_take, List.take_append, List.take_take, List.drop_take, List.length_take, h1, h2, h3, List.take_of_length_le (by omega : row.length ≤ N - a), hr, show N - a - s = N - (a + s) by omega]
section
variable {w : World} {base : Nat} {e : TypeId} {s g n c : Nat} {rows : List (List Value)}
theorem OwnG.parts (h : OwnG w base e s (.slice (some ⟨g, 0, none⟩) n c) rows) : n = rows.length ∧ base ≤ g ∧ rows.length ≤ c ∧ c ≤ maxLen ∧ ∃ cur : Array Value, w.heap[g]? = some (.cells cur e (0, 0)) ∧ cur.size = c * s ∧ cur.toList.take (rows.length * s) = rows.flatten := by
  have hf := flat_len rows h.2
  rcases h.1.2 with ⟨hv, _⟩ | ⟨g', cap, cur, hv, hb, hg, hn, hm, hs, ht⟩
  · cases hv
  · cases hv
    exact ⟨rfl, hb, hn, hm, cur, hg, hs, ht⟩
theorem OwnG.make (hb : base ≤ g) (hn : rows.length ≤ c) (hm : c ≤ maxLen) {cur : Array Value} (hg : w.heap[g]? = some (.cells cur e (0, 0))) (hs : cur.size = c * s) (ht : cur.toList.take (rows.length * s) = rows.flatten) (hr : ∀ r ∈ rows, r.length = s) :
    OwnG w base e s (.slice (some ⟨g, 0, none⟩) rows.length c) rows :=
  ⟨⟨flat_len rows hr, .inr ⟨g, c, cur, rfl, hb, hg, hn, hm, hs, ht⟩⟩, hr⟩
/-- a store of one row -/
theorem OwnG.setAt (h : OwnG w base e s (.slice (some ⟨g, 0, none⟩) n c) rows) (j : Nat) (row : List Value) (hj : j < rows.length) (hl : row.length = s) : OwnG (w.setCells g (j * s) row) base e s (.slice (some ⟨g, 0, none⟩) n c) (rows.set j row) := by
  obtain ⟨rfl, hb, hn, hm, cur, hg, hs, ht⟩ := h.parts
  have hjs : j * s + s ≤ rows.length * s := by rw [← Nat.succ_mul]; exact Nat.mul_le_mul_right _ hj
  have hcs : rows.length * s ≤ c * s := Nat.mul_le_mul_right _ hn
  obtain ⟨cur', hg', ht'⟩ := heap_setCells_at row w g (j * s) cur e (0, 0) hg (by omega)
  have hr' : ∀ r ∈ rows.set j row, r.length = s := fun r hr => by
    rcases List.mem_or_eq_of_mem_set hr with h1 | h1
    · exact h.2 r h1
    · rw [h1]; exact hl
  have hsz : cur'.size = c * s := by
    have := congrArg List.length ht'
    simp only [List.length_append, List.length_take, List.length_drop, Array.length_toList] at this
    omega
  have := OwnG.make (w := w.setCells g (j * s) row) (rows := rows.set j row) hb (by simpa using hn) hm hg' hsz ?_ hr'
  · simpa using this
  · rw [ht', List.length_set, flat_set rows j row hj h.2, ← ht, hl]
    exact splice_take cur.toList (j * s) s (rows.length * s) row hl hjs (by have := Array.length_toList (xs := cur); omega)
/-- fewer rows, whatever stands behind them -/
theorem OwnG.tail (h : OwnG w base e s (.slice (some ⟨g, 0, none⟩) n c) rows) (m : Nat) (hm' : m ≤ rows.length) (zs : List Value) (hz : m * s + zs.length ≤ c * s) : OwnG (w.setCells g (m * s) zs) base e s (.slice (some ⟨g, 0, none⟩) m c) (rows.take m) := by
  obtain ⟨rfl, hb, hn, hm, cur, hg, hs, ht⟩ := h.parts
  have hms : m * s ≤ rows.length * s := Nat.mul_le_mul_right _ hm'
  obtain ⟨cur', hg', ht'⟩ := heap_setCells_at zs w g (m * s) cur e (0, 0) hg (by omega)
  have hsz : cur'.size = c * s := by
    have := congrArg List.length ht'
    simp only [List.length_append, List.length_take, List.length_drop, Array.length_toList] at this
    omega
  have hl : (rows.take m).length = m := by simp; omega
  have := OwnG.make (w := w.setCells g (m * s) zs) (rows := rows.take m) hb (by omega) hm hg' hsz ?_ (fun r hr => h.2 r (List.mem_of_mem_take hr))
  · rwa [hl] at this
  · rw [hl, ht', ← flat_take rows m h.2, ← ht, List.take_take, Nat.min_eq_left hms, List.take_append, List.take_take, Nat.min_self, List.length_take, Array.length_toList, Nat.min_eq_left (by omega), Nat.sub_self]
    simp
theorem OwnG.prefix (h : OwnG w base e s (.slice (some ⟨g, 0, none⟩) n c) rows) (m : Nat) (hm' : m ≤ rows.length) : OwnG w base e s (.slice (some ⟨g, 0, none⟩) m c) (rows.take m) := by
  obtain ⟨rfl, hb, hn, hm, cur, hg, hs, ht⟩ := h.parts
  have := Nat.mul_le_mul_right s hn
  exact h.tail m hm' [] (by have := Nat.mul_le_mul_right s hm'; simp only [List.length_nil]; omega)
theorem OwnG.rangeAt (h : OwnG w base e s (.slice (some ⟨g, 0, none⟩) n c) rows) (j : Nat) (hj : j < rows.length) : w.rangeAt g (j * s) (rows.getD j []) := by
  intro i v hv
  have h1 := World.ownsRow.cells h.1 (g := g) rfl (j * s + i) v (flatten_at s rows j i v h.2 hj hv)
  rwa [addr_add] at h1
theorem OwnG.there (h : OwnG w base e s (.slice (some ⟨g, 0, none⟩) n c) rows) (o m : Nat) (hm : o + m ≤ c * s) : w.there g o m := by
  obtain ⟨rfl, hb, hn, _, cur, hg, hs, ht⟩ := h.parts
  intro i hi
  have hlt : o + i < cur.size := by omega
  refine ⟨?_, ?_⟩
  · simp [World.cell?, hg, hlt]
  · simp [World.frozen?, hg]
end
theorem zero_cells_mem (zc : Array Value) (n : Nat) (h : ∀ k, k < zc.size → (zc[k]!).oneCell' = true) : ∀ v ∈ (Builtin.zeroCells zc n).toList, v.oneCell' = true := by
  intro v hv
  unfold Builtin.zeroCells at hv
  simp only [Array.toList_map, List.mem_map, Array.mem_toList_iff, Array.mem_range] at hv
  obtain ⟨i, hi, rfl⟩ := hv
  refine h _ (Nat.mod_lt _ ?_)
  rcases Nat.eq_zero_or_pos zc.size with h0 | h0
  · rw [h0] at hi; simp at hi
  · exact h0
theorem zero_cells_len (zc : Array Value) (n : Nat) : (Builtin.zeroCells zc n).toList.length = n * zc.size := by simp [Builtin.zeroCells]
/-- 'clear(s)' of rows -/
theorem run_clear_rows {P : Program} (w : World) (t e ty : TypeId) (z : Value) (ht : P.underlying t = some (.slice e)) (hv : ∀ w, (zeroValue e).run P w = .ok z w) (h1 : ∀ k, k < z.cells.size → (z.cells[k]!).oneCell' = true) (b o n c : Nat) (hn : 0 < n)
    (hth : w.there b o (n * z.cells.size)) :
    (Builtin.clear_ #[t] ty #[.slice (some ⟨b, o, none⟩) n c]).run P w = .ok (.tuple #[]) (w.setCells b o (Builtin.zeroCells z.cells n).toList) := by
  have hl := zero_cells_len z.cells n
  have hst := run_storeCells_cells (P := P) b o (Builtin.zeroCells z.cells n).toList 0 w (fun j hj => by simpa using (hth j (by omega)).1) (fun j hj => by simpa using (hth j (by omega)).2) (zero_cells_mem _ _ h1)
  simp only [Nat.add_zero] at hst
  obtain ⟨m, rfl⟩ : ∃ m, n = m + 1 := ⟨n - 1, by omega⟩
  simp [Builtin.clear_, run_underlying ht, hv, hst]
theorem alloc_setCells (w : World) (Z : Array Value) (e : TypeId) (vs : List Value) (h : vs.length = Z.size) : (w.alloc (.cells Z e)).setCells w.heap.size 0 vs = w.alloc (.cells vs.toArray e) := by
  have key : ∀ (vs : List Value) (o : Nat) (Z : Array Value), o + vs.length = Z.size → (w.alloc (.cells Z e)).setCells w.heap.size o vs = w.alloc (.cells (Z.toList.take o ++ vs).toArray e) := by
    intro vs
    induction vs with
    | nil => intro o Z h; simp at h; rw [h]; show _ = _; simp only [World.setCells]; congr 2; simp; rw [List.take_of_length_le (by simp)]
    | cons v r ih =>
      intro o Z h
      simp only [List.length_cons] at h
      have e0 : (w.alloc (.cells Z e)).setCell ⟨w.heap.size, o, none⟩ v = w.alloc (.cells (Z.setIfInBounds o v) e) := by
        unfold World.setCell World.alloc
        simp only [World.mk.injEq, and_true]
        apply Array.ext_getElem?
        intro i
        rw [Array.getElem?_modify]
        by_cases hi : w.heap.size = i
        · subst hi; simp
        · rw [if_neg hi]
          rw [Array.getElem?_push, Array.getElem?_push, if_neg (Ne.symm hi), if_neg (Ne.symm hi)]
      show ((w.alloc (.cells Z e)).setCell ⟨w.heap.size, o, none⟩ v).setCells w.heap.size (o + 1) r = _
      rw [e0, ih (o + 1) _ (by simp; omega)]
      congr 3
      rw [toList_set, List.take_add_one, List.take_set_of_le (Nat.le_refl _), List.getElem?_set_self (by simp; omega)]
      simp
  have := key vs 0 Z (by omega)
  simpa using this
end Go.Mx
