import Derived.Test.YtbklhhmcigangaaL8
import Derived.Test.YtbklhhmcigangaaV2
import Derived.Test.YtbklhhmcigangaaMS
import Derived.Test.YtbklhhmcigangaaK
namespace Go.Lr
/-- an item of the document's cache -/
structure It where
  k : Int
  b : List UInt8
  d : Bool
structure RC where
  room : Nat
  l : List It
  r : List (Int × Int)
/-- the place of a key -/
def atR : List It → Int → Option Nat
  | [], _ => none
  | it :: l, k => if it.k = k then some 0 else (atR l k).map (· + 1)
def atI (l : List It) (k : Int) : Int := match atR l k with
  | some i => i
  | none => -1
theorem atR_none {l : List It} {k : Int} : atR l k = none ↔ k ∉ l.map (·.k) := by
  induction l with
  | nil => simp [atR]
  | cons it l ih =>
    unfold atR
    by_cases h : it.k = k
    · rw [if_pos h]; simp [h]
    · rw [if_neg h, Option.map_eq_none_iff, ih]
      simp only [List.map_cons, List.mem_cons]
      constructor
      · rintro h1 (h2 | h2)
        · exact h h2.symm
        · exact h1 h2
      · exact fun h1 h2 => h1 (.inr h2)
theorem atR_of {l : List It} {k : Int} {i : Nat} {it : It} (hi : l[i]? = some it) (hk : it.k = k) (hb : ∀ x ∈ l.take i, x.k ≠ k) : atR l k = some i := by
  induction l generalizing i with
  | nil => simp at hi
  | cons y l ih =>
    unfold atR
    cases i with
    | zero => simp at hi; subst hi; rw [if_pos hk]
    | succ i =>
      have h1 : y.k ≠ k := hb y (by simp)
      rw [if_neg h1, ih (by simpa using hi) fun x hx => hb x (by simp [hx])]; rfl
theorem atR_some {l : List It} {k : Int} {i : Nat} (h : atR l k = some i) : ∃ it, l[i]? = some it ∧ it.k = k := by
  induction l generalizing i with
  | nil => cases h
  | cons y l ih =>
    unfold atR at h
    split at h
    · rename_i hk; cases h; exact ⟨y, rfl, hk⟩
    · cases hr : atR l k with
      | none => rw [hr] at h; cases h
      | some j =>
        rw [hr] at h; cases h
        obtain ⟨it, h1, h2⟩ := ih hr
        exact ⟨it, by simpa using h1, h2⟩
theorem atI_some {l : List It} {k : Int} {i : Nat} (h : atR l k = some i) : atI l k = i := by unfold atI; rw [h]
theorem atI_none {l : List It} {k : Int} (h : atR l k = none) : atI l k = -1 := by unfold atI; rw [h]
def dirtyR (l : List It) (k : Int) : Bool := match atR l k with
  | some i => ((l[i]?).map (·.d)).getD false
  | none => false
end Go.Lr
namespace Go.Mx
theorem flat_set1 {s : Nat} (u : Value) (t : Nat) (ht : t < s) : ∀ (rows : List (List Value)) (j : Nat), (∀ r ∈ rows, r.length = s) → j < rows.length → (rows.set j ((rows.getD j []).set t u)).flatten = rows.flatten.set (j * s + t) u
  | [], j, _, hj => by simp at hj
  | r :: rows, 0, h, _ => by
    have hr : r.length = s := h r (by simp)
    simp only [List.getD_cons_zero, List.set_cons_zero, List.flatten_cons, Nat.zero_mul, Nat.zero_add]
    rw [List.set_append, if_pos (by omega)]
  | r :: rows, j + 1, h, hj => by
    have hr : r.length = s := h r (by simp)
    simp only [List.getD_cons_succ, List.set_cons_succ, List.flatten_cons]
    rw [flat_set1 u t ht rows j (fun x hx => h x (by simp [hx])) (by simpa using hj), List.set_append, if_neg (by rw [hr, Nat.succ_mul]; omega)]
    congr 2
    rw [hr, Nat.succ_mul]; omega
/-- a store of one cell of a row -/
theorem OwnG.setOne {w : World} {base : Nat} {e : TypeId} {g n c s : Nat} {rows : List (List Value)} (h : OwnG w base e s (.slice (some ⟨g, 0, none⟩) n c) rows) (j t : Nat) (u : Value) (hj : j < rows.length) (ht : t < s) :
    OwnG (w.setCell ⟨g, j * s + t, none⟩ u) base e s (.slice (some ⟨g, 0, none⟩) n c) (rows.set j ((rows.getD j []).set t u)) := by
  have hgm : rows.getD j [] ∈ rows := by rw [List.getD_eq_getElem?_getD, List.getElem?_eq_getElem hj]; exact List.getElem_mem _
  have hl : ∀ r ∈ rows.set j ((rows.getD j []).set t u), r.length = s := fun r hr => by
    rcases List.mem_or_eq_of_mem_set hr with h1 | h1
    · exact h.2 r h1
    · rw [h1, List.length_set]; exact h.2 _ hgm
  refine ⟨⟨?_, ?_⟩, hl⟩
  · rw [flat_set1 u t ht rows j h.2 hj]; have := h.1.1; simp only [List.length_set] at this ⊢; exact this
  · rcases h.1.2 with ⟨hv, _⟩ | ⟨g', cap, cur, hv, hb, hg, hn, hm, hs, ht'⟩
    · cases hv
    · cases hv
      refine .inr ⟨g, _, cur.setIfInBounds (j * s + t) u, by simp, hb, heap_setCell_at' w g _ _ cur e _ hg, by simpa using hn, hm, by simpa using hs, ?_⟩
      rw [flat_set1 u t ht rows j h.2 hj, Array.toList_setIfInBounds, List.take_set, List.length_set, ht']
end Go.Mx
namespace Go.Proofs.Ytbklhhmcigangaa
open Go.RowKit Go.Mx Go.Lr Go.Maps
set_option linter.unusedVariables false
set_option linter.unusedSimpArgs false
/-- how an item lies in memory -/
structure PI where
  it : It
  bv : Value
abbrev itrow (f : PI) : List Value := [.int .i64 f.it.k, f.bv, .bool f.it.d]
abbrev relrow (q : Int × Int) : List Value := [.int .i64 q.1, .int .i64 q.2]
/-- the document's cache in memory -/
structure RK (w : World) (base q : Nat) (r : RC) (ls : List PI) (lv rv : Value) : Prop where
  l : r.l = ls.map (·.it)
  ck : w.heap[q]? = some (.cells #[.int .i64 r.room, lv, rv] 81 (0, 0))
  hq : base ≤ q
  ol : OwnG w base 88 3 lv (ls.map itrow)
  orr : OwnG w base 98 2 rv (r.r.map relrow)
  ob : ∀ f ∈ ls, OwnB w base 5 f.bv f.it.b
  nd : (r.l.map (·.k)).Nodup
  ll : r.l.length ≤ 2000
  lr : r.r.length ≤ 2000
/-- blocks that may be the document's cache's -/
def RMay (w : World) (k : Nat) : Prop := ∃ c t f, w.heap[k]? = some (.cells c t f) ∧ (t = 81 ∨ t = 88 ∨ t = 98 ∨ t = 5)
/-- a step of the document's cache -/
def KR (w w' : World) : Prop := Kept w w' (fun k => ∀ c t f, w.heap[k]? = some (.cells c t f) → t ≠ 81 ∧ t ≠ 88 ∧ t ≠ 98)
theorem KR.refl (w : World) : KR w w := ⟨Nat.le_refl _, fun _ _ _ => rfl⟩
theorem KR.trans {a b c : World} (h : KR a b) (k : KR b c) : KR a c :=
  ⟨Nat.le_trans h.size k.size, fun i hi hf => (k.block i (Nat.lt_of_lt_of_le hi h.size) (fun c t f hq => hf c t f (by rw [← h.block i hi hf]; exact hq))).trans (h.block i hi hf)⟩
theorem KR.below {w w' : World} (h : Below w.heap.size w w') : KR w w' := Kept.of_below h fun _ h _ => h
section
variable {w w' : World} {base q : Nat} {r : RC} {ls : List PI} {lv rv : Value}
theorem RK.keep (h : RK w base q r ls lv rv) {N : Nat → Prop} (hk : Kept w w' N) (hN : ∀ k, k < w.heap.size → RMay w k → N k) : RK w' base q r ls lv rv where
  l := h.l
  ck := (hk.block q (blk_lt h.ck) (hN _ (blk_lt h.ck) ⟨_, _, _, h.ck, by simp⟩)).trans h.ck
  hq := h.hq
  ol := h.ol.kept hk fun k e => by
    obtain ⟨c, f, hc⟩ := ownG_type h.ol k e
    exact hN k (blk_lt hc) ⟨_, _, _, hc, by simp⟩
  orr := h.orr.kept hk fun k e => by
    obtain ⟨c, f, hc⟩ := ownG_type h.orr k e
    exact hN k (blk_lt hc) ⟨_, _, _, hc, by simp⟩
  ob := fun f hf => (h.ob f hf).kept hk fun k e => by
    obtain ⟨c, f9, hc⟩ := ownB_type (h.ob f hf) k e
    exact hN k (blk_lt hc) ⟨_, _, _, hc, by simp⟩
  nd := h.nd
  ll := h.ll
  lr := h.lr
theorem RK.below (h : RK w base q r ls lv rv) (hb : Below w.heap.size w w') : RK w' base q r ls lv rv :=
  h.keep (N := fun _ => True) (.of_below hb fun _ h _ => h) fun _ _ _ => trivial
theorem RK.kt (h : RK w base q r ls lv rv) (hk : KT w w') : RK w' base q r ls lv rv :=
  h.keep hk fun k _ ⟨c, t, f, hc, ht⟩ => ⟨c, t, f, hc, by rcases ht with rfl | rfl | rfl | rfl <;> decide⟩
theorem HC.kr {p : Nat} {c : CM} (h : HC w base p c) (hk : KR w w') : HC w' base p c :=
  h.keepT hk fun k _ hm c t f hc => by
    rcases hm c t f hc with rfl | rfl | rfl | rfl <;> decide
theorem ownI_kr {b2 : Nat} {v : Value} {l : List Int} (h : OwnI w b2 v l) (hk : KR w w') : OwnI w' b2 v l :=
  ownI_kept h hk fun k e c t f hc => by
    obtain ⟨c9, f9, hc9⟩ := ownI_type h k e
    rw [hc9] at hc; cases hc; decide
theorem RK.qlt (h : RK w base q r ls lv rv) : q < w.heap.size := blk_lt h.ck
theorem RK.base_le (h : RK w base q r ls lv rv) : base ≤ w.heap.size := by have := h.hq; have := h.qlt; omega
theorem RK.cells (h : RK w base q r ls lv rv) : w.cell? ⟨q, 0, none⟩ = some (.int .i64 r.room) ∧ w.cell? ⟨q, 1, none⟩ = some lv ∧ w.cell? ⟨q, 2, none⟩ = some rv ∧ (∀ j, w.frozen? ⟨q, j, none⟩ = false) := by
  have h := h.ck
  refine ⟨?_, ?_, ?_, fun j => ?_⟩
  · simp [World.cell?, h]
  · simp [World.cell?, h]
  · simp [World.cell?, h]
  · simp [World.frozen?, h]
theorem size88 (w : World) : (sizeOf 88).run Try.prog w = .ok 3 w := by kernel_rfl
theorem size98 (w : World) : (sizeOf 98).run Try.prog w = .ok 2 w := by kernel_rfl
theorem ownG_sh {w : World} {base : Nat} {e : TypeId} {s : Nat} {v : Value} {rows : List (List Value)} (h : OwnG w base e s v rows) : ∃ oa n c, v = .slice oa n c := by
  rcases h.shape with ⟨rfl, _⟩ | ⟨g, c, rfl, _⟩ <;> exact ⟨_, _, _, rfl⟩
theorem RK.shapes (h : RK w base q r ls lv rv) : (∃ oa n c, lv = .slice oa n c) ∧ ∃ oa n c, rv = .slice oa n c := ⟨ownG_sh h.ol, ownG_sh h.orr⟩
theorem RK.lenL (h : RK w base q r ls lv rv) (w' : World) : (Builtin.len_ #[78] 3 #[lv]).run Try.prog w' = .ok (.int .i64 r.l.length) w' := by
  have := h.ol.slG.len (P := Try.prog) Try.underlying78 (ty := 3) w'
  rw [h.l]; rw [List.length_map] at this ⊢; exact this
theorem RK.lenR (h : RK w base q r ls lv rv) (w' : World) : (Builtin.len_ #[79] 3 #[rv]).run Try.prog w' = .ok (.int .i64 r.r.length) w' := by
  have := h.orr.slG.len (P := Try.prog) Try.underlying79 (ty := 3) w'
  rw [List.length_map] at this; exact this
/-- an item's place and cells -/
theorem RK.item (h : RK w base q r ls lv rv) {i : Nat} {f : PI} (hi : ls[i]? = some f) : ∃ b o, b < w.heap.size ∧ (∀ w' (k : IntKind), (Instr.indexAt 78 lv (.int k (i : Int))).run Try.prog w' = .ok (.pointer (some ⟨b, o, none⟩)) w') ∧
    w.cell? ⟨b, o, none⟩ = some (.int .i64 f.it.k) ∧ w.cell? ⟨b, o + 1, none⟩ = some f.bv ∧ w.cell? ⟨b, o + 2, none⟩ = some (.bool f.it.d) := by
  have hl : i < (ls.map itrow).length := by rw [List.length_map]; exact (List.getElem?_eq_some_iff.1 hi).1
  obtain ⟨b, o, hb, h1, h2⟩ := h.ol.slG.addr (P := Try.prog) Try.underlying78 size88 i hl
  have hg : (ls.map itrow).getD i [] = itrow f := by rw [List.getD_eq_getElem?_getD, List.getElem?_map, hi]; rfl
  rw [hg] at h2
  exact ⟨b, o, hb, h1, h2 0 _ rfl, h2 1 _ rfl, h2 2 _ rfl⟩
theorem RK.rel (h : RK w base q r ls lv rv) {i : Nat} {f : Int × Int} (hi : r.r[i]? = some f) : ∃ b o, b < w.heap.size ∧ (∀ w' (k : IntKind), (Instr.indexAt 79 rv (.int k (i : Int))).run Try.prog w' = .ok (.pointer (some ⟨b, o, none⟩)) w') ∧
    w.cell? ⟨b, o, none⟩ = some (.int .i64 f.1) ∧ w.cell? ⟨b, o + 1, none⟩ = some (.int .i64 f.2) := by
  have hl : i < (r.r.map relrow).length := by rw [List.length_map]; exact (List.getElem?_eq_some_iff.1 hi).1
  obtain ⟨b, o, hb, h1, h2⟩ := h.orr.slG.addr (P := Try.prog) Try.underlying79 size98 i hl
  have hg : (r.r.map relrow).getD i [] = relrow f := by rw [List.getD_eq_getElem?_getD, List.getElem?_map, hi]; rfl
  rw [hg] at h2
  exact ⟨b, o, hb, h1, h2 0 _ rfl, h2 1 _ rfl⟩
set_option maxRecDepth 100000 in
theorem rat_any (h : RK w base q r ls lv rv) (k : Int) : Calls Try.prog 48 #[cp q, .int .i64 k] w fun e w' => e = .returned (.int .i64 (atI r.l k)) ∧ Below w.heap.size w w' := by
  have H := hid h
  obtain ⟨⟨la, ln, lc, rfl⟩, _⟩ := h.shapes
  have hlen := h.lenL
  have hll := h.ll
  clear h
  go_enter Try.func48, Try.ntmps48
  go_wp2_with fail
  go_loopw [5] (fun t wr => ∃ j : Nat, j ≤ r.l.length ∧ t = .int .i64 j ∧ Below w.heap.size w wr ∧ ∀ x ∈ r.l.take j, x.k ≠ k) (fun t _ => r.l.length - (intOf t).toNat)
  case atStart => exact ⟨0, by omega, rfl, Below.refl _ _, by simp⟩
  case round =>
    obtain ⟨j, hj, rfl, hbl, hT⟩ := hrel
    have hR := H.out.below hbl
    have c1 := hR.cells.2.1
    by_cases hlt : j < r.l.length
    · have hjl : j < ls.length := by have := H.out.l; rw [this, List.length_map] at hlt; exact hlt
      obtain ⟨f, hf⟩ : ∃ f, ls[j]? = some f := ⟨_, List.getElem?_eq_getElem hjl⟩
      have hrf : r.l[j]? = some f.it := by rw [H.out.l, List.getElem?_map, hf]; rfl
      obtain ⟨b, o, hb, hia, g0, _⟩ := hR.item hf
      have HN := hid (show r.l.take (j + 1) = r.l.take j ++ [f.it] by rw [List.take_add_one, hrf]; rfl)
      obtain ⟨x, hx⟩ : ∃ x, x = f.it.k := ⟨_, rfl⟩
      rw [← hx] at g0
      have HB := hid (And.intro hbl (And.intro hT (And.intro hrf hx)))
      clear hbl hT hrf hx hR hf hb
      by_cases hxk : x = k
      · subst hxk
        have hbe : (x == x) = true := by simp
        go_wp2_with fail
        go_ret
        exact ⟨by rw [atI_some (atR_of HB.out.2.2.1 HB.out.2.2.2.symm HB.out.2.1)]; rfl, HB.out.1⟩
      · have hbe : (x == k) = false := by simpa using hxk
        have HXK := hid hxk
        clear hxk
        go_wp2_with fail
        refine ⟨⟨j + 1, by omega, by go_num, HB.out.1, ?_⟩, by simp [intOf]; omega⟩
        intro y hy
        rw [HN.out] at hy
        rcases List.mem_append.1 hy with hy | hy
        · exact HB.out.2.1 y hy
        · simp at hy; rw [hy, ← HB.out.2.2.2]; exact HXK.out
    · obtain rfl : j = r.l.length := by omega
      rw [List.take_length] at hT
      have HT := hid hT
      clear hT hR
      go_wp2
      go_ret
      refine ⟨?_, hbl⟩
      rw [atI_none (atR_none.2 fun hm => by obtain ⟨y, hy, hk⟩ := List.mem_map.1 hm; exact HT.out y hy hk)]; rfl
set_option maxRecDepth 100000 in
theorem rdirty_any (h : RK w base q r ls lv rv) (k : Int) : Calls Try.prog 62 #[cp q, .int .i64 k] w fun e w' => e = .returned (.bool (dirtyR r.l k)) ∧ Below w.heap.size w w' := by
  have HA := hid (rat_any h k)
  have H := hid h
  obtain ⟨⟨la, ln, lc, rfl⟩, _⟩ := h.shapes
  cases ha : atR r.l k with
  | none =>
    rw [atI_none ha] at HA
    have HD := hid (show dirtyR r.l k = false by unfold dirtyR; rw [ha])
    clear h ha
    go_enter Try.func62, Try.ntmps62
    go_wp2_with fail
    refine HA.out.mono ?_
    rintro e w1 ⟨rfl, hb1⟩
    have HB := hid hb1
    clear hb1 HA
    go_wp2_with fail
    go_ret
    exact ⟨by rw [HD.out]; rfl, HB.out⟩
  | some i =>
    rw [atI_some ha] at HA
    obtain ⟨it, hit, hik⟩ := atR_some ha
    obtain ⟨f, hf, hfi⟩ : ∃ f, ls[i]? = some f ∧ f.it = it := by
      rw [h.l, List.getElem?_map] at hit
      cases hq : ls[i]? with
      | none => rw [hq] at hit; cases hit
      | some f => rw [hq] at hit; exact ⟨f, rfl, Option.some.inj hit⟩
    have HD := hid (show dirtyR r.l k = f.it.d by unfold dirtyR; rw [ha, hfi]; simp only; rw [hit]; rfl)
    have hil : i ≤ 2000 := by have := (List.getElem?_eq_some_iff.1 hit).1; have := h.ll; omega
    clear h ha hit hik hfi
    go_enter Try.func62, Try.ntmps62
    go_wp2_with fail
    refine HA.out.mono ?_
    rintro e w1 ⟨rfl, hb1⟩
    have hR := H.out.below hb1
    have c1 := hR.cells.2.1
    obtain ⟨b, o, hb, hia, _, _, g2⟩ := hR.item hf
    obtain ⟨dd, hdd⟩ : ∃ d, d = f.it.d := ⟨_, rfl⟩
    rw [← hdd] at g2
    have HB := hid (And.intro hb1 hdd)
    have hi0 : ¬ ((i : Int) < 0) := by omega
    clear hb1 HA hR hb hdd
    go_wp2_with fail
    go_ret
    exact ⟨by rw [HD.out, ← HB.out.2]; rfl, HB.out.1⟩
end
end Go.Proofs.Ytbklhhmcigangaa

namespace Go.Lr
set_option linter.unusedVariables false
def offR (l : List It) (k : Int) : List It := l.map fun it => if it.k = k then { it with d := false } else it
def relR (r : List (Int × Int)) (k : Int) : List (Int × Int) := r.filter fun q => !(q.1 == k) && !(q.2 == k)
/-- a key is written, or gone -/
def cleanR (r : RC) (k : Int) : RC := { r with l := offR r.l k, r := relR r.r k }
theorem offR_keys (l : List It) (k : Int) : (offR l k).map (·.k) = l.map (·.k) := by
  unfold offR; rw [List.map_map]; apply List.map_congr_left; intro e _; simp only [Function.comp]; split <;> rfl
theorem offR_none {l : List It} {k : Int} (h : k ∉ l.map (·.k)) : offR l k = l := by
  unfold offR
  conv => rhs; rw [← List.map_id l]
  apply List.map_congr_left
  intro e he
  rw [if_neg (fun hk => h (List.mem_map.2 ⟨e, he, hk⟩))]; rfl
theorem offR_set : ∀ {l : List It} {k : Int} {i : Nat} {it : It}, (l.map (·.k)).Nodup → l[i]? = some it → it.k = k → offR l k = l.set i { it with d := false }
  | [], k, i, it, _, hi, _ => by simp at hi
  | y :: l, k, 0, it, hn, hi, hk => by
    simp at hi; subst hi
    rw [List.map_cons, List.nodup_cons] at hn
    have := offR_none (l := l) (k := k) (by rw [← hk]; exact hn.1)
    show (if y.k = k then _ else _) :: offR l k = _
    rw [this, if_pos hk]; rfl
  | y :: l, k, i + 1, it, hn, hi, hk => by
    rw [List.map_cons, List.nodup_cons] at hn
    have h1 := offR_set hn.2 (by simpa using hi) hk
    have hne : ¬ y.k = k := fun e => hn.1 (List.mem_map.2 ⟨it, List.mem_of_getElem? (by simpa using hi), by rw [hk, e]⟩)
    show (if y.k = k then _ else _) :: offR l k = _
    rw [h1, if_neg hne]; rfl
/-- a key was used last -/
def cutR (l : List It) (i : Nat) : List It := l.take i ++ l.drop (i + 1)
def useR (r : RC) (k : Int) : RC := match atR r.l k with
  | none => r
  | some i => { r with l := cutR r.l i ++ (r.l[i]?).toList }
end Go.Lr
namespace Go.Proofs.Ytbklhhmcigangaa
open Go.RowKit Go.Mx Go.Lr Go.Maps
set_option linter.unusedVariables false
set_option linter.unusedSimpArgs false
theorem info88 : (Try.prog.info? 88).map (fun i => (i.zero, i.size, i.bytes)) = some (some (.agg #[.int .i64 0, .slice none 0 0, .bool false]), 3, 40) := by kernel_rfl
theorem info98 : (Try.prog.info? 98).map (fun i => (i.zero, i.size, i.bytes)) = some (some (.agg #[.int .i64 0, .int .i64 0]), 2, 16) := by kernel_rfl
section
variable {w w' : World} {base q : Nat} {r : RC} {ls : List PI} {lv rv : Value}
theorem KR.set {b o : Nat} {v : Value} {c : Array Value} {t : TypeId} {f : Nat × Nat} (h : w.heap[b]? = some (.cells c t f)) (ht : t = 81 ∨ t = 88 ∨ t = 98) : KR w (w.setCell ⟨b, o, none⟩ v) :=
  Kept.set w b o v fun hn => by have := hn c t f h; rcases ht with rfl | rfl | rfl <;> simp at this
/-- a step of the document's cache -/
structure RStp (base : Nat) (w w' : World) : Prop where
  bel : Below base w w'
  kr : KR w w'
theorem RStp.trans {base : Nat} {a b c : World} (h : RStp base a b) (k : RStp base b c) : RStp base a c := ⟨h.bel.trans k.bel, h.kr.trans k.kr⟩
theorem RStp.below {base : Nat} (h : Below w.heap.size w w') (hb : base ≤ w.heap.size) : RStp base w w' := ⟨h.mono hb, KR.below h⟩
theorem RStp.refl (base : Nat) (w : World) : RStp base w w := ⟨Below.refl _ _, KR.refl _⟩
theorem RK.setR (h : RK w base q r ls lv rv) {r' : List (Int × Int)} {rv' : Value} (ho : OwnG w base 98 2 rv' (r'.map relrow)) (hl : r'.length ≤ 2000) :
    RK (w.setCell ⟨q, 2, none⟩ rv') base q { r with r := r' } ls lv rv' ∧ RStp base w (w.setCell ⟨q, 2, none⟩ rv') := by
  have hk : Kept w (w.setCell ⟨q, 2, none⟩ rv') (fun k => k ≠ q) := Kept.set w q 2 _ (by simp)
  refine ⟨{ l := h.l, ck := heap_setCell_at' w q 2 _ _ 81 (0, 0) h.ck, hq := h.hq, ol := h.ol.kept hk fun k e => ?_, orr := ho.kept hk fun k e => ?_, ob := fun f hf => (h.ob f hf).kept hk fun k e => ?_, nd := h.nd, ll := h.ll, lr := hl }, ⟨(Below.refl base w).setCell (p := ⟨q, 2, none⟩) h.hq _, KR.set h.ck (by simp)⟩⟩
  · obtain ⟨c, f, hc⟩ := ownG_type h.ol k e; exact blk_ne hc h.ck (by decide)
  · obtain ⟨c, f, hc⟩ := ownG_type ho k e; exact blk_ne hc h.ck (by decide)
  · obtain ⟨c, f9, hc⟩ := ownB_type (h.ob f hf) k e; exact blk_ne hc h.ck (by decide)
theorem RK.setL (h : RK w base q r ls lv rv) {l' : List It} {ls' : List PI} {lv' : Value} (he : l' = ls'.map (·.it)) (ho : OwnG w base 88 3 lv' (ls'.map itrow)) (hb : ∀ f ∈ ls', OwnB w base 5 f.bv f.it.b) (hn : (l'.map (·.k)).Nodup) (hl : l'.length ≤ 2000) :
    RK (w.setCell ⟨q, 1, none⟩ lv') base q { r with l := l' } ls' lv' rv ∧ RStp base w (w.setCell ⟨q, 1, none⟩ lv') := by
  have hk : Kept w (w.setCell ⟨q, 1, none⟩ lv') (fun k => k ≠ q) := Kept.set w q 1 _ (by simp)
  refine ⟨{ l := he, ck := heap_setCell_at' w q 1 _ _ 81 (0, 0) h.ck, hq := h.hq, ol := ho.kept hk fun k e => ?_, orr := h.orr.kept hk fun k e => ?_, ob := fun f hf => (hb f hf).kept hk fun k e => ?_, nd := hn, ll := hl, lr := h.lr }, ⟨(Below.refl base w).setCell (p := ⟨q, 1, none⟩) h.hq _, KR.set h.ck (by simp)⟩⟩
  · obtain ⟨c, f, hc⟩ := ownG_type ho k e; exact blk_ne hc h.ck (by decide)
  · obtain ⟨c, f, hc⟩ := ownG_type h.orr k e; exact blk_ne hc h.ck (by decide)
  · obtain ⟨c, f9, hc⟩ := ownB_type (hb f hf) k e; exact blk_ne hc h.ck (by decide)
/-- an item's place, written out -/
theorem RK.place (h : RK w base q r ls lv rv) {i : Nat} {f : PI} (hi : ls[i]? = some f) : ∃ g n c, lv = .slice (some ⟨g, 0, none⟩) n c ∧ base ≤ g ∧ (∃ cc, w.heap[g]? = some (.cells cc 88 (0, 0))) ∧ (∀ w' (k : IntKind), (Instr.indexAt 78 lv (.int k (i : Int))).run Try.prog w' = .ok (.pointer (some ⟨g, i * 3, none⟩)) w') := by
  have hl : i < (ls.map itrow).length := by rw [List.length_map]; exact (List.getElem?_eq_some_iff.1 hi).1
  have ho := h.ol
  rcases ho.shape with ⟨_, he⟩ | ⟨g, c, rfl, hg, _⟩
  · rw [he] at hl; simp at hl
  · obtain ⟨_, _, _, _, cur, hc, _⟩ := ho.parts
    exact ⟨g, _, c, rfl, hg, ⟨cur, hc⟩, ho.addr (P := Try.prog) Try.underlying78 size88 i hl⟩
/-- one cell of an item -/
theorem RK.setItem (h : RK w base q r ls lv rv) {i : Nat} {f f' : PI} (hi : ls[i]? = some f) (t : Nat) (u : Value) (ht : t < 3) {g n c : Nat} (hlv : lv = .slice (some ⟨g, 0, none⟩) n c) (hrow : itrow f' = (itrow f).set t u) (hk : f'.it.k = f.it.k) (hb : OwnB w base 5 f'.bv f'.it.b) :
    RK (w.setCell ⟨g, i * 3 + t, none⟩ u) base q { r with l := r.l.set i f'.it } (ls.set i f') lv rv ∧ RStp base w (w.setCell ⟨g, i * 3 + t, none⟩ u) ∧ w.frozen? ⟨g, i * 3 + t, none⟩ = false := by
  subst hlv
  have hil := (List.getElem?_eq_some_iff.1 hi).1
  have ho := h.ol
  obtain ⟨_, hg, _, _, cur, hc, _⟩ := ho.parts
  have hs := ho.setOne i t u (by rw [List.length_map]; exact hil) ht
  have hgd : (ls.map itrow).getD i [] = itrow f := by rw [List.getD_eq_getElem?_getD, List.getElem?_map, hi]; rfl
  rw [hgd, ← hrow, ← List.map_set] at hs
  have hkp : Kept w (w.setCell ⟨g, i * 3 + t, none⟩ u) (fun k => k ≠ g) := Kept.set w g _ _ (by simp)
  have hkeys : (r.l.set i f'.it).map (·.k) = r.l.map (·.k) := by
    rw [List.map_set]
    have : (r.l.map (·.k))[i]? = some f'.it.k := by rw [h.l, List.map_map, List.getElem?_map, hi, hk]; rfl
    apply List.ext_getElem?
    intro j
    rw [List.getElem?_set]
    split
    · rename_i e; subst e; split
      · exact this.symm
      · rename_i h9; rw [List.getElem?_eq_none (by simpa using h9)]
    · rfl
  refine ⟨{ l := by show r.l.set i f'.it = _; rw [List.map_set, h.l], ck := (hkp.block q h.qlt (blk_ne h.ck hc (by decide))).trans h.ck, hq := h.hq, ol := hs, orr := h.orr.kept hkp fun k e => ?_, ob := fun f9 hf => ?_, nd := by show ((r.l.set i f'.it).map (·.k)).Nodup; rw [hkeys]; exact h.nd, ll := by show (r.l.set i f'.it).length ≤ _; rw [List.length_set]; exact h.ll, lr := h.lr }, ⟨(Below.refl base w).setCell (p := ⟨g, i * 3 + t, none⟩) hg _, KR.set hc (by simp)⟩, by simp [World.frozen?, hc]⟩
  · obtain ⟨c9, f9, hc9⟩ := ownG_type h.orr k e; exact blk_ne hc9 hc (by decide)
  · have hb9 : OwnB w base 5 f9.bv f9.it.b := by
      rcases List.mem_or_eq_of_mem_set hf with h1 | h1
      · exact h.ob f9 h1
      · rw [h1]; exact hb
    exact hb9.kept hkp fun k e => by
      obtain ⟨c9, f9, hc9⟩ := ownB_type hb9 k e; exact blk_ne hc9 hc (by decide)
def RX (w : World) (base q : Nat) (r : RC) : Prop := ∃ ls lv rv, RK w base q r ls lv rv
theorem RX.below (h : RX w base q r) (hb : Below w.heap.size w w') : RX w' base q r := by obtain ⟨ls, lv, rv, h⟩ := h; exact ⟨ls, lv, rv, h.below hb⟩
theorem RX.kt (h : RX w base q r) (hb : KT w w') : RX w' base q r := by obtain ⟨ls, lv, rv, h⟩ := h; exact ⟨ls, lv, rv, h.kt hb⟩
theorem RK.cellAt {g n c : Nat} (h : RK w base q r ls (.slice (some ⟨g, 0, none⟩) n c) rv) {i : Nat} {f : PI} (hi : ls[i]? = some f) (t : Nat) (u : Value) (hu : (itrow f)[t]? = some u) : w.cell? ⟨g, i * 3 + t, none⟩ = some u := by
  have hil := (List.getElem?_eq_some_iff.1 hi).1
  have hgd : (ls.map itrow).getD i [] = itrow f := by rw [List.getD_eq_getElem?_getD, List.getElem?_map, hi]; rfl
  have h1 := h.ol.rangeAt i (by rw [List.length_map]; exact hil)
  rw [hgd] at h1
  exact h1 t u hu
set_option maxRecDepth 100000 in
set_option maxHeartbeats 1000000 in
theorem rclean_any (h : RK w base q r ls lv rv) (k : Int) : Calls Try.prog 61 #[cp q, .int .i64 k] w fun e w' => e = .returned (.tuple #[]) ∧ RX w' base q (cleanR r k) ∧ RStp base w w' := by
  have HA := hid (rat_any h k)
  have hra : ∃ a n c, rv = .slice a n c := h.shapes.2
  obtain ⟨ra, rn, rc, rfl⟩ := hra
  have hlenR := h.lenR
  have hlr := h.lr
  cases ha : atR r.l k with
  | none =>
    rw [atI_none ha] at HA
    have hof : offR r.l k = r.l := offR_none (atR_none.1 ha)
    have H := hid (And.intro h (RStp.refl base w))
    have HF := hid hof
    clear h ha hof
    go_enter Try.func61, Try.ntmps61
    go_wp2_with fail
    refine HA.out.mono ?_
    rintro e w1 ⟨rfl, hb1⟩
    have H0 := hid (And.intro (H.out.1.below hb1) (H.out.2.trans (RStp.below hb1 H.out.1.base_le)))
    clear hb1 HA
    go_wp2_with fail
    go_loopw [5, 6] (fun s5 s6 wr => ∃ j : Nat, s6 = .int .i64 j ∧ j ≤ r.r.length ∧ OwnG wr w1.heap.size 98 2 s5 ((relR (r.r.take j) k).map relrow) ∧ Below w1.heap.size w1 wr) (fun _ s6 _ => r.r.length - (intOf s6).toNat)
    case atStart => exact ⟨0, rfl, Nat.zero_le _, OwnG.nil _ _ _ _, Below.refl _ _⟩
    case round =>
      obtain ⟨j, rfl, hj, ho, hbl⟩ := hrel
      have hR := H0.out.1.below hbl
      have c1 := hR.cells.2.2.1
      have hfz := hR.cells.2.2.2
      obtain ⟨na, nn, nc, rfl⟩ := ownG_sh ho
      by_cases hlt : j < r.r.length
      · obtain ⟨f, hf⟩ : ∃ f, r.r[j]? = some f := ⟨_, List.getElem?_eq_getElem hlt⟩
        obtain ⟨b, o, hb, hia, g0, g1⟩ := hR.rel hf
        have HN := hid (show relR (r.r.take (j + 1)) k = relR (r.r.take j) k ++ relR [f] k by rw [List.take_add_one, hf]; unfold relR; rw [List.filter_append]; rfl)
        obtain ⟨x, y⟩ := f
        simp only at g0 g1
        by_cases hxk : x = k
        · subst hxk
          have hbe : (x != x) = false := by simp
          have HB := hid (And.intro ho hbl)
          clear hbl ho hR hf hb
          go_wp2_with fail
          refine ⟨⟨j + 1, by go_num, by omega, ?_, HB.out.2⟩, by simp [intOf]; omega⟩
          rw [HN.out]
          have : relR [(x, y)] x = [] := by simp [relR]
          rw [this, List.append_nil]; exact HB.out.1
        · have hbe : (x != k) = true := by simpa using hxk
          by_cases hyk : y = k
          · subst hyk
            have hbe2 : (y != y) = false := by simp
            have HB := hid (And.intro ho hbl)
            clear hbl ho hR hf hb hxk
            go_wp2_with fail
            refine ⟨⟨j + 1, by go_num, by omega, ?_, HB.out.2⟩, by simp [intOf]; omega⟩
            rw [HN.out]
            have : relR [(x, y)] y = [] := by simp [relR]
            rw [this, List.append_nil]; exact HB.out.1
          · have hbe2 : (y != k) = true := by simpa using hyk
            have hbA : Below wr.heap.size wr (wr.alloc (.cells #[.int .i64 x, .int .i64 y] 98)) := (Below.refl _ _).alloc (Nat.le_refl _) _
            have hoA := ho.below hbA (Nat.le_refl _)
            have hrow := row_cells wr (relrow (x, y)) 98
            have hone : ∀ u ∈ relrow (x, y), u.oneCell' = true := by intro u hu; simp at hu; rcases hu with rfl | rfl <;> rfl
            have hll : (relR (r.r.take j) k).length ≤ 2000 := by have h1 := List.length_filter_le (fun q : Int × Int => !(q.1 == k) && !(q.2 == k)) (r.r.take j); have h2 := H0.out.1.lr; unfold relR; simp at h1; omega
            have hl1 : (((relR (r.r.take j) k).map relrow).length + 1) * 16 ≤ 140737488355328 := by rw [List.length_map]; omega
            have hl2 : ((relR (r.r.take j) k).map relrow).length + 1 ≤ 140737488355328 := by rw [List.length_map]; omega
            have hz1 : w1.heap.size ≤ (wr.alloc (.cells #[.int .i64 x, .int .i64 y] 98)).heap.size := by have := hbl.size; have := hbA.size; omega
            have HB := hid (And.intro hbl (And.intro hbA (And.intro hxk hyk)))
            clear hbl hR hf hb hxk hyk hbA ho hll
            go_wp2_with (at_builtin; refine append_g _ rfl _ _ 79 98 (.agg #[.int .i64 0, .int .i64 0]) 2 16 rfl Try.underlying79 info98 rfl (by decide) w1.heap.size _ ((relR (r.r.take j) k).map relrow) rfl hoA wr.heap.size 1 (relrow (x, y)) rfl rfl hrow hone hl1 hl2 hz1 ?_)
            intro v' w1 ho1 hg1 hb1
            have H1 := hid (And.intro ho1 ((HB.out.1.trans (HB.out.2.1.mono HB.out.1.size)).trans hb1))
            clear ho1 hg1 hb1 hoA hrow hone hl1 hl2 hz1
            go_wp2_with fail
            refine ⟨⟨j + 1, by go_num, by omega, ?_, H1.out.2⟩, by simp [intOf]; omega⟩
            rw [HN.out]
            have : relR [(x, y)] k = [(x, y)] := by simp [relR, HB.out.2.2.1, HB.out.2.2.2]
            rw [this, List.map_append]; exact H1.out.1
      · obtain rfl : j = r.r.length := by omega
        rw [List.take_length] at ho
        have hll : (relR r.r k).length ≤ 2000 := by have h1 := List.length_filter_le (fun q : Int × Int => !(q.1 == k) && !(q.2 == k)) r.r; have h2 := H0.out.1.lr; unfold relR; omega
        obtain ⟨hR2, hS2⟩ := hR.setR (ho.any_base (by have := hR.base_le; exact H0.out.1.base_le)) hll
        have HE := hid (And.intro hR2 ((H0.out.2.trans (RStp.below hbl H0.out.1.base_le)).trans hS2))
        clear hbl ho hR hR2 hS2 hll
        go_wp2_with fail
        go_end0
        exact ⟨rfl, ⟨_, _, _, by have h9 := HE.out.1; unfold cleanR; rw [HF.out]; exact h9⟩, HE.out.2⟩
  | some i =>
    rw [atI_some ha] at HA
    obtain ⟨it, hit, hik⟩ := atR_some ha
    obtain ⟨f, hf, hfi⟩ : ∃ f, ls[i]? = some f ∧ f.it = it := by
      rw [h.l, List.getElem?_map] at hit
      cases hq : ls[i]? with
      | none => rw [hq] at hit; cases hit
      | some f => rw [hq] at hit; exact ⟨f, rfl, Option.some.inj hit⟩
    have hof := offR_set h.nd hit hik
    rw [← hfi] at hof
    have hil : i ≤ 2000 := by have := (List.getElem?_eq_some_iff.1 hit).1; have := h.ll; omega
    have hi0 : (0 : Int) ≤ (i : Int) := by omega
    have H := hid h
    have HF := hid (And.intro hof hf)
    clear h ha hof hit hik hfi hf
    go_enter Try.func61, Try.ntmps61
    go_wp2_with fail
    refine HA.out.mono ?_
    rintro e w1 ⟨rfl, hb1⟩
    have hR1 := H.out.below hb1
    obtain ⟨g, n, c, rfl, hg, ⟨cc, hgc⟩, hia⟩ := hR1.place HF.out.2
    obtain ⟨hR2, hS2, hz2⟩ := hR1.setItem (f' := { f with it := { f.it with d := false } }) HF.out.2 2 (.bool false) (by decide) rfl rfl rfl (hR1.ob f (List.mem_of_getElem? HF.out.2))
    have c1 := hR1.cells.2.1
    have hcell := hR1.cellAt HF.out.2 2 _ rfl
    obtain ⟨o, ho⟩ : ∃ o, o = i * 3 := ⟨_, rfl⟩
    rw [← ho] at hia hR2 hS2 hz2 hcell
    obtain ⟨w2, hw2⟩ : ∃ x, x = w1.setCell ⟨g, o + 2, none⟩ (.bool false) := ⟨_, rfl⟩
    rw [← hw2] at hR2 hS2
    have H0 := hid (And.intro hR2 ((RStp.below hb1 H.out.base_le).trans hS2))
    clear hb1 HA hR1 hR2 hS2 hgc hg ho
    go_wp2_with fail
    rw [← hw2]
    clear hw2 hcell hz2 c1
    go_loopw [5, 6] (fun s5 s6 wr => ∃ j : Nat, s6 = .int .i64 j ∧ j ≤ r.r.length ∧ OwnG wr w2.heap.size 98 2 s5 ((relR (r.r.take j) k).map relrow) ∧ Below w2.heap.size w2 wr) (fun _ s6 _ => r.r.length - (intOf s6).toNat)
    case atStart => exact ⟨0, rfl, Nat.zero_le _, OwnG.nil _ _ _ _, Below.refl _ _⟩
    case round =>
      obtain ⟨j, rfl, hj, ho, hbl⟩ := hrel
      have hR := H0.out.1.below hbl
      have c1 := hR.cells.2.2.1
      have hfz := hR.cells.2.2.2
      obtain ⟨na, nn, nc, rfl⟩ := ownG_sh ho
      by_cases hlt : j < r.r.length
      · obtain ⟨f, hf⟩ : ∃ f, r.r[j]? = some f := ⟨_, List.getElem?_eq_getElem hlt⟩
        obtain ⟨b, o, hb, hia, g0, g1⟩ := hR.rel hf
        have HN := hid (show relR (r.r.take (j + 1)) k = relR (r.r.take j) k ++ relR [f] k by rw [List.take_add_one, hf]; unfold relR; rw [List.filter_append]; rfl)
        obtain ⟨x, y⟩ := f
        simp only at g0 g1
        by_cases hxk : x = k
        · subst hxk
          have hbe : (x != x) = false := by simp
          have HB := hid (And.intro ho hbl)
          clear hbl ho hR hf hb
          go_wp2_with fail
          refine ⟨⟨j + 1, by go_num, by omega, ?_, HB.out.2⟩, by simp [intOf]; omega⟩
          rw [HN.out]
          have : relR [(x, y)] x = [] := by simp [relR]
          rw [this, List.append_nil]; exact HB.out.1
        · have hbe : (x != k) = true := by simpa using hxk
          by_cases hyk : y = k
          · subst hyk
            have hbe2 : (y != y) = false := by simp
            have HB := hid (And.intro ho hbl)
            clear hbl ho hR hf hb hxk
            go_wp2_with fail
            refine ⟨⟨j + 1, by go_num, by omega, ?_, HB.out.2⟩, by simp [intOf]; omega⟩
            rw [HN.out]
            have : relR [(x, y)] y = [] := by simp [relR]
            rw [this, List.append_nil]; exact HB.out.1
          · have hbe2 : (y != k) = true := by simpa using hyk
            have hbA : Below wr.heap.size wr (wr.alloc (.cells #[.int .i64 x, .int .i64 y] 98)) := (Below.refl _ _).alloc (Nat.le_refl _) _
            have hoA := ho.below hbA (Nat.le_refl _)
            have hrow := row_cells wr (relrow (x, y)) 98
            have hone : ∀ u ∈ relrow (x, y), u.oneCell' = true := by intro u hu; simp at hu; rcases hu with rfl | rfl <;> rfl
            have hll : (relR (r.r.take j) k).length ≤ 2000 := by have h1 := List.length_filter_le (fun q : Int × Int => !(q.1 == k) && !(q.2 == k)) (r.r.take j); have h2 := H0.out.1.lr; unfold relR; simp at h1; omega
            have hl1 : (((relR (r.r.take j) k).map relrow).length + 1) * 16 ≤ 140737488355328 := by rw [List.length_map]; omega
            have hl2 : ((relR (r.r.take j) k).map relrow).length + 1 ≤ 140737488355328 := by rw [List.length_map]; omega
            have hz1 : w2.heap.size ≤ (wr.alloc (.cells #[.int .i64 x, .int .i64 y] 98)).heap.size := by have := hbl.size; have := hbA.size; omega
            have HB := hid (And.intro hbl (And.intro hbA (And.intro hxk hyk)))
            clear hbl hR hf hb hxk hyk hbA ho hll
            go_wp2_with (at_builtin; refine append_g _ rfl _ _ 79 98 (.agg #[.int .i64 0, .int .i64 0]) 2 16 rfl Try.underlying79 info98 rfl (by decide) w2.heap.size _ ((relR (r.r.take j) k).map relrow) rfl hoA wr.heap.size 1 (relrow (x, y)) rfl rfl hrow hone hl1 hl2 hz1 ?_)
            intro v' w1 ho1 hg1 hb1
            have H1 := hid (And.intro ho1 ((HB.out.1.trans (HB.out.2.1.mono HB.out.1.size)).trans hb1))
            clear ho1 hg1 hb1 hoA hrow hone hl1 hl2 hz1
            go_wp2_with fail
            refine ⟨⟨j + 1, by go_num, by omega, ?_, H1.out.2⟩, by simp [intOf]; omega⟩
            rw [HN.out]
            have : relR [(x, y)] k = [(x, y)] := by simp [relR, HB.out.2.2.1, HB.out.2.2.2]
            rw [this, List.map_append]; exact H1.out.1
      · obtain rfl : j = r.r.length := by omega
        rw [List.take_length] at ho
        have hll : (relR r.r k).length ≤ 2000 := by have h1 := List.length_filter_le (fun q : Int × Int => !(q.1 == k) && !(q.2 == k)) r.r; have h2 := H0.out.1.lr; unfold relR; omega
        obtain ⟨hR2, hS2⟩ := hR.setR (ho.any_base (by have := hR.base_le; exact H0.out.1.base_le)) hll
        have HE := hid (And.intro hR2 ((H0.out.2.trans (RStp.below hbl H0.out.1.base_le)).trans hS2))
        clear hbl ho hR hR2 hS2 hll
        go_wp2_with fail
        go_end0
        exact ⟨rfl, ⟨_, _, _, by have h9 := HE.out.1; unfold cleanR; rw [HF.out.1]; exact h9⟩, HE.out.2⟩
end
end Go.Proofs.Ytbklhhmcigangaa

namespace Go.Lr
theorem cut_perm {α : Type} {l : List α} {i : Nat} {x : α} (h : l[i]? = some x) : (l.take i ++ l.drop (i + 1) ++ [x]).Perm l := by
  obtain ⟨hl, hx⟩ := List.getElem?_eq_some_iff.1 h
  have e : l = l.take i ++ x :: l.drop (i + 1) := by rw [← hx, List.getElem_cons_drop, List.take_append_drop]
  conv => rhs; rw [e]
  rw [List.append_assoc]
  exact List.Perm.append_left _ List.perm_append_comm
/-- a key goes -/
def dropR (r : RC) (k : Int) : RC := match atR r.l k with
  | none => r
  | some i => { cleanR r k with l := cutR (cleanR r k).l i }
end Go.Lr
namespace Go.Proofs.Ytbklhhmcigangaa
open Go.RowKit Go.Mx Go.Lr Go.Maps
set_option linter.unusedVariables false
set_option linter.unusedSimpArgs false
theorem itrow_one (f : PI) {oa : Option Addr} {n c : Nat} (h : f.bv = .slice oa n c) : ∀ u ∈ itrow f, u.oneCell' = true := by
  intro u hu
  simp at hu
  rcases hu with rfl | rfl | rfl
  · rfl
  · rw [h]; rfl
  · rfl
section
variable {w w' : World} {base q : Nat} {r : RC} {ls : List PI} {lv rv : Value}
theorem RK.bsh (h : RK w base q r ls lv rv) {f : PI} (hf : f ∈ ls) : ∃ oa n c, f.bv = .slice oa n c := slB_shape (h.ob f hf).slB
theorem RK.ones (h : RK w base q r ls lv rv) {l : List PI} (hl : ∀ f ∈ l, f ∈ ls) : ∀ x ∈ l.map itrow, ∀ u ∈ x, u.oneCell' = true := by
  intro x hx
  obtain ⟨f, hf, rfl⟩ := List.mem_map.1 hx
  obtain ⟨oa, n, c, e⟩ := h.bsh (hl f hf)
  exact itrow_one f e
theorem itrow_len (l : List PI) : ∀ x ∈ l.map itrow, x.length = 3 := by intro x hx; obtain ⟨f, _, rfl⟩ := List.mem_map.1 hx; rfl
/-- the first items, and those behind one -/
theorem RK.to (h : RK w base q r ls lv rv) (i : Nat) (hi : i ≤ ls.length) : ∃ v oa n c, v = .slice oa n c ∧ SlG w w.heap.size 3 v ((ls.take i).map itrow) ∧ ∀ w' (k : IntKind), (Instr.slice 78 lv none (some (.int k (i : Int))) none).run Try.prog w' = .ok v w' := by
  obtain ⟨v, hs, hr⟩ := h.ol.slG.to (P := Try.prog) Try.underlying78 size88 i (by rw [List.length_map]; exact hi)
  rw [← List.map_take] at hs
  obtain ⟨oa, cap, e, _⟩ := id hs
  exact ⟨v, _, _, _, e, hs, hr⟩
theorem RK.from (h : RK w base q r ls lv rv) (i : Nat) (hi : i ≤ ls.length) : ∃ v oa n c, v = .slice oa n c ∧ SlG w w.heap.size 3 v ((ls.drop i).map itrow) ∧ ∀ w' (k : IntKind), (Instr.slice 78 lv (some (.int k (i : Int))) none none).run Try.prog w' = .ok v w' := by
  obtain ⟨v, hs, hr⟩ := h.ol.slG.from (P := Try.prog) Try.underlying78 size88 i (by rw [List.length_map]; exact hi)
  rw [← List.map_drop] at hs
  obtain ⟨oa, cap, e, _⟩ := id hs
  exact ⟨v, _, _, _, e, hs, hr⟩
theorem RK.lsl (h : RK w base q r ls lv rv) : ls.length = r.l.length := by rw [h.l, List.length_map]
set_option maxRecDepth 100000 in
set_option maxHeartbeats 1000000 in
theorem ruse_any (h : RK w base q r ls lv rv) (k : Int) {i : Nat} (ha : atR r.l k = some i) : Calls Try.prog 49 #[cp q, .int .i64 k] w fun e w' => e = .returned (.tuple #[]) ∧ RX w' base q (useR r k) ∧ RStp base w w' := by
  have HA := rat_any h k
  rw [atI_some ha] at HA
  have HA := hid HA
  obtain ⟨it, hit, hik⟩ := atR_some ha
  obtain ⟨f, hf, hfi⟩ : ∃ f, ls[i]? = some f ∧ f.it = it := by
    rw [h.l, List.getElem?_map] at hit
    cases hq : ls[i]? with
    | none => rw [hq] at hit; cases hit
    | some f => rw [hq] at hit; exact ⟨f, rfl, Option.some.inj hit⟩
  have hil := (List.getElem?_eq_some_iff.1 hf).1
  have hil2 : i ≤ 2000 := by have := h.ll; have := h.lsl; omega
  have hfm := List.mem_of_getElem? hf
  have huse : useR r k = { r with l := (ls.take i ++ ls.drop (i + 1) ++ [f]).map (·.it) } := by
    unfold useR cutR; rw [ha]; simp only; rw [hit, h.l]; simp [hfi]
  have hperm := cut_perm hf
  have hnd : (((ls.take i ++ ls.drop (i + 1) ++ [f]).map (·.it)).map (·.k)).Nodup := by
    have h1 := h.nd
    rw [h.l] at h1
    exact ((hperm.map (·.it)).map (·.k)).nodup_iff.2 h1
  have hmem : ∀ g ∈ ls.take i ++ ls.drop (i + 1) ++ [f], g ∈ ls := fun g hg => hperm.mem_iff.1 hg
  have hlen : (ls.take i ++ ls.drop (i + 1) ++ [f]).length ≤ 2000 := by rw [hperm.length_eq, h.lsl]; exact h.ll
  obtain ⟨vt, ta, tn, tc, hvt, hst, hrt⟩ := h.to i (by omega)
  obtain ⟨vf, fa, fn, fc, hvf, hsf, hrf⟩ := h.from (i + 1) (by omega)
  subst hvt hvf
  have hf1 : IntKind.i64.wrap ((i : Int) + 1) = ((i + 1 : Nat) : Int) := by rw [IntWalk.i64_in _ (by omega)]; rfl
  obtain ⟨I, hI⟩ : ∃ I, I = i + 1 := ⟨_, rfl⟩
  rw [← hI] at hf1 hrf
  clear hI
  obtain ⟨ba, bn, bc, hbv⟩ := h.bsh hfm
  obtain ⟨⟨la, ln, lc, rfl⟩, _⟩ := h.shapes
  have H := hid (And.intro h (And.intro hf (And.intro huse (And.intro hnd (And.intro hmem (And.intro hlen (And.intro hst (And.intro hsf (And.intro hfm hbv)))))))))
  clear h hf huse hnd hmem hlen hst hsf hperm hfm hbv hit hfi hik ha
  go_enter Try.func49, Try.ntmps49
  go_wp2_with fail
  refine HA.out.mono ?_
  rintro e w1 ⟨rfl, hb1⟩
  have hR1 := H.out.1.below hb1
  have c1 := hR1.cells.2.1
  obtain ⟨b, o, hb, hia, g0, g1, g2⟩ := hR1.item H.out.2.1
  rw [H.out.2.2.2.2.2.2.2.2.2] at g1
  obtain ⟨kk, hkk⟩ : ∃ x, x = f.it.k := ⟨_, rfl⟩
  obtain ⟨dd, hdd⟩ : ∃ x, x = f.it.d := ⟨_, rfl⟩
  rw [← hkk] at g0
  rw [← hdd] at g2
  have hbA : Below w1.heap.size w1 (w1.alloc (.cells #[.int .i64 kk, .slice ba bn bc, .bool dd] 88)) := (Below.refl _ _).alloc (Nat.le_refl _) _
  have hqx := alloc_new w1 (.cells #[.int .i64 kk, .slice ba bn bc, .bool dd] 88)
  have c1A := (hR1.below hbA).cells.2.1
  have hzA : (w1.alloc (.cells #[.int .i64 kk, .slice ba bn bc, .bool dd] 88)).heap.size = w1.heap.size + 1 := World.size_alloc _ _
  have hst1 := (H.out.2.2.2.2.2.2.1.below hb1 (Nat.le_refl _)).below hbA (by have := hb1.size; exact this)
  have hone := hR1.ones (l := ls.take i) (fun g hg => List.mem_of_mem_take hg)
  have HB := hid (And.intro hR1 (And.intro hb1 (And.intro hbA (And.intro hqx (And.intro hkk hdd)))))
  have hl1 : (([] : List (List Value)).length + ((ls.take i).map itrow).length) * 40 ≤ 140737488355328 := by simp; omega
  have hl2 : ([] : List (List Value)).length + ((ls.take i).map itrow).length ≤ 140737488355328 := by simp; omega
  have hz1 : w1.heap.size + 1 ≤ (w1.alloc (.cells #[.int .i64 kk, .slice ba bn bc, .bool dd] 88)).heap.size := by rw [hzA]; exact Nat.le_refl _
  clear hR1 hb1 hbA hb hqx hkk hdd
  go_wp2_with (at_builtin; refine append_sg _ rfl _ _ 78 88 (.agg #[.int .i64 0, .slice none 0 0, .bool false]) 3 40 rfl Try.underlying78 info88 rfl (by decide) (w1.heap.size + 1) _ [] rfl (OwnG.nil _ _ _ _) w.heap.size _ ((ls.take i).map itrow) rfl hst1 (itrow_len _) hone hl1 hl2 hz1 ?_)
  intro v3 w3 ho3 hg3 hb3
  replace ho3 : OwnG w3 (w1.heap.size + 1) 88 3 v3 ((ls.take i).map itrow) := by rw [List.map_take]; exact ho3
  obtain ⟨xa, xn, xc, rfl⟩ := ownG_sh ho3
  have hbB : Below w1.heap.size w1 w3 := HB.out.2.2.1.trans (hb3.mono (Nat.le_succ _))
  have hqx3 : w3.heap[w1.heap.size]? = some (.cells #[.int .i64 kk, .slice ba bn bc, .bool dd] 88 (0, 0)) := (hb3.block _ (Nat.lt_succ_self _)).trans HB.out.2.2.2.1
  have c13 := (HB.out.1.below hbB).cells.2.1
  have hsf3 := (H.out.2.2.2.2.2.2.2.1.below HB.out.2.1 (Nat.le_refl _)).below hbB HB.out.2.1.size
  have hone2 := HB.out.1.ones (l := ls.drop (i + 1)) (fun g hg => List.mem_of_mem_drop hg)
  have hlsl := HB.out.1.lsl
  have hll := HB.out.1.ll
  have hl3 : (((ls.take i).map itrow).length + ((ls.drop (i + 1)).map itrow).length) * 40 ≤ 140737488355328 := by simp; omega
  have hl4 : ((ls.take i).map itrow).length + ((ls.drop (i + 1)).map itrow).length ≤ 140737488355328 := by simp; omega
  have hz3 : w1.heap.size + 1 ≤ w3.heap.size := by have := hb3.size; omega
  have HC := hid (And.intro hbB hqx3)
  clear hg3 hb3 hbB hqx3 hone hst1 hl1 hl2 hz1 hlsl hll c1A hzA
  go_wp2_with (at_builtin; refine append_sg _ rfl _ _ 78 88 (.agg #[.int .i64 0, .slice none 0 0, .bool false]) 3 40 rfl Try.underlying78 info88 rfl (by decide) (w1.heap.size + 1) _ ((ls.take i).map itrow) rfl ho3 w.heap.size _ ((ls.drop (i + 1)).map itrow) rfl hsf3 (itrow_len _) hone2 hl3 hl4 hz3 ?_)
  intro v4 w4 ho4 hg4 hb4
  replace ho4 : OwnG w4 (w1.heap.size + 1) 88 3 v4 ((ls.take i ++ ls.drop (i + 1)).map itrow) := by rw [List.map_append, List.map_take, List.map_drop]; exact ho4
  obtain ⟨ya, yn, yc, rfl⟩ := ownG_sh ho4
  have hbB : Below w1.heap.size w1 w4 := HC.out.1.trans (hb4.mono (Nat.le_succ _))
  have hqx4 : w4.heap[w1.heap.size]? = some (.cells #[.int .i64 kk, .slice ba bn bc, .bool dd] 88 (0, 0)) := (hb4.block _ (Nat.lt_succ_self _)).trans HC.out.2
  have x0 : w4.cell? ⟨w1.heap.size, 0, none⟩ = some (.int .i64 kk) := by simp [World.cell?, hqx4]
  have x1 : w4.cell? ⟨w1.heap.size, 1, none⟩ = some (.slice ba bn bc) := by simp [World.cell?, hqx4]
  have x2 : w4.cell? ⟨w1.heap.size, 2, none⟩ = some (.bool dd) := by simp [World.cell?, hqx4]
  have hbA4 : Below w4.heap.size w4 (w4.alloc (.cells #[.int .i64 kk, .slice ba bn bc, .bool dd] 88)) := (Below.refl _ _).alloc (Nat.le_refl _) _
  have ho4A := ho4.below hbA4 (Nat.le_refl _)
  have efrow : [Value.int .i64 kk, .slice ba bn bc, .bool dd] = itrow f := by rw [HB.out.2.2.2.2.1, HB.out.2.2.2.2.2, ← H.out.2.2.2.2.2.2.2.2.2]
  have hrow := row_cells w4 [.int .i64 kk, .slice ba bn bc, .bool dd] 88
  have hone3 : ∀ u ∈ [Value.int .i64 kk, .slice ba bn bc, .bool dd], u.oneCell' = true := by rw [efrow]; exact itrow_one f H.out.2.2.2.2.2.2.2.2.2
  have hl9 := H.out.2.2.2.2.2.1
  have hl5 : (((ls.take i ++ ls.drop (i + 1)).map itrow).length + 1) * 40 ≤ 140737488355328 := by simp at hl9 ⊢; omega
  have hl6 : ((ls.take i ++ ls.drop (i + 1)).map itrow).length + 1 ≤ 140737488355328 := by simp at hl9 ⊢; omega
  have hz4 : w1.heap.size + 1 ≤ (w4.alloc (.cells #[.int .i64 kk, .slice ba bn bc, .bool dd] 88)).heap.size := by have := hb4.size; have := hbA4.size; omega
  have HD := hid (And.intro hbB (And.intro hbA4 efrow))
  clear ho4 ho3 hg4 hb4 hbB hqx4 hone2 hsf3 hl3 hl4 hz3 hbA4 efrow hl9
  go_wp2_with (at_builtin; refine append_g _ rfl _ _ 78 88 (.agg #[.int .i64 0, .slice none 0 0, .bool false]) 3 40 rfl Try.underlying78 info88 rfl (by decide) (w1.heap.size + 1) _ ((ls.take i ++ ls.drop (i + 1)).map itrow) rfl ho4A w4.heap.size 1 [.int .i64 kk, .slice ba bn bc, .bool dd] rfl rfl hrow hone3 hl5 hl6 hz4 ?_)
  intro v5 w5 ho5 hg5 hb5
  have ho5' : OwnG w5 (w1.heap.size + 1) 88 3 v5 ((ls.take i ++ ls.drop (i + 1) ++ [f]).map itrow) := by
    have : [f].map itrow = [[Value.int .i64 kk, .slice ba bn bc, .bool dd]] := by rw [HD.out.2.2]; rfl
    rw [List.map_append, List.map_append, this, List.map_take, List.map_drop, List.append_assoc]; exact ho5
  obtain ⟨za, zn, zc, rfl⟩ := ownG_sh ho5'
  have hbB : Below w1.heap.size w1 w5 := (HD.out.1.trans (HD.out.2.1.mono HD.out.1.size)).trans (hb5.mono (Nat.le_succ _))
  have hR5 := HB.out.1.below hbB
  have c15 := hR5.cells.2.1
  have f15 := hR5.cells.2.2.2 1
  have hbs := hR5.base_le
  have hbw1 : base ≤ w1.heap.size + 1 := by have := HB.out.1.base_le; omega
  obtain ⟨hR6, hS6⟩ := hR5.setL (l' := (ls.take i ++ ls.drop (i + 1) ++ [f]).map (·.it)) rfl (ho5'.any_base hbw1) (fun g hg => hR5.ob g (H.out.2.2.2.2.1 g hg)) H.out.2.2.2.1 (by rw [List.length_map]; exact H.out.2.2.2.2.2.1)
  have HE := hid (And.intro hR6 (((RStp.below HB.out.2.1 H.out.1.base_le).trans (RStp.below hbB HB.out.1.base_le)).trans hS6))
  clear ho5 ho5' hg5 hb5 hbB hR5 hbs hbw1 hR6 hS6 ho4A hrow hone3 hl5 hl6 hz4 x0 x1 x2
  go_wp2_with fail
  go_end0
  exact ⟨rfl, ⟨_, _, _, by rw [H.out.2.2.1]; exact HE.out.1⟩, HE.out.2⟩
/-- what the document's Get answers -/
def RGetP (base q : Nat) (r : RC) (k : Int) (w : World) (e : Ending) (w' : World) : Prop :=
  RStp base w w' ∧ ((atR r.l k = none ∧ e = .returned (.tuple #[.slice none 0 0, .bool false]) ∧ RX w' base q r) ∨
  ∃ i it v, atR r.l k = some i ∧ r.l[i]? = some it ∧ e = .returned (.tuple #[v, .bool true]) ∧ RX w' base q (useR r k) ∧ OwnB w' w.heap.size 5 v it.b)
theorem ownB_kr {b2 : Nat} {v : Value} {l : List UInt8} (h : OwnB w b2 5 v l) (hk : KR w w') : OwnB w' b2 5 v l :=
  h.kept hk fun k e c t f hc => by
    obtain ⟨c9, f9, hc9⟩ := ownB_type h k e
    rw [hc9] at hc; cases hc; decide
set_option maxRecDepth 100000 in
set_option maxHeartbeats 1000000 in
theorem rget_any (h : RK w base q r ls lv rv) (k : Int) (hbl : ∀ it ∈ r.l, it.b.length ≤ 1000000) : Calls Try.prog 25 #[cp q, .int .i64 k] w (RGetP base q r k w) := by
  have HA := rat_any h k
  cases ha : atR r.l k with
  | none =>
    rw [atI_none ha] at HA
    have HA := hid HA
    have H := hid (And.intro h ha)
    clear h ha
    go_enter Try.func25, Try.ntmps25
    go_wp2_with fail
    refine HA.out.mono ?_
    rintro e w1 ⟨rfl, hb1⟩
    have HB := hid hb1
    clear hb1
    go_wp2_with fail
    go_ret2
    exact ⟨RStp.below HB.out H.out.1.base_le, .inl ⟨H.out.2, rfl, _, _, _, H.out.1.below HB.out⟩⟩
  | some i =>
    rw [atI_some ha] at HA
    have HA := hid HA
    obtain ⟨it, hit, hik⟩ := atR_some ha
    obtain ⟨f, hf, hfi⟩ : ∃ f, ls[i]? = some f ∧ f.it = it := by
      rw [h.l, List.getElem?_map] at hit
      cases hq : ls[i]? with
      | none => rw [hq] at hit; cases hit
      | some f => rw [hq] at hit; exact ⟨f, rfl, Option.some.inj hit⟩
    have hil2 : i ≤ 2000 := by have := (List.getElem?_eq_some_iff.1 hf).1; have := h.ll; have := h.lsl; omega
    have hfm := List.mem_of_getElem? hf
    have hbl' : it.b.length ≤ 1000000 := hbl it (List.mem_of_getElem? hit)
    obtain ⟨ba, bn, bc, hbv⟩ := h.bsh hfm
    obtain ⟨⟨la, ln, lc, rfl⟩, _⟩ := h.shapes
    have H := hid (And.intro h (And.intro hf (And.intro ha (And.intro hit (And.intro hfi (And.intro hfm hbv))))))
    have hi0 : ¬ ((i : Int) < 0) := by omega
    clear h hf ha hit hik hbl hfi hfm hbv
    go_enter Try.func25, Try.ntmps25
    go_wp2_with fail
    refine HA.out.mono ?_
    rintro e w1 ⟨rfl, hb1⟩
    have hR1 := H.out.1.below hb1
    have hbA : Below w1.heap.size w1 (w1.alloc (.cells #[] 5)) := (Below.refl _ _).alloc (Nat.le_refl _) _
    have hRA := hR1.below hbA
    have c1 := hRA.cells.2.1
    obtain ⟨b, o, hb, hia, _, g1, _⟩ := hRA.item H.out.2.1
    have hob := hRA.ob f H.out.2.2.2.2.2.1
    rw [H.out.2.2.2.2.1] at hob
    rw [H.out.2.2.2.2.2.2] at g1 hob
    have hsl := hob.slB
    have HB := hid (And.intro hR1 (And.intro hb1 hbA))
    have hoe := own_empty w1 5
    have hl9 : ([] : List UInt8).length + it.b.length ≤ 1000000 := by simp; omega
    have HL := hid hl9
    clear hR1 hRA hb1 hbA hb hob hl9
    go_wp2_with (at_builtin; refine append_sl _ rfl _ _ 22 5 rfl Try.underlying22 Try.info5 w1.heap.size _ [] rfl hoe _ it.b _ rfl hsl ?_ ?_ ?_)
    · have := HL.out; simp at this ⊢; omega
    · simp
    intro v2 w2 ho2 hb2
    replace ho2 : OwnB w2 w1.heap.size 5 v2 it.b := by simpa using ho2
    have hb12 : Below w1.heap.size w1 w2 := HB.out.2.2.trans hb2
    have hR2 := HB.out.1.below hb12
    have HU := hid (ruse_any hR2 k H.out.2.2.1)
    obtain ⟨xa, xn, xc, rfl⟩ := slB_shape ho2.slB
    have HC := hid (And.intro ho2 (And.intro hb12 hR2.base_le))
    clear ho2 hb2 hb12 hR2 hsl hoe c1 g1 hia
    go_wp2_with fail
    refine HU.out.mono ?_
    rintro e w3 ⟨rfl, hX, hS⟩
    have HD := hid (And.intro hX hS)
    clear hX hS HU
    go_wp2_with fail
    go_ret2
    refine ⟨((RStp.below HB.out.2.1 H.out.1.base_le).trans (RStp.below HC.out.2.1 HB.out.1.base_le)).trans HD.out.2, .inr ⟨i, it, _, H.out.2.2.1, H.out.2.2.2.1, rfl, HD.out.1, (ownB_kr HC.out.1 HD.out.2.kr).any_base HB.out.2.1.size⟩⟩
set_option maxRecDepth 100000 in
set_option maxHeartbeats 1000000 in
theorem rdrop_any (h : RK w base q r ls lv rv) (k : Int) : Calls Try.prog 43 #[cp q, .int .i64 k] w fun e w' => e = .returned (.tuple #[]) ∧ RX w' base q (dropR r k) ∧ RStp base w w' := by
  have HA := rat_any h k
  cases ha : atR r.l k with
  | none =>
    rw [atI_none ha] at HA
    have HA := hid HA
    have H := hid (And.intro h ha)
    clear h ha
    go_enter Try.func43, Try.ntmps43
    go_wp2_with fail
    refine HA.out.mono ?_
    rintro e w1 ⟨rfl, hb1⟩
    have HB := hid hb1
    clear hb1
    go_wp2_with fail
    refine bodyPost_ret (results_none rfl _ _ _) rfl ?_
    exact ⟨rfl, ⟨_, _, _, by unfold dropR; rw [H.out.2]; exact H.out.1.below HB.out⟩, RStp.below HB.out H.out.1.base_le⟩
  | some i =>
    rw [atI_some ha] at HA
    have HA := hid HA
    have hlt : i < r.l.length := by obtain ⟨it, h1, _⟩ := atR_some ha; exact (List.getElem?_eq_some_iff.1 h1).1
    have hil2 : i ≤ 2000 := by have := h.ll; omega
    have hdr : dropR r k = { cleanR r k with l := cutR (cleanR r k).l i } := by unfold dropR; rw [ha]
    have hcl : (cleanR r k).l.length = r.l.length := by unfold cleanR offR; simp
    have H := hid (And.intro h (And.intro hdr (by rw [hcl]; exact hlt : i < (cleanR r k).l.length)))
    obtain ⟨D, hD⟩ : ∃ D, D = cleanR r k := ⟨_, rfl⟩
    rw [← hD] at H
    have hi0 : ¬ ((i : Int) < 0) := by omega
    have hf1 : IntKind.i64.wrap ((i : Int) + 1) = ((i + 1 : Nat) : Int) := by rw [IntWalk.i64_in _ (by omega)]; rfl
    obtain ⟨I, hI⟩ : ∃ I, I = i + 1 := ⟨_, rfl⟩
    rw [← hI] at hf1
    have HI := hid (And.intro hI hD)
    clear h ha hdr hcl hlt hI hD
    go_enter Try.func43, Try.ntmps43
    go_wp2_with fail
    refine HA.out.mono ?_
    rintro e w0 ⟨rfl, hb0⟩
    have HC := hid (rclean_any (H.out.1.below hb0) k)
    have HB0 := hid (RStp.below hb0 H.out.1.base_le)
    clear hb0
    go_wp2_with fail
    refine HC.out.mono ?_
    rintro e w1 ⟨rfl, ⟨ls1, lv1, rv1, hR1⟩, hS1⟩
    rw [← HI.out.2] at hR1
    have hil := hR1.lsl
    have hlt := H.out.2.2
    obtain ⟨vt, ta, tn, tc, hvt, hst, hrt⟩ := hR1.to i (by omega)
    obtain ⟨vf, fa, fn, fc, hvf, hsf, hrf⟩ := hR1.from (i + 1) (by omega)
    rw [← HI.out.1] at hrf
    subst hvt hvf
    have c1 := hR1.cells.2.1
    obtain ⟨⟨la, ln, lc, rfl⟩, _⟩ := hR1.shapes
    have hone := hR1.ones (l := ls1.take i) (fun g hg => List.mem_of_mem_take hg)
    have hone2 := hR1.ones (l := ls1.drop (i + 1)) (fun g hg => List.mem_of_mem_drop hg)
    have hll := hR1.ll
    have hl1 : (([] : List (List Value)).length + ((ls1.take i).map itrow).length) * 40 ≤ 140737488355328 := by simp; omega
    have hl2 : ([] : List (List Value)).length + ((ls1.take i).map itrow).length ≤ 140737488355328 := by simp; omega
    have hl3 : (((ls1.take i).map itrow).length + ((ls1.drop (i + 1)).map itrow).length) * 40 ≤ 140737488355328 := by simp; omega
    have hl4 : ((ls1.take i).map itrow).length + ((ls1.drop (i + 1)).map itrow).length ≤ 140737488355328 := by simp; omega
    have HB := hid (And.intro hR1 (And.intro hS1 (And.intro hone2 (And.intro hsf (And.intro hl3 hl4)))))
    clear hR1 hS1 hone2 hsf hl3 hl4 hil hlt hll HC
    go_wp2_with (at_builtin; refine append_sg _ rfl _ _ 78 88 (.agg #[.int .i64 0, .slice none 0 0, .bool false]) 3 40 rfl Try.underlying78 info88 rfl (by decide) w1.heap.size _ [] rfl (OwnG.nil _ _ _ _) w1.heap.size _ ((ls1.take i).map itrow) rfl hst (itrow_len _) hone hl1 hl2 (Nat.le_refl _) ?_)
    intro v3 w3 ho3 hg3 hb3
    replace ho3 : OwnG w3 w1.heap.size 88 3 v3 ((ls1.take i).map itrow) := by rw [List.map_take]; exact ho3
    obtain ⟨xa, xn, xc, rfl⟩ := ownG_sh ho3
    have c13 := (HB.out.1.below hb3).cells.2.1
    have hsf3 := HB.out.2.2.2.1.below hb3 (Nat.le_refl _)
    have hone2 := HB.out.2.2.1
    have hl3 := HB.out.2.2.2.2.1
    have hl4 := HB.out.2.2.2.2.2
    have hz3 : w1.heap.size ≤ w3.heap.size := hb3.size
    have HC := hid hb3
    clear hg3 hb3 hone hst hl1 hl2
    go_wp2_with (at_builtin; refine append_sg _ rfl _ _ 78 88 (.agg #[.int .i64 0, .slice none 0 0, .bool false]) 3 40 rfl Try.underlying78 info88 rfl (by decide) w1.heap.size _ ((ls1.take i).map itrow) rfl ho3 w1.heap.size _ ((ls1.drop (i + 1)).map itrow) rfl hsf3 (itrow_len _) hone2 hl3 hl4 hz3 ?_)
    intro v4 w4 ho4 hg4 hb4
    replace ho4 : OwnG w4 w1.heap.size 88 3 v4 ((ls1.take i ++ ls1.drop (i + 1)).map itrow) := by rw [List.map_append, List.map_take, List.map_drop]; exact ho4
    obtain ⟨ya, yn, yc, rfl⟩ := ownG_sh ho4
    have hbB : Below w1.heap.size w1 w4 := HC.out.trans hb4
    have hR5 := HB.out.1.below hbB
    have c15 := hR5.cells.2.1
    have f15 := hR5.cells.2.2.2 1
    have hcut : cutR D.l i = (ls1.take i ++ ls1.drop (i + 1)).map (·.it) := by unfold cutR; rw [HB.out.1.l, List.map_append, List.map_take, List.map_drop]
    have hsub : (ls1.take i ++ ls1.drop (i + 1)).Sublist ls1 := by
      conv => rhs; rw [← List.take_append_drop i ls1]
      refine List.Sublist.append_left ?_ _
      rw [← List.drop_drop (i := 1) (j := i)]
      exact List.drop_sublist _ _
    obtain ⟨hR6, hS6⟩ := hR5.setL (l' := cutR D.l i) hcut (ho4.any_base HB.out.1.base_le) (fun g hg => hR5.ob g (hsub.subset hg)) (by
      rw [hcut]
      have h1 := HB.out.1.nd
      rw [HB.out.1.l] at h1
      exact ((hsub.map (·.it)).map (·.k)).nodup h1) (by
      rw [hcut, List.length_map]
      have h1 := hsub.length_le
      have h2 := HB.out.1.ll
      have h3 := HB.out.1.lsl
      omega)
    have HE := hid (And.intro hR6 (((HB0.out.trans HB.out.2.1).trans (RStp.below hbB HB.out.1.base_le)).trans hS6))
    clear ho4 ho3 hg4 hb4 hbB hR5 hR6 hS6 hcut hsub hone2 hsf3 hl3 hl4 hz3
    go_wp2_with fail
    go_end0
    exact ⟨rfl, ⟨_, _, _, by rw [H.out.2.1]; exact HE.out.1⟩, HE.out.2⟩
end
end Go.Proofs.Ytbklhhmcigangaa

namespace Go.Lr
set_option linter.unusedVariables false
/-- ahead of what a key is to be written, and it -/
def lineR (R : List (Int × Int)) : Nat → List Int → Int → List Int
  | 0, out, _ => out
  | n + 1, out, k => if k ∈ out then out else (R.filter fun q => q.1 == k).foldl (fun o q => lineR R n o q.2) out ++ [k]
inductive ReachR (R : List (Int × Int)) : Int → Int → Prop
  | refl (x : Int) : ReachR R x x
  | step {x y z : Int} : (x, y) ∈ R → ReachR R y z → ReachR R x z
/-- what a line holds -/
structure LG (R : List (Int × Int)) (k0 : Int) (out : List Int) : Prop where
  nd : out.Nodup
  sub : ∀ x ∈ out, x ∈ k0 :: R.map (·.2)
theorem LG.len {R : List (Int × Int)} {k0 : Int} {out : List Int} (h : LG R k0 out) : out.length ≤ R.length + 1 := by
  have := h.nd.length_le_of_subset (l₂ := k0 :: R.map (·.2)) (fun x hx => h.sub x hx)
  simpa using this
section
variable {R : List (Int × Int)} {ρ : Int → Nat}
theorem line_ext (hρ : ∀ q ∈ R, ρ q.2 < ρ q.1) (k0 : Int) : ∀ (n : Nat) (out : List Int) (k : Int), ρ k < n → LG R k0 out → k ∈ k0 :: R.map (·.2) → ∃ t, lineR R n out k = out ++ t ∧ (∀ x ∈ t, ρ x ≤ ρ k) ∧ LG R k0 (out ++ t) := by
  intro n
  induction n with
  | zero => intro out k hk; omega
  | succ n ih =>
    intro out k hk hg hm
    unfold lineR
    by_cases h : k ∈ out
    · rw [if_pos h]; exact ⟨[], by simp, by simp, by simpa using hg⟩
    · rw [if_neg h]
      have key : ∀ (l : List (Int × Int)), (∀ q ∈ l, q ∈ R ∧ q.1 = k) → ∀ o, LG R k0 o → ∃ t, l.foldl (fun o q => lineR R n o q.2) o = o ++ t ∧ (∀ x ∈ t, ρ x < ρ k) ∧ LG R k0 (o ++ t) := by
        intro l
        induction l with
        | nil => intro _ o ho; exact ⟨[], by simp, by simp, by simpa using ho⟩
        | cons q l ihl =>
          intro hl o ho
          obtain ⟨hq, hqk⟩ := hl q (List.mem_cons_self ..)
          have hr := hρ q hq
          rw [hqk] at hr
          obtain ⟨t1, e1, b1, g1⟩ := ih o q.2 (by omega) ho (List.mem_cons_of_mem _ (List.mem_map.2 ⟨q, hq, rfl⟩))
          obtain ⟨t2, e2, b2, g2⟩ := ihl (fun x hx => hl x (List.mem_cons_of_mem _ hx)) _ g1
          refine ⟨t1 ++ t2, ?_, fun x hx => ?_, by rw [← List.append_assoc]; exact g2⟩
          · rw [List.foldl_cons, e1, e2, List.append_assoc]
          · rcases List.mem_append.1 hx with hx | hx
            · have := b1 x hx; omega
            · exact b2 x hx
      obtain ⟨t, e, b, g⟩ := key (R.filter fun q => q.1 == k) (fun q hq => by have := List.mem_filter.1 hq; exact ⟨this.1, by simpa using this.2⟩) out hg
      rw [e]
      refine ⟨t ++ [k], by rw [List.append_assoc], fun x hx => ?_, ?_⟩
      · rcases List.mem_append.1 hx with hx | hx
        · exact Nat.le_of_lt (b x hx)
        · simp at hx; rw [hx]; exact Nat.le_refl _
      · rw [← List.append_assoc]
        refine ⟨?_, fun x hx => ?_⟩
        · rw [List.nodup_append]
          refine ⟨g.nd, by simp, fun a ha c hc => ?_⟩
          simp at hc; subst hc
          rintro rfl
          rcases List.mem_append.1 ha with ha | ha
          · exact h ha
          · have := b a ha; omega
        · rcases List.mem_append.1 hx with hx | hx
          · exact g.sub x hx
          · simp at hx; rw [hx]; exact hm
theorem foldl_good (hρ : ∀ q ∈ R, ρ q.2 < ρ q.1) (k0 : Int) (n : Nat) (k : Int) (hk : ρ k < n + 1) (l : List (Int × Int)) (hl : ∀ q ∈ l, q ∈ R ∧ q.1 = k) : ∀ o, LG R k0 o → LG R k0 (l.foldl (fun o q => lineR R n o q.2) o) := by
  induction l with
  | nil => exact fun o ho => ho
  | cons q l ih =>
    intro o ho
    obtain ⟨hq, hqk⟩ := hl q (List.mem_cons_self ..)
    have hr := hρ q hq
    rw [hqk] at hr
    obtain ⟨t, e, _, g⟩ := line_ext hρ k0 n o q.2 (by omega) ho (List.mem_cons_of_mem _ (List.mem_map.2 ⟨q, hq, rfl⟩))
    rw [List.foldl_cons, e]
    exact ih (fun x hx => hl x (List.mem_cons_of_mem _ hx)) _ g
end
end Go.Lr
namespace Go.Proofs.Ytbklhhmcigangaa
open Go.RowKit Go.Mx Go.Lr Go.Maps
set_option linter.unusedVariables false
set_option linter.unusedSimpArgs false
section
variable {base q : Nat} {r : RC} {ls : List PI} {lv rv : Value}
def LineRP (w : World) (b2 : Nat) (ov : Value) (out : List Int) (e : Ending) (w' : World) : Prop :=
  ∃ v, e = .returned v ∧ OwnI w' b2 v out ∧ Kept w w' (fun q => ov.ownBlock ≠ some q) ∧ Below b2 w w' ∧ ∀ q, v.ownBlock = some q → ov.ownBlock = some q ∨ w.heap.size ≤ q
theorem RK.ints {w w' : World} (h : RK w base q r ls lv rv) {b2 : Nat} {ov : Value} {out : List Int} (ho : OwnI w b2 ov out) (hk : Kept w w' (fun q => ov.ownBlock ≠ some q)) : RK w' base q r ls lv rv :=
  h.keep hk fun k _ ⟨c, t, f, hc, ht⟩ e => by
    obtain ⟨c9, f9, hc9⟩ := ownI_type ho k e
    rw [hc9] at hc; cases hc; simp at ht
set_option maxRecDepth 100000 in
set_option maxHeartbeats 1000000 in
theorem rline_any (ρ : Int → Nat) (hρ : ∀ q ∈ r.r, ρ q.2 < ρ q.1) (k0 : Int) : ∀ (n : Nat) (k : Int) (w : World) (ov : Value) (out : List Int) (b2 : Nat), ρ k < n → RK w base q r ls lv rv → OwnI w b2 ov out → b2 ≤ w.heap.size → LG r.r k0 out → k ∈ k0 :: r.r.map (·.2) →
    Calls Try.prog 70 #[cp q, ov, .int .i64 k] w (LineRP w b2 ov (lineR r.r n out k)) := by
  intro n
  induction n with
  | zero => intro k w ov out b2 hk; omega
  | succ n ih =>
    intro k w ov out b2 hk h ho hb2 hg hkm
    have hlen := fun w' => ho.slI.len (P := Try.prog) Try.underlying29 (ty := 3) w'
    have hgl := hg.len
    have hlr := h.lr
    have IH := hid ih
    have H := hid (And.intro h (And.intro ho (And.intro hb2 (And.intro hg (And.intro hkm hk)))))
    obtain ⟨oa, on, oc, rfl⟩ := ownG_shape (ownI_G ho)
    obtain ⟨_, ra, rn, rc, rfl⟩ := h.shapes
    clear h ho hg hkm ih
    go_enter Try.func70, Try.ntmps70
    go_wp2_with fail
    go_loopw [7] (fun s7 wr => ∃ j : Nat, s7 = .int .i64 j ∧ j ≤ out.length ∧ Below w.heap.size w wr ∧ k ∉ out.take j) (fun s7 _ => out.length - (intOf s7).toNat)
    case atStart => exact ⟨0, rfl, by omega, Below.refl _ _, by simp⟩
    case round =>
      obtain ⟨j, rfl, hj, hbl, hT⟩ := hrel
      by_cases hlt : j < out.length
      · obtain ⟨bb, bo, hbb, hia, hrow⟩ := (H.out.2.1.slI.below hbl (Nat.le_refl _)).addr (P := Try.prog) Try.underlying29 size3 j hlt
        have hmem : out.getD j 0 ∈ out := by rw [List.getD_eq_getElem?_getD, List.getElem?_eq_getElem hlt]; exact List.getElem_mem _
        have HN := hid (show out.take (j + 1) = out.take j ++ [out.getD j 0] by rw [List.take_add_one, List.getElem?_eq_getElem hlt, List.getD_eq_getElem?_getD, List.getElem?_eq_getElem hlt]; rfl)
        obtain ⟨x, hx⟩ : ∃ x, x = out.getD j 0 := ⟨_, rfl⟩
        rw [← hx] at hrow hmem HN
        have HB := hid (And.intro hbl (And.intro hT hmem))
        clear hbl hT hx hmem hbb
        by_cases hxk : x = k
        · subst hxk
          have hbe : (x == x) = true := by simp
          go_wp2_with fail
          go_ret
          refine ⟨_, rfl, ?_, Kept.of_below HB.out.1 (fun _ h _ => h), HB.out.1.mono H.out.2.2.1, fun q e => .inl e⟩
          unfold lineR; rw [if_pos HB.out.2.2]
          exact OwnV.below H.out.2.1 HB.out.1 (Nat.le_refl _)
        · have hbe : (x == k) = false := by simpa using hxk
          have HXK := hid hxk
          clear hxk
          go_wp2_with fail
          refine ⟨⟨j + 1, by go_num, by omega, HB.out.1, ?_⟩, by simp [intOf]; omega⟩
          rw [HN.out, List.mem_append]
          rintro (h9 | h9)
          · exact HB.out.2.1 h9
          · simp at h9; exact HXK.out h9.symm
      · obtain rfl : j = out.length := by omega
        rw [List.take_length] at hT
        have HNI := hid hT
        have HB := hid hbl
        obtain ⟨wO, hwO⟩ : ∃ x, x = wr := ⟨_, rfl⟩
        subst hwO
        clear hT hbl hlt hj
        go_wp2_with fail
        go_loopw [1, 8] (fun s1 s8 wr => ∃ (j : Nat), s8 = .int .i64 j ∧ j ≤ r.r.length ∧ LG r.r k0 (((r.r.take j).filter fun q => q.1 == k).foldl (fun o q => lineR r.r n o q.2) out) ∧ OwnI wr b2 s1 (((r.r.take j).filter fun q => q.1 == k).foldl (fun o q => lineR r.r n o q.2) out) ∧ RK wr base q r ls lv (.slice ra rn rc) ∧ Kept w wr (fun q => (Value.slice oa on oc).ownBlock ≠ some q) ∧ Below b2 w wr ∧ (∀ q, s1.ownBlock = some q → (Value.slice oa on oc).ownBlock = some q ∨ w.heap.size ≤ q)) (fun _ s8 _ => r.r.length - (intOf s8).toNat)
        case atStart => exact ⟨0, rfl, by omega, H.out.2.2.2.1, OwnV.below H.out.2.1 HB.out (Nat.le_refl _), H.out.1.below HB.out, Kept.of_below HB.out (fun _ h _ => h), HB.out.mono H.out.2.2.1, fun q e => .inl e⟩
        case round =>
          obtain ⟨j, rfl, hj, hgd, ho, hR, hkp, hbl, hbk⟩ := hrel
          have hlenR := hR.lenR
          have c1 := hR.cells.2.2.1
          obtain ⟨xa, xn, xc, rfl⟩ := ownG_shape (ownI_G ho)
          by_cases hlt : j < r.r.length
          · obtain ⟨f, hf⟩ : ∃ f, r.r[j]? = some f := ⟨_, List.getElem?_eq_getElem hlt⟩
            obtain ⟨b, o, hb, hia, g0, g1⟩ := hR.rel hf
            have HN := hid (show ((r.r.take (j + 1)).filter fun q => q.1 == k) = ((r.r.take j).filter fun q => q.1 == k) ++ [f].filter (fun q => q.1 == k) by rw [List.take_add_one, hf, List.filter_append]; rfl)
            have hfm := List.mem_of_getElem? hf
            obtain ⟨x, y⟩ := f
            simp only at g0 g1
            by_cases hxk : x = k
            · subst hxk
              have hbe : (x == x) = true := by simp
              have hry := hρ (x, y) hfm
              simp only at hry
              have hym : y ∈ k0 :: r.r.map (·.2) := List.mem_cons_of_mem _ (List.mem_map.2 ⟨(x, y), hfm, rfl⟩)
              have hbz : b2 ≤ wr.heap.size := by have := hbl.size; have := H.out.2.2.1; omega
              have hcall := IH.out y wr _ _ b2 (by have := H.out.2.2.2.2.2; omega) hR ho hbz hgd hym
              obtain ⟨t, e9, _, g9⟩ := line_ext hρ k0 n _ y (by have := H.out.2.2.2.2.2; omega) hgd hym
              rw [← e9] at g9
              have HC := hid hcall
              have HX := hid (And.intro hR (And.intro ho (And.intro hkp (And.intro hbl (And.intro hbk (And.intro g9 hbz))))))
              clear hcall hR ho hkp hbl hbk hgd hry hym hf hfm hb g9 e9 hbz
              go_wp2_with fail
              refine HC.out.mono ?_
              rintro e w3 ⟨v3, rfl, ho3, hk3, hb3, hq3⟩
              have hR3 := HX.out.1.ints HX.out.2.1 hk3
              have hk03 : Kept w w3 (fun q => (Value.slice oa on oc).ownBlock ≠ some q) := ⟨Nat.le_trans HX.out.2.2.1.size hk3.size, fun i hi hn => (hk3.block i (Nat.lt_of_lt_of_le hi HX.out.2.2.1.size) (fun e => by
                rcases HX.out.2.2.2.2.1 i e with h9 | h9
                · exact hn h9
                · omega)).trans (HX.out.2.2.1.block i hi hn)⟩
              have hq03 : ∀ q, v3.ownBlock = some q → (Value.slice oa on oc).ownBlock = some q ∨ w.heap.size ≤ q := fun q e => by
                rcases hq3 q e with h9 | h9
                · exact HX.out.2.2.2.2.1 q h9
                · right; have := HX.out.2.2.1.size; omega
              have HY := hid (And.intro ho3 (And.intro hR3 (And.intro hk03 (And.intro (HX.out.2.2.2.1.trans hb3) hq03))))
              clear ho3 hk3 hb3 hq3 hR3 hk03 hq03 HC
              go_wp2_with fail
              have hfe : ((r.r.take (j + 1)).filter fun q => q.1 == x).foldl (fun o q => lineR r.r n o q.2) out = lineR r.r n (((r.r.take j).filter fun q => q.1 == x).foldl (fun o q => lineR r.r n o q.2) out) y := by
                rw [HN.out, List.foldl_append]; simp
              refine ⟨⟨j + 1, by go_num, by omega, by rw [hfe]; exact HX.out.2.2.2.2.2.1, by rw [hfe]; exact HY.out.1, HY.out.2.1, HY.out.2.2.1, HY.out.2.2.2.1, HY.out.2.2.2.2⟩, by simp [intOf]; omega⟩
            · have hbe : (x == k) = false := by simpa using hxk
              have HX := hid (And.intro hR (And.intro ho (And.intro hkp (And.intro hbl (And.intro hbk hgd)))))
              clear hR ho hkp hbl hbk hgd hf hfm hb hxk
              go_wp2_with fail
              have hfe : ((r.r.take (j + 1)).filter fun q => q.1 == k) = ((r.r.take j).filter fun q => q.1 == k) := by
                rw [HN.out]; simp [hbe]
              refine ⟨⟨j + 1, by go_num, by omega, by rw [hfe]; exact HX.out.2.2.2.2.2, by rw [hfe]; exact HX.out.2.1, HX.out.1, HX.out.2.2.1, HX.out.2.2.2.1, HX.out.2.2.2.2.1⟩, by simp [intOf]; omega⟩
          · obtain rfl : j = r.r.length := by omega
            rw [List.take_length] at hgd ho
            obtain ⟨F, hF⟩ : ∃ F, F = (r.r.filter fun q => q.1 == k).foldl (fun o q => lineR r.r n o q.2) out := ⟨_, rfl⟩
            rw [← hF] at hgd ho
            have hfl : F.length ≤ 1000000000 := by have := hgd.len; omega
            have hbA : Below wr.heap.size wr (wr.alloc (.cells #[.int .i64 k] 3)) := (Below.refl _ _).alloc (Nat.le_refl _) _
            have hoA : OwnI (wr.alloc (.cells #[.int .i64 k] 3)) b2 (.slice xa xn xc) F := OwnV.below ho hbA (Nat.le_refl _)
            have hz1 : b2 ≤ (wr.alloc (.cells #[.int .i64 k] 3)).heap.size := by have := hbl.size; have := hbA.size; have := H.out.2.2.1; omega
            have HX := hid (And.intro hkp (And.intro hbl (And.intro hbk (And.intro hbA hF))))
            clear hR hkp hbl hbk hgd hbA ho hF
            go_wp2_with (at_builtin; refine append_i1 _ rfl _ _ 29 rfl Try.underlying29 info3 b2 _ _ k rfl hoA _ _ rfl (cell_alloc1 _ _ _) hfl hz1 ?_)
            intro v' w5 ho5 hk5 hb5 hq5
            obtain ⟨ya, yn, yc, rfl⟩ := ownG_shape (ownI_G ho5)
            have HY := hid (And.intro ho5 (And.intro hk5 (And.intro hb5 hq5)))
            clear ho5 hk5 hb5 hq5 hoA hfl hz1
            go_wp2_with fail
            go_ret
            have hA := HX.out.2.2.2.1
            have hsz := HX.out.1.size
            refine ⟨_, rfl, ?_, ⟨by have := HY.out.2.1.size; have := hA.size; omega, fun i hi hn => ?_⟩, (HX.out.2.1.trans (hA.mono (by have := HX.out.2.1.size; have := H.out.2.2.1; omega))).trans HY.out.2.2.1, fun q e => ?_⟩
            · unfold lineR; rw [if_neg HNI.out, ← HX.out.2.2.2.2]; exact HY.out.1
            · refine ((HY.out.2.1.block i (by have := hA.size; omega) (fun e => ?_)).trans (hA.block i (by omega))).trans (HX.out.1.block i hi hn)
              rcases HX.out.2.2.1 i e with h9 | h9
              · exact hn h9
              · omega
            · rcases HY.out.2.2.2 q e with h9 | h9
              · exact HX.out.2.2.1 q h9
              · right; have := hA.size; omega
end
end Go.Proofs.Ytbklhhmcigangaa

namespace Go.Lr
set_option linter.unusedVariables false
/-- the lines of a key, written -/
def writeL (r : RC) (ρ : Int → Nat) (k : Int) : List Int := if dirtyR r.l k = true then lineR r.r (ρ k + 1) [] k else []
def writeR (r : RC) (ρ : Int → Nat) (k : Int) : RC := (writeL r ρ k).foldl cleanR r
open Classical in
noncomputable def afterR (r : RC) (k f : Int) : RC × Nat :=
  if dirtyR r.l k = false ∨ dirtyR r.l f = false then (r, 15) else if ReachR r.r f k then (r, 11) else if (k, f) ∈ r.r then (r, 0) else ({ r with r := r.r ++ [(k, f)] }, 0)
end Go.Lr
namespace Go.Proofs.Ytbklhhmcigangaa
open Go.RowKit Go.Mx Go.Lr Go.Maps
set_option linter.unusedVariables false
set_option linter.unusedSimpArgs false
section
variable {w w' : World} {base q : Nat} {r : RC} {ls : List PI} {lv rv : Value}
theorem RK.appR (h : RK w base q r ls lv rv) {r' : List (Int × Int)} {rv' : Value} (ho : OwnG w' base 98 2 rv' (r'.map relrow)) (hg : w.grownBy w' rv.ownBlock) (hb : Below base w w') (hl : r'.length ≤ 2000) :
    RK (w'.setCell ⟨q, 2, none⟩ rv') base q { r with r := r' } ls lv rv' ∧ RStp base w (w'.setCell ⟨q, 2, none⟩ rv') ∧ w'.cell? ⟨q, 2, none⟩ = some rv ∧ w'.frozen? ⟨q, 2, none⟩ = false := by
  have hk1 : Kept w w' (fun k => rv.ownBlock ≠ some k) := Kept.grown hg fun k e => by simp [e]
  have ne : ∀ {k : Nat} {c : Array Value} {t : TypeId} {f : Nat × Nat}, w.heap[k]? = some (.cells c t f) → t ≠ 98 → rv.ownBlock ≠ some k := fun {k c t f} hc ht e => by
    obtain ⟨c9, f9, hc9⟩ := ownG_type h.orr k e
    rw [hc9] at hc; simp only [Option.some.injEq, Obj.cells.injEq] at hc; exact ht hc.2.1.symm
  have hck : w'.heap[q]? = some (.cells #[.int .i64 r.room, lv, rv] 81 (0, 0)) := (hk1.block q h.qlt (ne h.ck (by decide))).trans h.ck
  have hk : Kept w' (w'.setCell ⟨q, 2, none⟩ rv') (fun k => k ≠ q) := Kept.set w' q 2 _ (by simp)
  have hol : OwnG w' base 88 3 lv (ls.map itrow) := h.ol.kept hk1 fun k e => by
    obtain ⟨c9, f9, hc9⟩ := ownG_type h.ol k e; exact ne hc9 (by decide)
  have hob : ∀ f ∈ ls, OwnB w' base 5 f.bv f.it.b := fun f hf => (h.ob f hf).kept hk1 fun k e => by
    obtain ⟨c9, f9, hc9⟩ := ownB_type (h.ob f hf) k e; exact ne hc9 (by decide)
  refine ⟨{ l := h.l, ck := heap_setCell_at' w' q 2 _ _ 81 (0, 0) hck, hq := h.hq, ol := hol.kept hk fun k e => ?_, orr := ho.kept hk fun k e => ?_, ob := fun f hf => (hob f hf).kept hk fun k e => ?_, nd := h.nd, ll := h.ll, lr := hl }, ⟨hb.setCell (p := ⟨q, 2, none⟩) h.hq _, ⟨by have := hk.size; have := hk1.size; omega, fun k hkl hn => ?_⟩⟩, by simp [World.cell?, hck], by simp [World.frozen?, hck]⟩
  · obtain ⟨c, f, hc⟩ := ownG_type hol k e; exact blk_ne hc hck (by decide)
  · obtain ⟨c, f, hc⟩ := ownG_type ho k e; exact blk_ne hc hck (by decide)
  · obtain ⟨c, f9, hc⟩ := ownB_type (hob f hf) k e; exact blk_ne hc hck (by decide)
  · have h1 : rv.ownBlock ≠ some k := fun e => by
      obtain ⟨c9, f9, hc9⟩ := ownG_type h.orr k e
      exact (hn _ _ _ hc9).2.2 rfl
    have h2 : k ≠ q := by rintro rfl; exact (hn _ _ _ h.ck).1 rfl
    exact (hk.block k (by have := hk1.size; omega) h2).trans (hk1.block k hkl h1)
set_option maxRecDepth 100000 in
set_option maxHeartbeats 1000000 in
theorem rwrite_any (h : RK w base q r ls lv rv) (k : Int) (ρ : Int → Nat) (hρ : ∀ q ∈ r.r, ρ q.2 < ρ q.1) : Calls Try.prog 60 #[cp q, .int .i64 k] w fun e w' => ∃ v, e = .returned v ∧ OwnI w' w.heap.size v (writeL r ρ k) ∧ RX w' base q (writeR r ρ k) ∧ RStp base w w' := by
  have HD := hid (rdirty_any h k)
  cases hd : dirtyR r.l k with
  | false =>
    rw [hd] at HD
    have H := hid (And.intro h hd)
    clear h hd
    go_enter Try.func60, Try.ntmps60
    go_wp2_with fail
    refine HD.out.mono ?_
    rintro e w1 ⟨rfl, hb1⟩
    have HB := hid hb1
    clear hb1 HD
    go_wp2_with fail
    go_ret
    have e1 : writeL r ρ k = [] := by unfold writeL; rw [H.out.2]; rfl
    refine ⟨_, rfl, by rw [e1]; exact OwnV.nil _ _ _, ?_, RStp.below HB.out H.out.1.base_le⟩
    unfold writeR; rw [e1]; exact ⟨_, _, _, H.out.1.below HB.out⟩
  | true =>
    rw [hd] at HD
    have e1 : writeL r ρ k = lineR r.r (ρ k + 1) [] k := by unfold writeL; rw [hd]; rfl
    obtain ⟨L, hL⟩ : ∃ L, L = lineR r.r (ρ k + 1) [] k := ⟨_, rfl⟩
    have hLl : L.length ≤ 2001 := by
      obtain ⟨t, h1, _, h3⟩ := line_ext hρ k (ρ k + 1) [] k (Nat.lt_succ_self _) ⟨by simp, by simp⟩ (List.mem_cons_self ..)
      have := h3.len
      have := h.lr
      rw [hL, h1]; omega
    have H := hid (And.intro h (And.intro e1 hρ))
    have HLE := hid hL
    unfold writeR
    rw [e1, ← hL]
    clear h hd e1 hL hρ
    go_enter Try.func60, Try.ntmps60
    go_wp2_with fail
    refine HD.out.mono ?_
    rintro e w1 ⟨rfl, hb1⟩
    have hc := rline_any ρ H.out.2.2 k (ρ k + 1) k w1 (.slice none 0 0) [] w1.heap.size (Nat.lt_succ_self _) (H.out.1.below hb1) (OwnV.nil _ _ _) (Nat.le_refl _) ⟨by simp, by simp⟩ (List.mem_cons_self ..)
    rw [← HLE.out] at hc
    have HC := hid hc
    have HB := hid hb1
    clear hb1 HD hc
    go_wp2_with fail
    refine HC.out.mono ?_
    rintro e w2 ⟨v2, rfl, ho2, hk2, hb2, hq2⟩
    have hlen := fun w' => ho2.slI.len (P := Try.prog) Try.underlying29 (ty := 3) w'
    obtain ⟨xa, xn, xc, rfl⟩ := ownG_shape (ownI_G ho2)
    have H2 := hid (And.intro ho2 (And.intro hb2 ((H.out.1.below HB.out).below hb2)))
    clear ho2 hk2 hb2 hq2 HC
    go_wp2_with fail
    go_loopw [6] (fun s6 wr => ∃ j : Nat, s6 = .int .i64 j ∧ j ≤ L.length ∧ RX wr base q ((L.take j).foldl cleanR r) ∧ OwnI wr w1.heap.size (.slice xa xn xc) L ∧ RStp base w wr) (fun s6 _ => L.length - (intOf s6).toNat)
    case atStart =>
      refine ⟨0, rfl, by omega, ⟨_, _, _, H2.out.2.2⟩, H2.out.1, ?_⟩
      have h1 := H.out.1.base_le
      have h2 := HB.out.size
      exact (RStp.below HB.out h1).trans (RStp.below H2.out.2.1 (by omega))
    case round =>
      obtain ⟨j, rfl, hj, hX, ho, hS⟩ := hrel
      by_cases hlt : j < L.length
      · obtain ⟨bb, bo, hbb, hia, hrow⟩ := ho.slI.addr (P := Try.prog) Try.underlying29 size3 j hlt
        have HN := hid (show L.take (j + 1) = L.take j ++ [L.getD j 0] by rw [List.take_add_one, List.getElem?_eq_getElem hlt, List.getD_eq_getElem?_getD, List.getElem?_eq_getElem hlt]; rfl)
        obtain ⟨x, hx⟩ : ∃ x, x = L.getD j 0 := ⟨_, rfl⟩
        rw [← hx] at hrow HN
        obtain ⟨ls', lv', rv', hR⟩ := hX
        have HC := hid (rclean_any hR x)
        have HX := hid (And.intro ho hS)
        clear hR ho hS hbb hx
        go_wp2_with fail
        refine HC.out.mono ?_
        rintro e w3 ⟨rfl, hX3, hS3⟩
        have H3 := hid (And.intro hX3 hS3)
        clear hX3 hS3 HC
        go_wp2_with fail
        refine ⟨⟨j + 1, by go_num, by omega, ?_, ownI_kr HX.out.1 H3.out.2.kr, HX.out.2.trans H3.out.2⟩, by simp [intOf]; omega⟩
        rw [HN.out, List.foldl_append]; exact H3.out.1
      · obtain rfl : j = L.length := by omega
        rw [List.take_length] at hX
        have HX := hid (And.intro hX (And.intro ho hS))
        clear hX ho hS
        go_wp2_with fail
        go_ret
        exact ⟨_, rfl, OwnV.any_base HX.out.2.1 HB.out.size, HX.out.1, HX.out.2.2⟩
def BehR (w : World) (R : List (Int × Int)) (k f : Int) (e : Ending) (w' : World) : Prop := ∃ b : Bool, e = .returned (.bool b) ∧ (b = true ↔ ReachR R k f) ∧ Below w.heap.size w w'
set_option maxRecDepth 100000 in
set_option maxHeartbeats 1000000 in
theorem rbehind_any (ρ : Int → Nat) (hρ : ∀ q ∈ r.r, ρ q.2 < ρ q.1) (f : Int) : ∀ (n : Nat) (k : Int) (w : World), ρ k < n → RK w base q r ls lv rv → Calls Try.prog 63 #[cp q, .int .i64 k, .int .i64 f] w (BehR w r.r k f) := by
  intro n
  induction n with
  | zero => intro k w hk; omega
  | succ n ih =>
    intro k w hk h
    have IH := hid ih
    have H := hid (And.intro h hk)
    have hlenR := h.lenR
    have hlr := h.lr
    obtain ⟨_, ra, rn, rc, rfl⟩ := h.shapes
    clear h ih
    by_cases hkf : k = f
    · subst hkf
      have hbe : (k == k) = true := by simp
      go_enter Try.func63, Try.ntmps63
      go_wp2_with fail
      go_ret
      exact ⟨true, rfl, by simp [ReachR.refl], Below.refl _ _⟩
    · have hbe : (k == f) = false := by simpa using hkf
      have HKF := hid hkf
      clear hkf
      go_enter Try.func63, Try.ntmps63
      go_wp2_with fail
      go_loopw [7] (fun s7 wr => ∃ j : Nat, s7 = .int .i64 j ∧ j ≤ r.r.length ∧ Below w.heap.size w wr ∧ Hid (∀ x ∈ r.r.take j, x.1 = k → ¬ ReachR r.r x.2 f)) (fun s7 _ => r.r.length - (intOf s7).toNat)
      case atStart => exact ⟨0, rfl, by omega, Below.refl _ _, hid (by simp)⟩
      case round =>
        obtain ⟨j, rfl, hj, hbl, HT⟩ := hrel
        have hR := H.out.1.below hbl
        have c1 := hR.cells.2.2.1
        by_cases hlt : j < r.r.length
        · obtain ⟨g, hg⟩ : ∃ f, r.r[j]? = some f := ⟨_, List.getElem?_eq_getElem hlt⟩
          obtain ⟨b, o, hb, hia, g0, g1⟩ := hR.rel hg
          have HN := hid (show r.r.take (j + 1) = r.r.take j ++ [g] by rw [List.take_add_one, hg]; rfl)
          have hgm := List.mem_of_getElem? hg
          obtain ⟨x, y⟩ := g
          simp only at g0 g1
          by_cases hxk : x = k
          · subst hxk
            have hbe1 : (x == x) = true := by simp
            have hry := hρ (x, y) hgm
            simp only at hry
            have hcall := IH.out y wr (by have := H.out.2; omega) hR
            have HC := hid hcall
            have HX := hid (And.intro hbl hgm)
            clear hcall hR hbl hry hgm hg hb
            go_wp2_with fail
            refine HC.out.mono ?_
            rintro e w3 ⟨bb, rfl, hbb, hb3⟩
            have H3 := hid (And.intro hbb (HX.out.1.trans (hb3.mono HX.out.1.size)))
            clear hbb hb3 HC
            cases bb
            · go_wp2_with fail
              refine ⟨⟨j + 1, by go_num, by omega, H3.out.2, hid fun z hz hzk => ?_⟩, by simp [intOf]; omega⟩
              rw [HN.out] at hz
              rcases List.mem_append.1 hz with hz | hz
              · exact HT.out z hz hzk
              · simp at hz; rw [hz]; exact fun h9 => by have := H3.out.1.2 h9; cases this
            · go_wp2_with fail
              go_ret
              exact ⟨true, rfl, by simp; exact .step HX.out.2 (by have := H3.out.1; simpa using this), H3.out.2⟩
          · have hbe1 : (x == k) = false := by simpa using hxk
            have HX := hid (And.intro hbl hxk)
            clear hR hbl hgm hg hb hxk
            go_wp2_with fail
            refine ⟨⟨j + 1, by go_num, by omega, HX.out.1, hid fun z hz hzk => ?_⟩, by simp [intOf]; omega⟩
            rw [HN.out] at hz
            rcases List.mem_append.1 hz with hz | hz
            · exact HT.out z hz hzk
            · simp at hz; rw [hz] at hzk; exact absurd hzk HX.out.2
        · obtain rfl : j = r.r.length := by omega
          have HX := hid hbl
          clear hR hbl
          go_wp2_with fail
          go_ret
          refine ⟨false, rfl, ?_, HX.out⟩
          simp
          intro h9
          have hT := HT.out
          rw [List.take_length] at hT
          cases h9 with
          | refl => exact HKF.out rfl
          | step h1 h2 => exact hT _ h1 rfl h2
set_option maxRecDepth 100000 in
set_option maxHeartbeats 1000000 in
theorem rafter_any (h : RK w base q r ls lv rv) (k f : Int) (ρ : Int → Nat) (hρ : ∀ q ∈ r.r, ρ q.2 < ρ q.1) (hl : r.r.length + 1 ≤ 2000) : Calls Try.prog 41 #[cp q, .int .i64 k, .int .i64 f] w fun e w' => e = .returned (.int .i64 (afterR r k f).2) ∧ RX w' base q (afterR r k f).1 ∧ RStp base w w' := by
  have HD := hid (rdirty_any h k)
  have HD2 := hid (fun w' (hb : Below w.heap.size w w') => rdirty_any (h.below hb) f)
  obtain ⟨A, hA⟩ : ∃ A, A = afterR r k f := ⟨_, rfl⟩
  rw [← hA]
  have H := hid (And.intro h (And.intro hA hρ))
  obtain ⟨_, ra, rn, rc, rfl⟩ := h.shapes
  have hlenR := h.lenR
  clear h hA hρ
  have HE15 : Hid (dirtyR r.l k = false ∨ dirtyR r.l f = false → A = (r, 15)) := hid fun h9 => by rw [H.out.2.1]; unfold afterR; rw [if_pos h9]
  cases hd : dirtyR r.l k
  · rw [hd] at HD
    have HA := hid (HE15.out (.inl hd))
    clear hd
    go_enter Try.func41, Try.ntmps41
    go_wp2_with fail
    refine HD.out.mono ?_
    rintro e w1 ⟨rfl, hb1⟩
    have HB := hid hb1
    clear hb1 HD
    go_wp2_with fail
    go_ret
    rw [HA.out]
    exact ⟨rfl, ⟨_, _, _, H.out.1.below HB.out⟩, RStp.below HB.out H.out.1.base_le⟩
  · rw [hd] at HD
    cases hd2 : dirtyR r.l f
    · rw [hd2] at HD2
      have HA := hid (HE15.out (.inr hd2))
      clear hd hd2
      go_enter Try.func41, Try.ntmps41
      go_wp2_with fail
      refine HD.out.mono ?_
      rintro e w1 ⟨rfl, hb1⟩
      have HB := hid hb1
      have HD3 := hid (HD2.out w1 hb1)
      clear hb1 HD
      go_wp2_with fail
      refine HD3.out.mono ?_
      rintro e w2 ⟨rfl, hb2⟩
      have HB2 := hid (HB.out.trans (hb2.mono HB.out.size))
      clear hb2 HD3
      go_wp2_with fail
      go_ret
      rw [HA.out]
      exact ⟨rfl, ⟨_, _, _, H.out.1.below HB2.out⟩, RStp.below HB2.out H.out.1.base_le⟩
    · rw [hd2] at HD2
      have HND := hid (show ¬ (dirtyR r.l k = false ∨ dirtyR r.l f = false) by rw [hd, hd2]; simp)
      clear hd hd2
      go_enter Try.func41, Try.ntmps41
      go_wp2_with fail
      refine HD.out.mono ?_
      rintro e w1 ⟨rfl, hb1⟩
      have HB := hid hb1
      have HD3 := hid (HD2.out w1 hb1)
      clear hb1 HD
      go_wp2_with fail
      refine HD3.out.mono ?_
      rintro e w2 ⟨rfl, hb2⟩
      have hb02 := HB.out.trans (hb2.mono HB.out.size)
      have HB2 := hid hb02
      have HBE := hid (rbehind_any ρ H.out.2.2 k (ρ f + 1) f w2 (Nat.lt_succ_self _) (H.out.1.below hb02))
      clear hb2 HD3 hb02
      go_wp2_with fail
      refine HBE.out.mono ?_
      rintro e w3 ⟨bb, rfl, hbb, hb3⟩
      have hb03 := HB2.out.trans (hb3.mono HB2.out.size)
      have HB3 := hid (And.intro hb03 (And.intro hbb (H.out.1.below hb03)))
      clear hb3 hbb HBE hb03
      cases bb
      · go_wp2_with fail
        go_loopw [7] (fun s7 wr => ∃ j : Nat, s7 = .int .i64 j ∧ j ≤ r.r.length ∧ Below w3.heap.size w3 wr ∧ Hid ((k, f) ∉ r.r.take j)) (fun s7 _ => r.r.length - (intOf s7).toNat)
        case atStart => exact ⟨0, rfl, by omega, Below.refl _ _, hid (by simp)⟩
        case round =>
          obtain ⟨j, rfl, hj, hbl, HT⟩ := hrel
          have hR := HB3.out.2.2.below hbl
          have c1 := hR.cells.2.2.1
          have hnr : ¬ ReachR r.r f k := fun h9 => by have := HB3.out.2.1.2 h9; cases this
          have HNR := hid hnr
          clear hnr
          by_cases hlt : j < r.r.length
          · obtain ⟨g, hg⟩ : ∃ f, r.r[j]? = some f := ⟨_, List.getElem?_eq_getElem hlt⟩
            obtain ⟨b, o, hb, hia, g0, g1⟩ := hR.rel hg
            have HN := hid (show r.r.take (j + 1) = r.r.take j ++ [g] by rw [List.take_add_one, hg]; rfl)
            have hgm := List.mem_of_getElem? hg
            obtain ⟨x, y⟩ := g
            simp only at g0 g1
            have HX := hid (And.intro hbl hgm)
            by_cases hxk : x = k
            · have hbe1 : (x == k) = true := by simpa using hxk
              by_cases hyf : y = f
              · have hbe2 : (y == f) = true := by simpa using hyf
                have HQ := hid (And.intro hxk hyf)
                clear hR hbl hgm hg hb hxk hyf
                go_wp2_with fail
                go_ret
                have e9 : A = (r, 0) := by
                  rw [H.out.2.1]; unfold afterR
                  rw [if_neg HND.out, if_neg HNR.out, if_pos (by have := HX.out.2; rw [HQ.out.1, HQ.out.2] at this; exact this)]
                rw [e9]
                have hbb := HB3.out.1.trans (HX.out.1.mono HB3.out.1.size)
                exact ⟨rfl, ⟨_, _, _, H.out.1.below hbb⟩, RStp.below hbb H.out.1.base_le⟩
              · have hbe2 : (y == f) = false := by simpa using hyf
                have HQ := hid hyf
                clear hR hbl hgm hg hb hxk hyf
                go_wp2_with fail
                refine ⟨⟨j + 1, by go_num, by omega, HX.out.1, hid ?_⟩, by simp [intOf]; omega⟩
                rw [HN.out, List.mem_append]
                rintro (h9 | h9)
                · exact HT.out h9
                · simp at h9; exact HQ.out h9.2.symm
            · have hbe1 : (x == k) = false := by simpa using hxk
              have HQ := hid hxk
              clear hR hbl hgm hg hb hxk
              go_wp2_with fail
              refine ⟨⟨j + 1, by go_num, by omega, HX.out.1, hid ?_⟩, by simp [intOf]; omega⟩
              rw [HN.out, List.mem_append]
              rintro (h9 | h9)
              · exact HT.out h9
              · simp at h9; exact HQ.out h9.1.symm
          · obtain rfl : j = r.r.length := by omega
            have hbA : Below wr.heap.size wr (wr.alloc (.cells #[.int .i64 k, .int .i64 f] 98)) := (Below.refl _ _).alloc (Nat.le_refl _) _
            have hRA := hR.below hbA
            have hoA := hRA.orr
            have hrow := row_cells wr (relrow (k, f)) 98
            have hone : ∀ u ∈ relrow (k, f), u.oneCell' = true := by intro u hu; simp at hu; rcases hu with rfl | rfl <;> rfl
            have hl1 : ((r.r.map relrow).length + 1) * 16 ≤ 140737488355328 := by rw [List.length_map]; omega
            have hl2 : (r.r.map relrow).length + 1 ≤ 140737488355328 := by rw [List.length_map]; omega
            have hz1 : base ≤ (wr.alloc (.cells #[.int .i64 k, .int .i64 f] 98)).heap.size := by have := hR.base_le; have := hbA.size; omega
            have HX := hid (And.intro hbl (And.intro hbA (And.intro hR hRA)))
            have hcA := hRA.cells.2.2.1
            clear hbl hbA hR hRA
            go_wp2_with (at_builtin; refine append_g _ rfl _ _ 79 98 (.agg #[.int .i64 0, .int .i64 0]) 2 16 rfl Try.underlying79 info98 rfl (by decide) base _ (r.r.map relrow) rfl hoA wr.heap.size 1 (relrow (k, f)) rfl rfl hrow hone hl1 hl2 hz1 ?_)
            intro v' w5 ho5 hg5 hb5
            replace ho5 : OwnG w5 base 98 2 v' ((r.r ++ [(k, f)]).map relrow) := by rw [List.map_append]; exact ho5
            obtain ⟨ya, yn, yc, rfl⟩ := ownG_sh ho5
            obtain ⟨hR6, hS6, hc6, hf6⟩ := HX.out.2.2.2.appR ho5 hg5 hb5 (by simp; omega)
            have hb3A := HB3.out.1.trans (HX.out.1.mono HB3.out.1.size)
            have HE := hid (And.intro hR6 (((RStp.below hb3A H.out.1.base_le).trans (RStp.below HX.out.2.1 HX.out.2.2.1.base_le)).trans hS6))
            clear ho5 hg5 hb5 hR6 hS6 hb3A hoA hrow hone hl1 hl2 hz1
            go_wp2_with fail
            go_ret
            have e9 : A = ({ r with r := r.r ++ [(k, f)] }, 0) := by
              rw [H.out.2.1]; unfold afterR
              rw [if_neg HND.out, if_neg HNR.out, if_neg (by have := HT.out; rwa [List.take_length] at this)]
            rw [e9]
            exact ⟨rfl, ⟨_, _, _, HE.out.1⟩, HE.out.2⟩
      · go_wp2_with fail
        go_ret
        have e9 : A = (r, 11) := by
          rw [H.out.2.1]; unfold afterR
          rw [if_neg HND.out, if_pos (by have := HB3.out.2.1; simpa using this)]
        rw [e9]
        exact ⟨rfl, ⟨_, _, _, HB3.out.2.2⟩, RStp.below HB3.out.1 H.out.1.base_le⟩
end
end Go.Proofs.Ytbklhhmcigangaa

