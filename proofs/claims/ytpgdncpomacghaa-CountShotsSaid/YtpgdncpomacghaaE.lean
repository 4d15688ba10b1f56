import Derived.Maps.AppendAt
import Derived.Test.YtpgdncpomacghaaD
namespace Go.Proofs.Ytpgdncpomacghaa
open Go.RowKit Go.Mx Go.Cnt Go.Shelf
attribute [local go_sem] Oper.semAt_some

def linC (x : Lin) : List Value := [.int .i64 x.shot, .int .i64 x.cluster, .int .i64 x.e.kind, .int .i64 x.e.start, .int .i64 x.e.count, .int .i64 x.e.size, .int .u32 x.e.sum]

theorem Try.info41 : (Try.prog.info? 41).map (fun i => (i.zero, i.size, i.bytes)) = some (some (.agg #[.int .i64 0, .int .i64 0, .int .i64 0, .int .i64 0, .int .i64 0, .int .i64 0, .int .u32 0]), 7, 56) := by kernel_rfl

/-- these blocks hold cells of another type than lines -/
def Other (bs : List Nat) (w : World) : Prop := ∀ b ∈ bs, ∃ c t fr, w.heap[b]? = some (.cells c t fr) ∧ t ≠ 41

theorem Other.lt {bs : List Nat} {w : World} (h : Other bs w) : ∀ b ∈ bs, b < w.heap.size := fun b hb => by
  obtain ⟨c, t, fr, hc, _⟩ := h b hb
  exact (Array.getElem?_eq_some_iff.1 hc).1

theorem Other.not_row {bs : List Nat} {w : World} (h : Other bs w) {base size k : Nat} {v : Value} {xs : List Value} (hr : w.ownsRow base 41 size v k xs) : ∀ b ∈ bs, some b ≠ v.ownBlock := by
  intro b hb
  obtain ⟨c, t, fr, hc, ht⟩ := h b hb
  rcases hr.2 with ⟨rfl, _⟩ | ⟨g, cap, cur, rfl, _, hgb, _⟩
  · simp [Value.ownBlock]
  · intro e'
    obtain rfl : b = g := by simpa [Value.ownBlock] using e'
    rw [hc] at hgb
    simp at hgb
    exact ht hgb.2.1

/-- the blocks lie as they lay: it abides -/
theorem ownFrom_heap {β : Type} {B : Nat} {w₀ : World} {bs : List Nat} (hb : ∀ b ∈ bs, b < B ∧ b < w₀.heap.size) : OwnFrom B (fun (_ : β) W => ∀ b ∈ bs, W.heap[b]? = w₀.heap[b]?) := by
  intro s X Y row hs hg hr b hm
  have h1 := hs b hm
  have hlt : b < X.heap.size := by
    have := (hb b hm).2
    rw [Array.getElem?_eq_getElem this] at h1
    exact (Array.getElem?_eq_some_iff.1 h1).1
  refine (hg.block b hlt (fun e => ?_)).trans h1
  have := (hr b e.symm).1
  have := (hb b hm).1
  omega

theorem KpA.putObj {n₀ : Nat} {bs : List Nat} {w : World} (hn : n₀ ≤ w.heap.size) (hb : ∀ b ∈ bs, b < w.heap.size) (W : World) (l : Nat) (o o' : Obj) (hl : w.heap.size ≤ l) (h : W.heap[l]? = some o) (h1 : o.isCells = false) (h2 : o.isWalk = false) : KpA n₀ bs W (W.putObj l o') :=
  ⟨belowK_b hn W l o o' hl h h1 h2, fun b hm => World.putObj_heap_other (by have := hb b hm; omega)⟩

set_option maxRecDepth 100000 in
set_option maxHeartbeats 4000000 in
theorem appendSeq_in (n : Nat) (hn : 3 ≤ n) (bs : List Nat) (base n₀ : Nat) (hnb : n₀ ≤ base) (gf : Nat) (lb : Array Value) (eg : ∀ args w, (callFunc gf args).run Try.prog w = .ok (.enter gf args) w)
    (S : List Lin → Prop) (Sp : List Lin → Prop) (N K : Nat) (hN : (K + N) * 56 ≤ 140737488355328) (sv : Value) (xs : List Value) (w : World) (hrow : w.ownsRow base 41 7 sv K xs) (hob : Other bs w) (hbw : base ≤ w.heap.size)
    (hseq : SeqStopsK Fence.wide (n - 1) Try.prog gf lb (fun x : Lin => #[linV x]) (KpA n₀ bs) S Sp N w) :
    CallsIn Fence.wide n Try.prog 33 #[sv, .func (.func gf) #[] lb] w fun e w' => ∃ (v : Value) (ys : List Lin), e = .returned v ∧ S ys ∧ w'.ownsRow base 41 7 v (K + ys.length) (xs ++ ys.flatMap linC) ∧ Below base w w' := by
  have h1 : 1 ≤ n := by omega
  obtain ⟨i0, hi, hz0, hz1, hz2⟩ := info_parts Try.info41
  obtain ⟨sa, sn, sc, rfl⟩ : ∃ sa sn sc, sv = .slice sa sn sc := by
    rcases hrow.2 with ⟨rfl, _⟩ | ⟨g, cap, cur, rfl, _⟩ <;> exact ⟨_, _, _, rfl⟩
  refine callsIn_of_wp_marks Try.func33 rfl trivial ?_ rfl
  simp only [Try.ntmps33, List.size_toArray, List.length_cons, List.length_nil, Nat.reduceAdd, Nat.reduceSub, Array.replicate_succ, Array.replicate_zero, List.push_toArray, List.append_toArray, List.nil_append, List.cons_append]
  gi_wp2
  have bO := Boxed.new w 35 (.slice sa sn sc)
  have hB0 : Below base w (w.alloc (.cells #[.slice sa sn sc] 35)) := (Below.refl _ w).alloc hbw _
  have hrow0 := hrow.alloc (.cells #[.slice sa sn sc] 35)
  have hlt := hob.lt
  have hk0 : ∀ b ∈ bs, (w.alloc (.cells #[.slice sa sn sc] 35)).heap[b]? = w.heap[b]? := fun b hb => Below.heap_alloc w _ b (hlt b hb)
  have hs0 : (w.alloc (.cells #[.slice sa sn sc] 35)).heap.size = w.heap.size + 1 := by simp
  obtain ⟨w0, hw0⟩ : ∃ w0, w.alloc (.cells #[.slice sa sn sc] 35) = w0 := ⟨_, rfl⟩
  rw [hw0] at bO hB0 hrow0 hk0 hs0 ⊢
  have hbb : Below w.heap.size w w0 := by rw [← hw0]; exact (Below.refl _ w).alloc (Nat.le_refl _) _
  clear hw0
  refine wpIn_rangeFunc_ownH rfl h1 (gf := gf) (lb := lb) rfl trivial eg hseq KpA.trans (KpA.putObj (by omega) (fun b hb => by have := hlt b hb; omega)) hbb (fun _ => rfl)
    (fun pre W => (∃ v, Boxed W w.heap.size 35 v ∧ W.ownsRow base 41 7 v (K + pre.length) (xs ++ pre.flatMap linC) ∧ True) ∧ (∀ b ∈ bs, W.heap[b]? = w.heap[b]?) ∧ Below base w W)
    (fun _ _ _ => False)
    (OwnFrom.and (Own.from (holdsRow_own base w.heap.size 35 41 7 (fun pre : List Lin => K + pre.length) (fun pre => xs ++ pre.flatMap linC) (fun _ _ => True)) _) (OwnFrom.and (ownFrom_heap (fun b hb => ⟨by have := hlt b hb; omega, hlt b hb⟩)) (ownFrom_below hbw (by omega))))
    (fun _ _ _ _ _ hs _ _ => hs)
    ⟨⟨_, bO, by simpa using hrow0, trivial⟩, hk0, hB0⟩
    (fun x a' W => ∃ Bx, W.heap[Bx]? = some (.cells (linC x).toArray 41 (0, 0)) ∧ a' = { tmps := #[.slice sa sn sc, .func (.func gf) #[] lb, .pointer (some ⟨w.heap.size, 0, none⟩), undef, .slice none 0 0, .pointer (some ⟨Bx, 0, none⟩), .func (.func gf) #[] lb, linV x, undef, undef, undef, undef, undef], defers := [] })
    (fun x a' _ X Y row hs hg hr => by
      obtain ⟨Bx, h2, h3⟩ := hs
      refine ⟨Bx, (hg.block Bx (Array.getElem?_eq_some_iff.1 h2).1 (fun e => ?_)).trans h2, h3⟩
      obtain ⟨_, o, ho, hc⟩ := hr Bx e.symm
      rw [h2] at ho; cases ho; cases hc)
    ?assign ?body ?done ?stop
  case assign =>
    rintro l pre x W K' ⟨⟨v, hv, hr, _⟩, hk, hB⟩ hK
    simp only [linV]
    gi_wp2
    have hz := hB.size
    exact hK _ _ ((KeepsOthers.alloc _ _).from _) ⟨(Below.refl n₀ W).alloc (by omega) _, fun b hb => Below.heap_alloc W _ b (by have := hlt b hb; omega)⟩
      ⟨⟨_, hv.alloc _, hr.alloc _, trivial⟩, fun b hb => (Below.heap_alloc W _ b (by have := hlt b hb; omega)).trans (hk b hb), hB.alloc (by omega) _⟩ ⟨W.heap.size, World.alloc_heap_new W _, rfl⟩
  case body =>
    rintro l pre x a' W hl ⟨r, hr⟩ ⟨⟨v, hv, hrw, _⟩, hk, hB⟩ ⟨Bx, bX, rfl⟩ hlt2
    have hc := hv.cell
    obtain ⟨va, vn, vc, rfl⟩ : ∃ sa sn sc, v = .slice sa sn sc := by
      rcases hrw.2 with ⟨rfl, _⟩ | ⟨g, cap, cur, rfl, _⟩ <;> exact ⟨_, _, _, rfl⟩
    have hx : ∀ j u, (linC x)[j]? = some u → W.cell? ⟨Bx, j, none⟩ = some u := by
      intro j u hu; unfold World.cell?; simp only [bX]; simpa using hu
    have x0 := hx 0 _ rfl
    have x1 := hx 1 _ rfl
    have x2 := hx 2 _ rfl
    have x3 := hx 3 _ rfl
    have x4 := hx 4 _ rfl
    have x5 := hx 5 _ rfl
    have x6 := hx 6 _ rfl
    have HB := hid bX
    clear hx bX
    have hz := hB.size
    have hcn : ∀ j u, (linC x)[j]? = some u → (W.alloc (.cells #[.int .i64 x.shot, .int .i64 x.cluster, .int .i64 x.e.kind, .int .i64 x.e.start, .int .i64 x.e.count, .int .i64 x.e.size, .int .u32 x.e.sum] 41)).cell? ((⟨W.heap.size, 0, none⟩ : Addr).add j) = some u := by
      intro j u hu
      rw [show ((⟨W.heap.size, 0, none⟩ : Addr).add j) = ⟨W.heap.size, j, none⟩ by unfold Addr.add; split <;> simp_all]
      rw [World.cell?_alloc_at _ _ _ _ rfl]
      simpa [linC] using hu
    have HCN := hid hcn
    have hone : ∀ u ∈ linC x, u.oneCell' = true := by intro u hu; simp [linC] at hu; rcases hu with rfl | rfl | rfl | rfl | rfl | rfl | rfl <;> rfl
    have HON := hid hone
    clear hcn hone
    gi_wp2_with (gi_at_builtin; refine wpListIn_append_own _ rfl _ _ 35 rfl base 41 i0 _ 7 56 Try.underlying35 hi hz0 hz1 hz2 rfl (by decide) _ _ _ rfl (hrw.alloc _) ⟨W.heap.size, 0, none⟩ 1 1 (linC x) rfl rfl HCN.out HON.out ?c3 ?c4 ?c5 ?_)
    case c3 => unfold maxLen; omega
    case c4 => omega
    case c5 => simp; omega
    intro v' w1 hown' hgrow _
    obtain ⟨g', cap', rfl⟩ := ownsRow_succ (k := K + pre.length) hown'
    obtain ⟨hv1, hv2, hr2, hk2, hb2⟩ := hv.appended (by decide) hrw (by omega) (by omega) hown' hgrow
    have hc1 := hv1.cell
    have hf1 := hv1.frozen
    have hkk : ∀ b ∈ bs, (w1.setCell ⟨w.heap.size, 0, none⟩ (.slice (some ⟨g', 0, none⟩) (K + pre.length + 1) cap')).heap[b]? = W.heap[b]? := fun b hb => by
      have hlb := hlt b hb
      have hob' : Other bs W := fun b hb => by obtain ⟨c, t, fr, h, ht⟩ := hob b hb; exact ⟨c, t, fr, (hk b hb).trans h, ht⟩
      exact (Below.heap_setCell _ _ _ b (show b ≠ w.heap.size by omega)).trans ((hgrow.block b (by simp; omega) (hob'.not_row hrw b hb)).trans (Below.heap_alloc W _ b (by omega)))
    have HKK := hid hkk
    clear hkk
    gi_wp2
    exact ⟨hk2.from _, ⟨hb2.mono hnb, HKK.out⟩, ⟨_, hv2, by simpa [Nat.add_assoc] using hr2, trivial⟩, fun b hb => (HKK.out b hb).trans (hk b hb), hB.trans hb2⟩
  case done =>
    rintro D zs W hD hS ⟨⟨v, hv, hrw, _⟩, hk, hB⟩ hK
    have hc := hv.cell
    obtain ⟨va, vn, vc, rfl⟩ : ∃ sa sn sc, v = .slice sa sn sc := by
      rcases hrw.2 with ⟨rfl, _⟩ | ⟨g, cap, cur, rfl, _⟩ <;> exact ⟨_, _, _, rfl⟩
    gi_wp2
    refine ⟨by simp, .inl ⟨_, _, rfl, run_takeDeferred hK, ?_⟩⟩
    exact ⟨_, results_tmp rfl _ _ _, _, zs, rfl, hS, ownsRow_putObj hrw _ hK rfl, hB.trans (belowK_b (w := w) hbw W D _ _ (by omega) hK rfl rfl)⟩
  case stop =>
    rintro D c pre W _ _ h _
    exact h.elim
end Go.Proofs.Ytpgdncpomacghaa
