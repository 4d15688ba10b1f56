import Derived.Test.YtpgdncpomacghaaE
namespace Go.Proofs.Ytpgdncpomacghaa
open Go.RowKit Go.Mx Go.Cnt Go.Shelf

theorem one_stops (n : Nat) (hn : 1 ≤ n) (Bt Bs n₀ : Nat) (sh : Int) (tv : Value) (t : Tab) (hl : t.length ≤ 1000000) (w : World) (hBt : w.cell? ⟨Bt, 0, none⟩ = some tv) (hBs : w.cell? ⟨Bs, 0, none⟩ = some (.int .i64 sh))
    (hbt : Bt < w.heap.size) (hbs : Bs < w.heap.size) (hn₀ : n₀ ≤ w.heap.size) (ht : IsTab w n₀ tv t) :
    SeqStopsK Fence.wide n Try.prog 39 #[.pointer (some ⟨Bt, 0, none⟩), .pointer (some ⟨Bs, 0, none⟩)] (fun x : Lin => #[linV x]) (KpA n₀ [Bt, Bs]) (fun ys => ys = linesT sh t) (fun pre => pre <+: linesT sh t) (t.length * 8) w :=
  fun l J Jx W hW hJ _ hY h0 => by
    have hz := hW.size
    exact one1_in n hn l Bt Bs n₀ sh tv t J Jx hl hY W hJ ((hW.cell (p := ⟨Bt, 0, none⟩) hbt).trans hBt) ((hW.cell (p := ⟨Bs, 0, none⟩) hbs).trans hBs) (by omega) (by omega) (by omega) (ht.below hW hn₀) h0

theorem one_any (sh : Int) (tv : Value) (w : World) :
    Calls Try.prog 32 #[.int .i64 sh, .agg #[tv]] w fun e w' => e = .returned (.func (.func 39) #[] #[.pointer (some ⟨w.heap.size + 1, 0, none⟩), .pointer (some ⟨w.heap.size, 0, none⟩)]) ∧ (w.alloc (.cells #[.int .i64 sh] 3)).alloc (.cells #[tv] 24) = w' := by
  go_enter Try.func32, Try.ntmps32
  go_wp2
  go_ret
  exact ⟨rfl, rfl⟩

/-- a slice of lines of the call's own -/
def OwnL (w : World) (base : Nat) (v : Value) (ls : List Lin) : Prop := w.ownsRow base 41 7 v ls.length (ls.flatMap linC)

/-- AppendSeq(out, one(sh, t)) in the world behind 'one' -/
theorem app_one (base : Nat) (sv : Value) (ls : List Lin) (sh : Int) (tv : Value) (t : Tab) (hl : t.length ≤ 1000000) (hls : ls.length ≤ 1000000000) (w : World) (hown : OwnL w base sv ls) (hb : base ≤ w.heap.size) (ht : IsTab w base tv t) :
    Calls Try.prog 33 #[sv, .func (.func 39) #[] #[.pointer (some ⟨w.heap.size + 1, 0, none⟩), .pointer (some ⟨w.heap.size, 0, none⟩)]] ((w.alloc (.cells #[.int .i64 sh] 3)).alloc (.cells #[tv] 24)) fun e w' =>
      ∃ v, e = .returned v ∧ OwnL w' base v (ls ++ linesT sh t) ∧ Below base w w' := by
  obtain ⟨w1, hw1⟩ : ∃ w1, (w.alloc (.cells #[.int .i64 sh] 3)).alloc (.cells #[tv] 24) = w1 := ⟨_, rfl⟩
  have hs : w1.heap.size = w.heap.size + 2 := by rw [← hw1]; simp
  have hbel : Below base w w1 := by rw [← hw1]; exact ((Below.refl _ _).alloc hb _).alloc (by simp; omega) _
  have h0 : w1.heap[w.heap.size]? = some (.cells #[.int .i64 sh] 3 (0, 0)) := by
    rw [← hw1]; exact (Below.heap_alloc _ _ _ (by simp)).trans (World.alloc_heap_new w _)
  have h1 : w1.heap[w.heap.size + 1]? = some (.cells #[tv] 24 (0, 0)) := by
    rw [← hw1]; have := World.alloc_heap_new (w.alloc (.cells #[.int .i64 sh] 3)) (.cells #[tv] 24); rwa [World.size_alloc] at this
  have ho : OwnL w1 base sv ls := by rw [← hw1]; exact (hown.alloc _).alloc _
  rw [hw1]
  clear hw1
  refine callsIn_wide.1 ((appendSeq_in 5 (by omega) [w.heap.size + 1, w.heap.size] base base (Nat.le_refl _) 39 _ (enters_of Try.func39 (by kernel_rfl) rfl) _ _ _ ls.length (by omega) sv (ls.flatMap linC) w1 ho
    (by intro b hb; simp at hb; rcases hb with rfl | rfl
        · exact ⟨_, _, _, h1, by decide⟩
        · exact ⟨_, _, _, h0, by decide⟩) (by omega)
    (one_stops 4 (by omega) (w.heap.size + 1) w.heap.size base sh tv t hl w1 (by simp [World.cell?, h1]) (by simp [World.cell?, h0]) (by omega) (by omega) (by omega) (ht.below hbel (Nat.le_refl _)))).mono ?_)
  rintro e w' ⟨v, ys, rfl, rfl, hr, hb'⟩
  refine ⟨v, rfl, ?_, hbel.trans hb'⟩
  unfold OwnL
  rw [List.length_append, List.flatMap_append]
  exact hr

theorem collect_one (sh : Int) (tv : Value) (t : Tab) (hl : t.length ≤ 1000000) (w : World) (base : Nat) (hb : base ≤ w.heap.size) (ht : IsTab w base tv t) :
    Calls Try.prog 31 #[.func (.func 39) #[] #[.pointer (some ⟨w.heap.size + 1, 0, none⟩), .pointer (some ⟨w.heap.size, 0, none⟩)]] ((w.alloc (.cells #[.int .i64 sh] 3)).alloc (.cells #[tv] 24)) fun e w' =>
      ∃ v, e = .returned v ∧ OwnL w' base v (linesT sh t) ∧ Below base w w' := by
  have happ := hid (app_one base (.slice none 0 0) [] sh tv t hl (by simp) w (World.ownsRow_nil _ _ _ _) hb ht)
  go_enter Try.func31, Try.ntmps31
  go_wp2_with fail
  refine happ.out.mono ?_
  rintro e w' ⟨v, rfl, ho, hbel⟩
  go_wp2
  go_ret
  exact ⟨v, rfl, by simpa using ho, hbel⟩

/-- the snapshots -/
def shotC (s : ShotM) (tv : Value) : List Value := [.string ⟨s.name.toArray⟩, .int .i64 s.size, tv]
def IsShots (w : World) (B : Nat) (sv : Value) (ss : List ShotM) : Prop :=
  ∃ tvs : List Value, tvs.length = ss.length ∧ SlG w B 3 sv (List.zipWith shotC ss tvs) ∧ ∀ i, i < ss.length → IsTab w B (tvs.getD i undef) (ss.getD i default).t

theorem IsShots.below {w w' : World} {B B' : Nat} {v : Value} {ss : List ShotM} (h : IsShots w B v ss) (hb : Below B' w w') (hB : B ≤ B') : IsShots w' B v ss := by
  obtain ⟨lvs, h1, h2, h3⟩ := h
  exact ⟨lvs, h1, h2.below hb hB, fun i hi => (h3 i hi).below hb hB⟩
theorem IsShots.mono {w : World} {B B' : Nat} {v : Value} {ss : List ShotM} (h : IsShots w B v ss) (hB : B ≤ B') : IsShots w B' v ss := by
  obtain ⟨lvs, h1, h2, h3⟩ := h
  exact ⟨lvs, h1, h2.mono hB, fun i hi => (h3 i hi).mono hB⟩
theorem IsShots.len {w : World} {B : Nat} {v : Value} {ss : List ShotM} (h : IsShots w B v ss) (w' : World) {ty : TypeId} : (Builtin.len_ #[25] ty #[v]).run Try.prog w' = .ok (.int .i64 ss.length) w' := by
  obtain ⟨lvs, h1, h2, h3⟩ := h
  have := h2.len (P := Try.prog) (ty := ty) Try.underlying25 w'
  rwa [List.length_zipWith, h1, Nat.min_self] at this
theorem sizeS (w : World) : (sizeOf 53).run Try.prog w = .ok 3 w := by kernel_rfl
theorem IsShots.at {w : World} {B : Nat} {v : Value} {ss : List ShotM} (h : IsShots w B v ss) (i : Nat) (hi : i < ss.length) :
    ∃ b o tv, b < B ∧ (∀ w' (k : IntKind), (Instr.indexAt 25 v (.int k (i : Int))).run Try.prog w' = .ok (.pointer (some ⟨b, o, none⟩)) w') ∧
      w.cell? ⟨b, o, none⟩ = some (.string ⟨(ss.getD i default).name.toArray⟩) ∧ w.cell? ⟨b, o + 1, none⟩ = some (.int .i64 (ss.getD i default).size) ∧ w.cell? ⟨b, o + 2, none⟩ = some tv ∧ IsTab w B tv (ss.getD i default).t := by
  obtain ⟨tvs, h1, h2, h3⟩ := h
  obtain ⟨b, o, hb, hia, hc⟩ := h2.addr (P := Try.prog) Try.underlying25 sizeS i (by simp; omega)
  have e : (List.zipWith shotC ss tvs).getD i [] = shotC (ss.getD i default) (tvs.getD i undef) := by
    simp [List.getD_eq_getElem?_getD, List.getElem?_zipWith, List.getElem?_eq_getElem hi, List.getElem?_eq_getElem (show i < tvs.length by omega)]
  rw [e] at hc
  exact ⟨b, o, _, hb, hia, hc 0 _ rfl, hc 1 _ rfl, hc 2 _ rfl, h3 i hi⟩
end Go.Proofs.Ytpgdncpomacghaa
