import Derived.Test.YtmcllcepoiakeaaGreatDP
import Derived.Deep.RegionHeld
import Derived.IntWalk
import Derived.Lib.AppendStr
set_option linter.unusedSimpArgs false
set_option linter.unusedVariables false
namespace Go.Mx
open Go.RowKit
theorem bcell {W w1 : World} (hb : Below W.heap.size W w1) : (∀ b o, b < W.heap.size → w1.cell? ⟨b, o, none⟩ = W.cell? ⟨b, o, none⟩) ∧ (∀ b o, b < W.heap.size → w1.frozen? ⟨b, o, none⟩ = W.frozen? ⟨b, o, none⟩) ∧ W.heap.size ≤ w1.heap.size :=
  ⟨fun b o h => hb.cell (p := ⟨b, o, none⟩) h, fun b o h => hb.frozen (p := ⟨b, o, none⟩) h, hb.size⟩
theorem bel1 (w : World) (o : Obj) : Below w.heap.size w (w.alloc o) := (Below.refl _ _).alloc (Nat.le_refl _) _
theorem bel2 (w : World) (o o' : Obj) : Below w.heap.size w ((w.alloc o).alloc o') := (bel1 w o).alloc (by simp) _
theorem bel3 (w : World) (o o' o2 : Obj) : Below w.heap.size w (((w.alloc o).alloc o').alloc o2) := (bel2 w o o').alloc (by simp; omega) _
theorem bel4 (w : World) (o o' o2 o3 : Obj) : Below w.heap.size w ((((w.alloc o).alloc o').alloc o2).alloc o3) := (bel3 w o o' o2).alloc (by simp; omega) _
theorem bel1' {w w' : World} {o : Obj} (h : Below (w.alloc o).heap.size (w.alloc o) w') : Below w.heap.size w w' := (bel1 w o).trans (h.mono (by simp))
theorem bel2' {w w' : World} {o o' : Obj} (h : Below ((w.alloc o).alloc o').heap.size ((w.alloc o).alloc o') w') : Below w.heap.size w w' := (bel2 w o o').trans (h.mono (by simp; omega))
theorem bel3' {w w' : World} {o o' o2 : Obj} (h : Below (((w.alloc o).alloc o').alloc o2).heap.size (((w.alloc o).alloc o').alloc o2) w') : Below w.heap.size w w' := (bel3 w o o' o2).trans (h.mono (by simp; omega))
theorem belT {a b c : World} (h : Below a.heap.size a b) (k : Below b.heap.size b c) : Below a.heap.size a c := h.trans (k.mono h.size)
/-- stores into a block, from place i on -/
def stL (w : World) (b : Nat) : Nat → List Value → World
  | _, [] => w
  | i, v :: l => stL (w.setCell ⟨b, i, none⟩ v) b (i + 1) l
def wrL (c : Array Value) : Nat → List Value → Array Value
  | _, [] => c
  | i, v :: l => wrL (c.setIfInBounds i v) (i + 1) l
theorem stL_heap {b : Nat} {t : TypeId} {fr : Nat × Nat} : ∀ (l : List Value) (w : World) (i : Nat) (c : Array Value), w.heap[b]? = some (.cells c t fr) → (stL w b i l).heap[b]? = some (.cells (wrL c i l) t fr)
  | [], _, _, _, h => h
  | v :: l, w, i, c, h => stL_heap l _ (i + 1) _ (heap_setCell_at' w b i v c t fr h)
theorem stL_below {B b : Nat} (hb : B ≤ b) : ∀ (l : List Value) (w w0 : World) (i : Nat), Below B w0 w → Below B w0 (stL w b i l)
  | [], _, _, _, h => h
  | v :: l, w, w0, i, h => stL_below hb l _ w0 (i + 1) (h.setCell (p := ⟨b, i, none⟩) hb v)
theorem stL_size (b : Nat) : ∀ (l : List Value) (w : World) (i : Nat), (stL w b i l).heap.size = w.heap.size
  | [], _, _ => rfl
  | v :: l, w, i => (stL_size b l _ (i + 1)).trans (World.size_setCell _ _ _)
theorem cell_of {w : World} {b : Nat} {c : Array Value} {t : TypeId} {fr : Nat × Nat} (h : w.heap[b]? = some (.cells c t fr)) (i : Nat) : w.cell? ⟨b, i, none⟩ = c[i]? := by simp [World.cell?, h]
theorem fz_of {w : World} {b : Nat} {c : Array Value} {t : TypeId} (h : w.heap[b]? = some (.cells c t (0, 0))) (i : Nat) : w.frozen? ⟨b, i, none⟩ = false := by simp [World.frozen?, h]
theorem alloc_old {w : World} {o : Obj} {b : Nat} (h : b < w.heap.size) : (w.alloc o).heap[b]? = w.heap[b]? := Below.heap_alloc _ _ _ h
theorem new2_0 (w : World) (o o' : Obj) : ((w.alloc o).alloc o').heap[w.heap.size]? = some o := (alloc_old (by simp)).trans (alloc_new w o)
theorem new2_1 (w : World) (o o' : Obj) : ((w.alloc o).alloc o').heap[w.heap.size + 1]? = some o' := by have := alloc_new (w.alloc o) o'; rwa [World.size_alloc] at this
end Go.Mx
namespace Go.Proofs.YtmcllcepoiakeaaGreat
open Go.RowKit Go.Mx Go.Proofs.YtmcllcepoiakeaaGreat.Dx
abbrev nilS : Value := .slice none 0 0
/-- a meta without entries -/
abbrev emv (bk : List UInt8) (cv : Value) : Value := .agg #[.int .i64 0, .int .i64 4, nmv bk, nilS, nilS, nilS, cv]
theorem clone132 (w : World) : Calls Tryz.prog 132 #[nilS] w fun e w' => e = .returned nilS ∧ w = w' := by
  have hq : ∀ w', (binOp .eql 91 nilS nilS).run Tryz.prog w' = .ok (.bool true) w' := fun w' => run_eql_nil_slice w' 91 110 none 0 0 0 0 Tryz.underlying91
  go_enter Tryz.func132, Tryz.ntmps132
  go_wp2
  go_ret
  exact ⟨rfl, rfl⟩
theorem clone133 (w : World) : Calls Tryz.prog 133 #[nilS] w fun e w' => e = .returned nilS ∧ w = w' := by
  have hq : ∀ w', (binOp .eql 92 nilS nilS).run Tryz.prog w' = .ok (.bool true) w' := fun w' => run_eql_nil_slice w' 92 102 none 0 0 0 0 Tryz.underlying92
  go_enter Tryz.func133, Tryz.ntmps133
  go_wp2
  go_ret
  exact ⟨rfl, rfl⟩
theorem copied_nil (w : World) : Calls Tryz.prog 175 #[.agg #[nilS]] w fun e w' => e = .returned (.agg #[nilS]) ∧ Below w.heap.size w w' := by
  go_enter Tryz.func175, Tryz.ntmps175
  go_wp2
  refine wp_loop_once ?_
  go_wp2
  exact bodyPost_ret (v := .agg #[nilS]) (by simp [results, Tryz.results175, go_sem]) rfl ⟨rfl, bel3 _ _ _ _⟩
theorem cut_nil (w : World) : Calls Tryz.prog 98 #[.agg #[nilS], .int .i64 4096] w fun e w' => e = .returned (.agg #[nilS]) ∧ Below w.heap.size w w' := by
  go_enter Tryz.func98, Tryz.ntmps98
  go_wp2
  refine wp_loop_once ?_
  go_wp2_with fail
  refine (copied_nil _).mono ?_
  rintro e w1 ⟨rfl, hb⟩
  obtain ⟨hc, hf, hz⟩ := bcell hb
  have hB := hid (bel2' hb)
  clear hb
  go_wp2
  exact bodyPost_ret (v := .agg #[nilS]) (by simp [results, Tryz.results98, go_sem, hc]) rfl ⟨rfl, hB.out.setCell (p := ⟨_, _, none⟩) (by simp) _⟩
theorem size_0_4 (w : World) : Calls Tryz.prog 135 #[.int .i64 4, .int .i64 0] w fun e w' => e = .returned (.bool true) ∧ w = w' := by
  go_enter Tryz.func135, Tryz.ntmps135
  go_wp2
  go_ret
  exact ⟨rfl, rfl⟩
theorem unlike_nil (w : World) : Calls Tryz.prog 138 #[nilS] w fun e w' => e = .returned (.bool true) ∧ Below w.heap.size w w' := by
  have hmm := @run_makeMap Tryz.prog
  go_enter Tryz.func138, Tryz.ntmps138
  go_wp2
  refine wp_loop_once ?_
  go_wp2
  go_ret
  exact ⟨rfl, bel1 _ _⟩
theorem tright_nil (n cl : Int) (w : World) (h1 : 0 ≤ n) (h2 : n ≤ 4096) (h3 : 0 ≤ cl) (h4 : cl ≤ 6) : Calls Tryz.prog 136 #[.agg #[nilS], .int .i64 n, .int .i64 cl] w fun e w' => e = .returned (.bool true) ∧ Below w.heap.size w w' := by
  have t1 : decide (n < 0) = false := by simpa using h1
  have t2 : decide (4096 < n) = false := by simpa using h2
  have t3 : decide (cl < 0) = false := by simpa using h3
  have t4 : decide (6 < cl) = false := by simpa using h4
  go_enter Tryz.func136, Tryz.ntmps136
  go_wp2
  refine wp_loop_once ?_
  go_wp2
  go_ret
  exact ⟨rfl, bel1 _ _⟩
theorem name_one (c : UInt8) (h1 : 97 ≤ c.toNat) (h2 : c.toNat ≤ 122) (w : World) : Calls Tryz.prog 28 #[nmv [c]] w fun e w' => e = .returned (.bool true) ∧ w = w' := by
  have t1 : decide ((((⟨#[c]⟩ : ByteArray)[0]'(by simp [ByteArray.size])).toNat : Int) < 97) = false := by show decide ((c.toNat : Int) < 97) = false; simp; omega
  have t2 : decide ((122 : Int) < (((⟨#[c]⟩ : ByteArray)[0]'(by simp [ByteArray.size])).toNat : Int)) = false := by show decide ((122 : Int) < (c.toNat : Int)) = false; simp; omega
  clear h1 h2
  go_enter Tryz.func28, Tryz.ntmps28
  go_wp2
  refine wp_loop_rounds 2 ?_
  rw [rounds_succ]
  go_wp2
  rw [rounds_succ]
  go_wp2
  go_ret
  exact ⟨rfl, rfl⟩
theorem own_em (bk : List UInt8) (w : World) : Calls Tryz.prog 64 #[emv bk nilS] w fun e w' => e = .returned (emv bk nilS) ∧ Below w.heap.size w w' := by
  go_enter Tryz.func64, Tryz.ntmps64
  go_wp2_with fail
  refine (cut_nil _).mono ?_
  rintro e w1 ⟨rfl, hb⟩
  obtain ⟨hc, hf, hz⟩ := bcell hb
  have HN := hid ((hb.block (w.heap.size + 1) (by simp)).trans (new2_1 _ _ _))
  have hs3 : w1.setCell ⟨w.heap.size, 3, none⟩ nilS = w1 := setCell_self (by rw [hc _ _ (by simp; omega)]; go_simp)
  have hs4 : w1.setCell ⟨w.heap.size, 4, none⟩ nilS = w1 := setCell_self (by rw [hc _ _ (by simp; omega)]; go_simp)
  have hs5 : w1.setCell ⟨w.heap.size, 5, none⟩ nilS = w1 := setCell_self (by rw [hc _ _ (by simp; omega)]; go_simp)
  have hs6 : w1.setCell ⟨w.heap.size, 6, none⟩ nilS = w1 := setCell_self (by rw [hc _ _ (by simp; omega)]; go_simp)
  have hB := hid (bel2' hb)
  clear hb
  go_wp2_with fail
  refine (clone132 _).mono ?_
  rintro e w2 ⟨rfl, rfl⟩
  go_wp2
  refine wp_loop_once ?_
  go_wp2_with fail
  refine (clone133 _).mono ?_
  rintro e w2 ⟨rfl, rfl⟩
  go_wp2
  refine wp_loop_once ?_
  go_wp2
  have hB2 := hid (stL_below (by omega) [.int .i64 0, .int .i64 4, nmv bk, nilS, nilS, nilS, nilS] w1 w 0 hB.out : Below w.heap.size w (stL w1 (w.heap.size + 1) 0 _))
  have hW := stL_heap [.int .i64 0, .int .i64 4, nmv bk, nilS, nilS, nilS, nilS] w1 0 _ HN.out
  change bodyPost _ _ _ _ _ (stL w1 (w.heap.size + 1) 0 [.int .i64 0, .int .i64 4, nmv bk, nilS, nilS, nilS, nilS])
  obtain ⟨W, hWe⟩ : ∃ W, W = stL w1 (w.heap.size + 1) 0 [.int .i64 0, .int .i64 4, nmv bk, nilS, nilS, nilS, nilS] := ⟨_, rfl⟩
  rw [← hWe] at hB2 hW ⊢
  have hk := fun i => cell_of hW i
  exact bodyPost_ret (v := emv bk nilS) (by simp [results, Tryz.results64, go_sem, hk, wrL]) rfl ⟨rfl, hB2.out⟩
/-- what an image may stand upon here -/
def BkOk (bk : List UInt8) : Prop := bk = [] ∨ ∃ c : UInt8, bk = [c] ∧ 97 ≤ c.toNat ∧ c.toNat ≤ 122
theorem bx {w : World} {c : Array Value} {t : TypeId} {w' : World} (h : Below (w.alloc (.cells c t)).heap.size (w.alloc (.cells c t)) w') (i : Nat) : w'.cell? ⟨w.heap.size, i, none⟩ = c[i]? :=
  (h.cell (p := ⟨w.heap.size, i, none⟩) (by simp)).trans (cell_of (alloc_new w (.cells c t)) i)
theorem bxf {w : World} {c : Array Value} {t : TypeId} {w' : World} (h : Below (w.alloc (.cells c t)).heap.size (w.alloc (.cells c t)) w') (i : Nat) : w'.frozen? ⟨w.heap.size, i, none⟩ = false :=
  (h.frozen (p := ⟨w.heap.size, i, none⟩) (by simp)).trans (fz_of (alloc_new w (.cells c t)) i)
theorem size3 (w : World) : (sizeOf 3).run Tryz.prog w = .ok 1 w := by kernel_rfl
set_option maxRecDepth 100000 in
set_option maxHeartbeats 1000000 in
theorem right_em (bk : List UInt8) (hbk : BkOk bk) (cv : Value) (cs : List Int) (w : World) (hs : SlI w w.heap.size cv cs) (hl : cs.length ≤ 65536) (hr : ∀ n ∈ cs, 0 ≤ n ∧ n ≤ 65535) :
    Calls Tryz.prog 65 #[emv bk cv] w fun e w' => e = .returned (.bool true) ∧ Below w.heap.size w w' := by
  have hlen := fun ty => SlI.len (P := Tryz.prog) (ty := ty) hs Tryz.underlying93
  obtain ⟨oa, sn, sc, rfl⟩ : ∃ oa n c, cv = .slice oa n c := by obtain ⟨oa, c, rfl, _⟩ := hs; exact ⟨_, _, _, rfl⟩
  have hgt : decide ((65536 : Int) < cs.length) = false := by simp; omega
  have hB1 := hid (bel1 w (.cells #[.int .i64 0, .int .i64 4, nmv bk, nilS, nilS, nilS, .slice oa sn sc] 95))
  have hx := fun w' h i => bx (w := w) (c := #[.int .i64 0, .int .i64 4, nmv bk, nilS, nilS, nilS, .slice oa sn sc]) (t := 95) (w' := w') h i
  have HS := hid (And.intro hs hr)
  clear hs hr
  rcases hbk with rfl | ⟨c, rfl, h1, h2⟩
  rotate_left
  have HN := hid (name_one c h1 h2)
  clear h1 h2
  rotate_left
  all_goals
    go_enter Tryz.func65, Tryz.ntmps65
    go_wp2_with (first | (go_at_call 135; refine (size_0_4 _).mono ?_; rintro e w' ⟨rfl, rfl⟩) | (go_at_call 28; refine (HN.out _).mono ?_; rintro e w' ⟨rfl, rfl⟩))
    generalize w.alloc (.cells #[.int .i64 0, .int .i64 4, nmv _, nilS, nilS, nilS, .slice oa sn sc] 95) = w1 at *
    go_region_held (fun w' => Below w1.heap.size w1 w') (first | with_reducible exact (Below.refl _ _).drew | with_reducible assumption | with_reducible exact Below.drew (by assumption)) (first
      | (go_at_call 136; refine (tright_nil _ _ _ (by omega) (by omega) (by omega) (by omega)).mono ?_; rintro e w2 ⟨rfl, hb2⟩; have hb3 := belT (by assumption : Below w1.heap.size w1 _) hb2))
    have y := fun i => hx w2 hb3 i
    have hbel := hid (hB1.out.trans (hb3.mono hB1.out.size))
    have hs2 := HS.out.1.below hbel.out (Nat.le_refl _)
    have HS2 := hid hs2
    clear hx hB1 hb2 hb3 hs2
    go_wp2_with fail
    refine wp_loop_once ?_
    go_wp2_with fail
    refine wp_loop_once ?_
    go_wp2_with fail
    go_loop [137] (fun i => ∃ k : Nat, k ≤ cs.length ∧ i = .int .i64 k) (fun i => cs.length - (intOf i).toNat)
    case atStart => exact ⟨0, Nat.zero_le _, rfl⟩
    case round =>
      obtain ⟨k, hk, rfl⟩ := hrel
      by_cases hlt : k < cs.length
      · obtain ⟨b, o, hb, hidx, hcell⟩ := HS2.out.addr (P := Tryz.prog) Tryz.underlying93 size3 k hlt
        have hm : cs.getD k 0 ∈ cs := by rw [List.getD_eq_getElem?_getD, List.getElem?_eq_getElem hlt]; exact List.getElem_mem _
        have hv := HS.out.2 _ hm
        obtain ⟨v, hve⟩ : ∃ v, v = cs.getD k 0 := ⟨_, rfl⟩
        rw [← hve] at hcell hv
        have t1 : decide (v < 0) = false := by simpa using hv.1
        have t2 : decide ((65535 : Int) < v) = false := by simpa using hv.2
        clear hm hve hv hb
        go_wp2
        go_round
        case rel => exact ⟨k + 1, by omega, by go_num⟩
        case measure => simp [intOf]; omega
      · go_wp2_with (go_at_call 138; refine (unlike_nil _).mono ?_; rintro e w3 ⟨rfl, hb3⟩; have hbel := hid (belT hbel.out hb3); clear hb3)
        go_ret
        exact ⟨rfl, hbel.out⟩
end Go.Proofs.YtmcllcepoiakeaaGreat
namespace Go.Mx
open Go.RowKit
def le (n : Nat) (v : Nat) : List UInt8 := (List.range n).map fun i => UInt8.ofNat (v / 256 ^ i)
theorem le_succ (n v : Nat) : le (n + 1) v = le n v ++ [UInt8.ofNat (v / 256 ^ n)] := by simp [le, List.range_succ]
theorem le_length (n v : Nat) : (le n v).length = n := by simp [le]
theorem make_empty {P : Program} (w : World) {ops : Array Oper} {rest : List Oper} {o : Oper} {a : Act} {Q : Exit → Act → World → Prop} (hg : o.guard = none) (l c : Operand) (t e : TypeId)
    (hop : o.op = Op.makeSlice t l c) (ht : P.underlying t = some (.slice e)) (hi : (P.info? e).map (fun i => (i.zero, i.size, i.bytes)) = some (some (.int .u8 0), 1, 1))
    (base : Nat) (kl kc : IntKind) (C : Int) (n : Nat) (hl : a.eval l = .int kl 0) (hc : a.eval c = .int kc C) (hC : C = (n : Int)) (hn : n ≤ 140737488355328) (hB : base ≤ w.heap.size)
    (h : ∀ v w', OwnB w' base e v [] → Below w.heap.size w w' → v = .slice (some ⟨w.heap.size, 0, none⟩) 0 n → wpList P ops Q rest (a.put o.dst v) w') : wpList P ops Q (o :: rest) a w := by
  obtain ⟨i0, hi0, hz0, hz1, hz2⟩ := info_parts hi
  refine wpList_make_own w hg l c t hop base e i0 _ 1 ht hi0 hz0 hz1 kl kc C n hl hc hC (by rw [hz2]; omega) (by unfold maxLen; omega) hB ?_
  intro w' ho hgr
  exact h _ w' ho ⟨hgr.os, hgr.tape, hgr.output, hgr.size, fun k hk => hgr.block k hk (by simp)⟩ rfl
theorem append_str {P : Program} (w : World) {ops : Array Oper} {rest : List Oper} {o : Oper} {a : Act} {Q : Exit → Act → World → Prop} (hgd : o.guard = none) (s x : Operand) (t u e : TypeId)
    (ho : o.op = .call { callee := .builtin .append, args := #[s, x], argTypes := #[t, u] })
    (ht : P.underlying t = some (.slice e)) (hu : P.underlying u = some .string) (hi : (P.info? e).map (fun i => (i.zero, i.size, i.bytes)) = some (some (.int .u8 0), 1, 1))
    (base : Nat) (v : Value) (l : List UInt8) (hs : a.eval s = v) (hown : OwnB w base e v l) (bs : List UInt8) (hx : a.eval x = .string ⟨bs.toArray⟩)
    (hlen : l.length + bs.length ≤ 140737488355328) (hB : base ≤ w.heap.size)
    (h : ∀ v' w', OwnB w' base e v' (l ++ bs) → Below base w w' → wpList P ops Q rest (a.put o.dst v') w') : wpList P ops Q (o :: rest) a w := by
  obtain ⟨i0, hi0, hz0, hz1, hz2⟩ := info_parts hi
  have hz : (ByteArray.mk bs.toArray).size = bs.length := by simp [ByteArray.size]
  refine Lib.wpList_append_own_string w hgd s x t u ho base e i0 ht hu hi0 hz0 hz1 hz2 v l.length _ hs hown ⟨bs.toArray⟩ hx ?_ ?_ hB ?_
  · rw [hz]; unfold maxLen; omega
  · rw [hz]; omega
  · intro v' w' ho' hg' _
    refine h v' w' ?_ ((Below.refl base w).grown hg' hB (fun k hk => (World.ownsRow.lt hown k hk).1))
    unfold OwnB
    have e1 : Lib.strCells ⟨bs.toArray⟩ = bs.map u8 := by simp [Lib.strCells]
    rw [hz, e1] at ho'
    simpa using ho'
end Go.Mx
namespace Go.Proofs.YtmcllcepoiakeaaGreat
open Go.RowKit Go.Mx Go.Proofs.YtmcllcepoiakeaaGreat.Dx
theorem Tryz.info5 : (Tryz.prog.info? 5).map (fun i => (i.zero, i.size, i.bytes)) = some (some (.int .u8 0), 1, 1) := by kernel_rfl
theorem wr_u64 (v : Nat) (h : v < 18446744073709551616) : IntKind.u64.wrap (v : Int) = (v : Int) := by rw [IntKind.wrap_u64]; omega
theorem pow8 (k : Nat) : 256 ^ k = 2 ^ (8 * k) := by rw [Nat.pow_mul]
theorem shr_none (n v : Nat) (h : v < 256 ^ n) : (((v : Int) / 2 ^ (8 * n)) != 0) = false := by
  rw [bne_eq_false_iff_eq, show (2 : Int) ^ (8 * n) = ((2 ^ (8 * n) : Nat) : Int) by simp, ← Int.natCast_ediv, Nat.div_eq_of_lt (by rw [← pow8]; exact h)]; rfl
theorem byte_at (k v : Nat) : ((v : Int) / 2 ^ (8 * k)) % 256 = ((UInt8.ofNat (v / 256 ^ k)).toNat : Int) := by
  rw [show (2 : Int) ^ (8 * k) = ((2 ^ (8 * k) : Nat) : Int) by simp, ← Int.natCast_ediv, UInt8.toNat_ofNat', pow8]; simp
set_option maxRecDepth 100000 in
set_option maxHeartbeats 2000000 in
theorem put_any (bs : List UInt8) (bv : Value) (n v : Nat) (w : World) (hb : SlB w w.heap.size bv bs) (hlen : bs.length ≤ 1000000000) (h1 : 1 ≤ n) (h4 : n ≤ 4) (hv : v < 256 ^ n) :
    Calls Tryz.prog 225 #[bv, .int .i64 n, .bool false, .int .u64 v] w fun e w' => ∃ ov, e = .returned (.tuple #[ov, .int .i64 0]) ∧ OwnB w' w.heap.size 5 ov (bs ++ le n v) ∧ Below w.heap.size w w' := by
  have hlb := fun w' => hb.len (P := Tryz.prog) (ty := 3) Tryz.underlying26 w'
  have hsn := shr_none n v hv
  have hk4 : ∀ k, k < n → (v / 256 ^ k : Nat) ≤ v := fun k _ => Nat.div_le_self _ _
  go_enter Tryz.func225, Tryz.ntmps225
  go_wp2_with (refine make_empty _ rfl _ _ 26 5 rfl Tryz.underlying26 Tryz.info5 w.heap.size _ _ _ (bs.length + n) rfl rfl ?_ ?_ (Nat.le_refl _) ?_)
  · simp
  · omega
  intro v1 w1 ho1 hb1 hv1
  clear hv1
  have hs1 := hb.below hb1 (Nat.le_refl _)
  go_wp2_with (at_builtin; refine append_sl _ rfl _ _ 26 5 rfl Tryz.underlying26 Tryz.info5 w.heap.size _ [] rfl ho1 _ bs w.heap.size rfl hs1 ?_ ?_ ?_)
  · simp; omega
  · exact hb1.size
  intro v2 w2 ho2 hb2
  have hbel := hb1.trans hb2
  clear hs1 ho1 hb1 hb2
  go_wp2_with fail
  go_loopw [10, 38] (fun o i wr => ∃ k : Nat, k ≤ n ∧ i = .int .i64 k ∧ OwnB wr w.heap.size 5 o (bs ++ le k v) ∧ Below w.heap.size w wr) (fun _ i _ => n - (intOf i).toNat)
  case atStart => exact ⟨0, by omega, rfl, by simpa [le] using ho2, hbel⟩
  case round =>
    obtain ⟨k, hk, rfl, ho, hbl⟩ := hrel
    clear ho2 hbel
    by_cases hlt : k < n
    · have hby := byte_at k v
      have HS := hid (le_succ k v)
      obtain ⟨x, hx⟩ : ∃ x, x = UInt8.ofNat (v / 256 ^ k) := ⟨_, rfl⟩
      rw [← hx] at hby HS
      clear hx
      have hll : (bs ++ le k v).length = bs.length + k := by simp [le_length]
      obtain ⟨l, hl⟩ : ∃ l, l = bs ++ le k v := ⟨_, rfl⟩
      rw [← hl] at ho hll
      have HL := hid hl
      have HLL := hid hll
      clear hl hll
      go_wp2_with (at_builtin; refine append_byte _ rfl _ _ 26 5 rfl Tryz.underlying26 Tryz.info5 w.heap.size _ l x rfl (ho.alloc _) _ _ rfl ?_ ?_ ?_ ?_)
      · exact cell_alloc1 _ _ _
      · have := HLL.out; omega
      · have := hbl.size; simp; omega
      intro v3 w3 ho3 hb3
      have hbl3 := (hbl.alloc (hbl.size) _).trans hb3
      have ho4 : OwnB w3 w.heap.size 5 v3 (bs ++ le (k + 1) v) := by rw [HS.out, ← List.append_assoc, ← HL.out]; exact ho3
      clear ho3 hb3 ho hby
      go_wp2
      go_roundw
      case rel => exact ⟨k + 1, by omega, by go_num, ho4, hbl3⟩
      case measure => simp [intOf]; omega
    · obtain rfl : k = n := by omega
      go_wp2
      go_ret2
      exact ⟨_, rfl, ho, hbl⟩
theorem aadd (b o : Nat) (x y : Int) (w : World) (hc : w.cell? ⟨b, o, none⟩ = some (.int .i64 x)) (hz : w.frozen? ⟨b, o, none⟩ = false) (h1 : -9223372036854775808 ≤ x + y ∧ x + y ≤ 9223372036854775807) :
    Calls Tryz.prog 15 #[.pointer (some ⟨b, o, none⟩), .int .i64 y] w fun e w' => e = .returned (.int .i64 (x + y)) ∧ w' = w.setCell ⟨b, o, none⟩ (.int .i64 (x + y)) := by
  have hadd := run_call_add (P := Tryz.prog) Tryz.func27 (by kernel_rfl) (by kernel_rfl) (by kernel_rfl) .i64 (by kernel_rfl) (y := y) (s := x + y) hc hz (by simp [go_sem]; rw [IntWalk.i64_in _ (by omega)])
  go_enter Tryz.func15, Tryz.ntmps15
  go_wp2
  go_ret
  exact ⟨rfl, rfl⟩
theorem aload (b o : Nat) (x : Int) (w : World) (hc : w.cell? ⟨b, o, none⟩ = some (.int .i64 x)) :
    Calls Tryz.prog 238 #[.pointer (some ⟨b, o, none⟩)] w fun e w' => e = .returned (.int .i64 x) ∧ w' = w := by
  have hld := run_call_load (P := Tryz.prog) Tryz.func267 (by kernel_rfl) (by kernel_rfl) (by kernel_rfl) .i64 (by kernel_rfl) hc
  go_enter Tryz.func238, Tryz.ntmps238
  go_wp2
  go_ret
  exact ⟨rfl, rfl⟩
set_option maxRecDepth 100000 in
set_option maxHeartbeats 2000000 in
theorem text_any (bs : List UInt8) (bv : Value) (s : List UInt8) (w : World) (hb : SlB w w.heap.size bv bs) (hlen : bs.length ≤ 1000000000) (hs : s.length ≤ 65535) :
    Calls Tryz.prog 271 #[bv, .string ⟨s.toArray⟩] w fun e w' => ∃ ov, e = .returned (.tuple #[ov, .int .i64 0]) ∧ OwnB w' w.heap.size 5 ov (bs ++ (le 2 s.length ++ s)) ∧ Below w.heap.size w w' := by
  go_enter Tryz.func271, Tryz.ntmps271
  go_wp2_with fail
  refine (aadd _ _ 0 s.length _ (by go_simp) (by go_simp) (by omega)).mono ?_
  rintro e w1 ⟨rfl, rfl⟩
  go_wp2_with fail
  refine (aload _ _ s.length _ (by go_simp)).mono ?_
  rintro e w2 ⟨rfl, rfl⟩
  have hwu := wr_u64 s.length (by omega)
  have hb1 : Below w.heap.size w (w.alloc (.cells #[.int .i64 s.length] 51)) := (Below.refl _ _).alloc (Nat.le_refl _) _
  have HC := hid (put_any bs bv 2 s.length _ ((hb.below hb1 (Nat.le_refl _)).mono hb1.size) hlen (by omega) (by omega) (by omega))
  have HB1 := hid hb1
  clear hb1
  go_wp2_with (first | (go_at_call 238; refine (aload _ _ s.length _ (by go_simp)).mono ?_; rintro e w2 ⟨rfl, rfl⟩))
  refine HC.out.mono ?_
  rintro e w3 ⟨ov, rfl, ho3, hb3⟩
  have hb3' := HB1.out.trans (hb3.mono HB1.out.size)
  have ho3' := ho3.any_base (base' := w.heap.size) HB1.out.size
  have HB3 := hid hb3'
  clear hb3 hb3' ho3
  go_wp2_with (at_builtin; refine append_str _ rfl _ _ 26 9 5 rfl Tryz.underlying26 Tryz.underlying9 Tryz.info5 w.heap.size _ _ rfl ho3' s rfl ?_ ?_ ?_)
  · simp [le_length]; omega
  · exact HB3.out.size
  intro v4 w4 ho4 hb4
  go_wp2
  go_ret2
  exact ⟨_, rfl, ho4, HB3.out.trans hb4⟩
end Go.Proofs.YtmcllcepoiakeaaGreat
namespace Go.Mx
open Go.RowKit
theorem OwnB.kept' {w w' : World} {N : Nat → Prop} {base : Nat} {e : TypeId} {v : Value} {l : List UInt8} (h : OwnB w base e v l) (hk : Kept w w' N) {q : Nat} {c : Array Value} {t : TypeId} {f : Nat × Nat} (hq : w.heap[q]? = some (.cells c t f)) (ht : t ≠ e) (hN : ∀ k, k ≠ q → N k) : OwnB w' base e v l :=
  h.kept hk fun k e => hN k (by rintro rfl; exact h.not_block hq ht e)
end Go.Mx
namespace Go.Proofs.YtmcllcepoiakeaaGreat
open Go.RowKit Go.Mx Go.Proofs.YtmcllcepoiakeaaGreat.Dx
/-- a writer's text so far: n bytes -/
def WR (w : World) (base p n : Nat) : Prop := ∃ v bs, w.heap[p]? = some (.cells #[v] 364 (0, 0)) ∧ OwnB w base 5 v bs ∧ bs.length = n ∧ base ≤ p
theorem WR.below {w w' : World} {base p n : Nat} (h : WR w base p n) (hb : Below w.heap.size w w') : WR w' base p n := by
  obtain ⟨v, bs, h1, h2, h3, h4⟩ := h
  exact ⟨v, bs, (hb.block _ (blk_lt h1)).trans h1, h2.below hb h2.lt, h3, h4⟩
theorem WR.le {w : World} {base p n : Nat} (h : WR w base p n) : base ≤ w.heap.size := by
  obtain ⟨v, bs, h1, h2, h3, h4⟩ := h; have := blk_lt h1; omega
/-- what stands behind a store of the text that was appended to -/
theorem WR.put {w w2 : World} {base p : Nat} {v v' : Value} {bs l : List UInt8} (hp : w.heap[p]? = some (.cells #[v] 364 (0, 0))) (ho : OwnB w base 5 v bs) (hg : w.grownBy w2 v.ownBlock) (ho2 : OwnB w2 base 5 v' l) (hbp : base ≤ p) :
    WR (w2.setCell ⟨p, 0, none⟩ v') base p l.length := by
  have hp2 : w2.heap[p]? = some (.cells #[v] 364 (0, 0)) := (hg.block p (blk_lt hp) (fun e => ho.not_block hp (by decide) e.symm)).trans hp
  refine ⟨v', l, heap_setCell_at' w2 p 0 v' _ _ _ hp2, ?_, rfl, hbp⟩
  exact ho2.kept (Kept.set w2 p 0 v' fun hn => hn rfl : Kept w2 _ (fun k => k ≠ p)) fun k e => by rintro rfl; exact ho2.not_block hp2 (by decide) e
set_option maxRecDepth 100000 in
theorem wnum (p base n k v : Nat) (w : World) (h : WR w base p n) (hn : n ≤ 1000000) (hk1 : 1 ≤ k) (hk4 : k ≤ 4) (hv : v < 256 ^ k) (hv2 : v < 4294967296) :
    Calls Tryz.prog 247 #[.pointer (some ⟨p, 0, none⟩), .int .i64 k, .int .i64 v] w fun e w' => e = .returned (.tuple #[]) ∧ WR w' base p (n + k) ∧ Below base w w' := by
  have hwu := wr_u64 v (by omega)
  have HP := hid (put_any [] nilS k v w (SlB.nil _ _) (by simp) hk1 hk4 hv)
  have hle := h.le
  obtain ⟨wv, bs, h1, h2, h3, h4⟩ := h
  go_enter Tryz.func247, Tryz.ntmps247
  go_wp2_with fail
  refine HP.out.mono ?_
  rintro e w1 ⟨ov, rfl, ho, hb⟩
  have h1' := (hb.block _ (blk_lt h1)).trans h1
  have h2' := h2.below hb h2.lt
  have c0 := cell_of h1' 0
  have f0 := fz_of h1' 0
  have HH := hid (And.intro h1' (And.intro h2' (And.intro (hb.mono hle) (Nat.le_trans hle hb.size))))
  have HO := hid ho
  clear h1 h2 hb h1' ho hle
  go_wp2_with (at_builtin; refine append_slg _ rfl _ _ 26 5 rfl Tryz.underlying26 Tryz.info5 base _ bs rfl h2' _ ([] ++ le k v) _ rfl HO.out.slB ?_ ?_ ?_)
  · simp [le_length]; omega
  · have := HH.out.2.2.2; omega
  intro v' w2 ho2 hg2
  have hwr := WR.put HH.out.1 HH.out.2.1 hg2 ho2 h4
  have he : (bs ++ Mx.le k v).length = n + k := by simp [le_length, h3]
  rw [he] at hwr
  clear he
  have hp2 : w2.heap[p]? = some (.cells #[wv] 364 (0, 0)) := (hg2.block p (blk_lt HH.out.1) (fun e => HH.out.2.1.not_block HH.out.1 (by decide) e.symm)).trans HH.out.1
  have hb2 : Below base w w2 := HH.out.2.2.1.trans ((Below.refl base w1).grown hg2 (by have := HH.out.2.2.2; omega) fun k hk => (World.ownsRow.lt HH.out.2.1 k hk).1)
  have d0 := cell_of hp2 0
  have g0 := fz_of hp2 0
  have HW := hid (And.intro hwr (hb2.setCell (p := ⟨p, 0, none⟩) h4 v'))
  obtain ⟨oa, sn, sc, rfl⟩ := slB_shape ho2.slB
  clear hwr hp2 hb2 ho2 hg2 c0 f0 h2'
  go_wp2
  go_end0
  exact ⟨rfl, HW.out.1, HW.out.2⟩
set_option maxRecDepth 100000 in
theorem wtext (p base n : Nat) (s : List UInt8) (w : World) (h : WR w base p n) (hn : n ≤ 1000000) (hs : s.length ≤ 16) :
    Calls Tryz.prog 248 #[.pointer (some ⟨p, 0, none⟩), nmv s] w fun e w' => e = .returned (.tuple #[]) ∧ WR w' base p (n + (2 + s.length)) ∧ Below base w w' := by
  have HP := hid (text_any [] nilS s w (SlB.nil _ _) (by simp) (by omega))
  have hle := h.le
  obtain ⟨wv, bs, h1, h2, h3, h4⟩ := h
  go_enter Tryz.func248, Tryz.ntmps248
  go_wp2_with fail
  refine HP.out.mono ?_
  rintro e w1 ⟨ov, rfl, ho, hb⟩
  have h1' := (hb.block _ (blk_lt h1)).trans h1
  have h2' := h2.below hb h2.lt
  have c0 := cell_of h1' 0
  have f0 := fz_of h1' 0
  have HH := hid (And.intro h1' (And.intro h2' (And.intro (hb.mono hle) (Nat.le_trans hle hb.size))))
  have HO := hid ho
  clear h1 h2 hb h1' ho hle
  go_wp2_with (at_builtin; refine append_slg _ rfl _ _ 26 5 rfl Tryz.underlying26 Tryz.info5 base _ bs rfl h2' _ ([] ++ (Mx.le 2 s.length ++ s)) _ rfl HO.out.slB ?_ ?_ ?_)
  · simp [le_length]; omega
  · have := HH.out.2.2.2; omega
  intro v' w2 ho2 hg2
  have hwr := WR.put HH.out.1 HH.out.2.1 hg2 ho2 h4
  have he : (bs ++ (Mx.le 2 s.length ++ s)).length = n + (2 + s.length) := by simp [le_length, h3]
  rw [he] at hwr
  clear he
  have hp2 : w2.heap[p]? = some (.cells #[wv] 364 (0, 0)) := (hg2.block p (blk_lt HH.out.1) (fun e => HH.out.2.1.not_block HH.out.1 (by decide) e.symm)).trans HH.out.1
  have hb2 : Below base w w2 := HH.out.2.2.1.trans ((Below.refl base w1).grown hg2 (by have := HH.out.2.2.2; omega) fun k hk => (World.ownsRow.lt HH.out.2.1 k hk).1)
  have d0 := cell_of hp2 0
  have g0 := fz_of hp2 0
  have HW := hid (And.intro hwr (hb2.setCell (p := ⟨p, 0, none⟩) h4 v'))
  obtain ⟨oa, sn, sc, rfl⟩ := slB_shape ho2.slB
  clear hwr hp2 hb2 ho2 hg2 c0 f0 h2'
  go_wp2
  go_end0
  exact ⟨rfl, HW.out.1, HW.out.2⟩
set_option maxRecDepth 100000 in
theorem tput_nil (w : World) : Calls Tryz.prog 272 #[.agg #[nilS], .int .i64 0] w fun e w' => ∃ ov bs, e = .returned (.tuple #[ov, .int .i64 0]) ∧ OwnB w' w.heap.size 5 ov bs ∧ bs.length = 2 ∧ Below w.heap.size w w' := by
  have hwu := wr_u64 0 (by omega)
  go_enter Tryz.func272, Tryz.ntmps272
  go_wp2_with fail
  refine (tright_nil _ _ _ (by omega) (by omega) (by omega) (by omega)).mono ?_
  rintro e w1 ⟨rfl, hb⟩
  have c0 := fun o => hb.cell (p := ⟨w.heap.size, o, none⟩) (by simp)
  have HB := hid (bel1' hb)
  clear hb
  go_wp2_with fail
  refine wp_loop_once ?_
  go_wp2_with fail
  refine (put_any [] nilS 2 0 w1 (SlB.nil _ _) (by simp) (by omega) (by omega) (by omega)).mono ?_
  rintro e w2 ⟨ov, rfl, ho, hb2⟩
  have HO := hid (And.intro ho (And.intro (belT HB.out hb2) HB.out.size))
  clear hb2
  go_wp2_with (at_builtin; refine append_sl _ rfl _ _ 26 5 rfl Tryz.underlying26 Tryz.info5 w.heap.size _ ([] ++ Mx.le 2 0) rfl (ho.any_base HO.out.2.2) _ [] w2.heap.size rfl (SlB.nil _ _) ?_ ?_ ?_)
  · simp [le_length]
  · exact HO.out.2.1.size
  intro v3 w3 ho3 hb3
  clear ho c0
  have HZ := hid (And.intro ho3 hb3)
  clear ho3 hb3
  go_wp2
  go_ret2
  exact ⟨_, _, rfl, HZ.out.1, by simp [le_length], HO.out.2.1.trans HZ.out.2⟩
end Go.Proofs.YtmcllcepoiakeaaGreat
