import Derived.Test.YtmcllcepoiakeaaGreatCA
import Derived.Test.YtmcllcepoiakeaaGreatCH
import Derived.Deep.MidRow
import Derived.Deep.Cut
import Derived.Deep.CutRange
import Derived.Deep.DeepCutAuto
import Derived.Lib.AppendZerosOnto
set_option linter.unusedSimpArgs false
set_option linter.unusedVariables false
namespace Go.Proofs.YtmcllcepoiakeaaGreat
open Go.RowKit Go.Mx Go.Proofs.YtmcllcepoiakeaaGreat.Dx
/-- a slot -/
abbrev slotV (seq st cnt sum : Nat) : Value := .agg #[.int .i64 seq, .int .i64 st, .int .i64 cnt, .int .u32 sum]
theorem may_any (seq st cnt sum : Nat) (w : World) (h1 : 1 ≤ seq) (h2 : seq ≤ 2147483648) (h3 : 2 ≤ st) (h4 : st ≤ 65536) (h5 : 1 ≤ cnt) (h6 : cnt ≤ 1048576) :
    Calls Tryz.prog 209 #[slotV seq st cnt sum] w fun e w' => e = .returned (.bool true) ∧ Below w.heap.size w w' := by
  have t1 : decide ((1 : Int) ≤ seq) = true := by simp; omega
  have t2 : decide ((seq : Int) ≤ 2147483648) = true := by simp; omega
  have t3 : decide ((2 : Int) ≤ st) = true := by simp; omega
  have t4 : decide ((st : Int) ≤ 65536) = true := by simp; omega
  have t5 : decide ((1 : Int) ≤ cnt) = true := by simp; omega
  have t6 : decide ((cnt : Int) ≤ 1048576) = true := by simp; omega
  clear h1 h2 h3 h4 h5 h6
  go_enter Tryz.func209, Tryz.ntmps209
  go_wp2
  go_ret
  exact ⟨rfl, bel1 _ _⟩
theorem ret_i {k : IntKind} {a b : Int} (h : a = b) : Ending.returned (.int k a) = .returned (.int k b) := by rw [h]
theorem sectors_any (n : Nat) (hn : n ≤ 1000000000) (w : World) : Calls Tryz.prog 122 #[.int .i64 n] w fun e w' => e = .returned (.int .i64 ((n + 15) / 16 : Nat)) ∧ w = w' := by
  have h0 : (0 : Int) ≤ n := by omega
  have h1 : (n : Int) ≤ 1000000000 := by omega
  have HE := hid (show ((n : Int) + 16 - 1) / 16 = (((n + 15) / 16 : Nat) : Int) by omega)
  go_enter Tryz.func122, Tryz.ntmps122
  go_wp2
  go_ret
  exact ⟨ret_i HE.out, rfl⟩
def z16 : Array Value := #[.int .u8 0, .int .u8 0, .int .u8 0, .int .u8 0, .int .u8 0, .int .u8 0, .int .u8 0, .int .u8 0, .int .u8 0, .int .u8 0, .int .u8 0, .int .u8 0, .int .u8 0, .int .u8 0, .int .u8 0, .int .u8 0]
theorem range_of {w : World} {b : Nat} {l : List Value} {t : TypeId} {fr : Nat × Nat} (h : w.heap[b]? = some (.cells l.toArray t fr)) : w.rangeAt b 0 l := fun j u hu => by rw [Nat.zero_add, cell_of h]; simpa using hu
theorem there_of {w : World} {b n : Nat} {c : Array Value} {t : TypeId} (h : w.heap[b]? = some (.cells c t (0, 0))) (hn : n ≤ c.size) : w.there b 0 n := fun j hj => by
  rw [Nat.zero_add]; exact ⟨by rw [cell_of h, Array.getElem?_eq_getElem (by omega)]; rfl, fz_of h j⟩
theorem setCells_whole {w : World} {b : Nat} {c : Array Value} {t : TypeId} {fr : Nat × Nat} {l : List Value} (h : w.heap[b]? = some (.cells c t fr)) (hl : l.length = c.size) : (w.setCells b 0 l).heap[b]? = some (.cells l.toArray t fr) := by
  obtain ⟨cur, h1, h2⟩ := heap_setCells_at l w b 0 c t fr h (by omega)
  rw [h1]
  have : cur.toList = l := by rw [h2, List.drop_of_length_le (by rw [Array.length_toList]; omega)]; simp
  rw [← this]
/-- 'copy(s[:], b)' into a sector that was just made -/
theorem copy16 (w : World) (t : TypeId) (xv : Value) (s : List UInt8) (B : Nat) (hs : SlB w B xv s) (hB : B ≤ w.heap.size) (h16 : s.length = 16) :
    ∃ w5, (Builtin.copy_ #[26, 26] 3 #[.slice (some ⟨w.heap.size, 0, none⟩) 16 16, xv]).run Tryz.prog (w.alloc (.cells z16 t)) = .ok (.int .i64 16) w5 ∧ w5.heap[w.heap.size]? = some (.cells (srow s).toArray t (0, 0)) ∧ Below w.heap.size w w5 := by
  have hal := bel1 w (.cells z16 t)
  have hq0 := alloc_new w (.cells z16 t)
  obtain ⟨oa, cap, rfl, hc1, hc2, hrd⟩ := (hs.below hal hB).mono (B' := (w.alloc (.cells z16 t)).heap.size) (by simp; omega)
  obtain ⟨bb, bo, rfl, hlb, hr⟩ := hrd (by rintro rfl; simp at h16)
  have hs16 : (srow s).length = 16 := by rw [srow_len]; exact h16
  have hsrc : ∀ j v, (srow s)[j]? = some v → (w.alloc (.cells z16 t)).cell? ((⟨bb, bo, none⟩ : Addr).add j) = some v := by
    intro j v hj
    have hj16 : j < s.length := by have := (List.getElem?_eq_some_iff.1 hj).1; rw [srow_len] at this; exact this
    rw [Addr.add_mid, hr j hj16]
    unfold srow at hj
    rw [List.getElem?_map, List.getElem?_eq_getElem hj16] at hj
    rw [List.getD_eq_getElem?_getD, List.getElem?_eq_getElem hj16]
    exact hj
  have hr := run_copy_row (P := Tryz.prog) (w.alloc (.cells z16 t)) 26 26 3 5 w.heap.size 0 16 16 ⟨bb, bo, none⟩ s.length cap z16 t (srow s) Tryz.underlying26 (by kernel_rfl) hq0 (by rw [hs16, h16]; rfl) hsrc (by rw [hs16]; decide) (srow_one _)
  rw [hs16] at hr
  have e1 : z16.toList.take 0 ++ srow s ++ z16.toList.drop (0 + 16) = srow s := by
    rw [show z16.toList.take 0 = [] from rfl, show z16.toList.drop (0 + 16) = [] from rfl]; simp
  rw [e1] at hr
  exact ⟨_, hr, setRow_heap _ _ _ _ _ _ hq0, below_setRow hal (Nat.le_refl _) _⟩
set_option maxRecDepth 100000 in
set_option maxHeartbeats 2000000 in
theorem laid_any (seq st cnt sum : Nat) (w : World) (h1 : seq < 4294967296) (h2 : st < 4294967296) (h3 : cnt < 4294967296) (h4 : sum < 4294967296) :
    Calls Tryz.prog 210 #[slotV seq st cnt sum] w fun e w' => ∃ s : List UInt8, s.length = 16 ∧ e = .returned (.agg (srow s).toArray) ∧ Below w.heap.size w w' := by
  have a1 := wr_u64 seq (by omega)
  have a2 := wr_u64 st (by omega)
  have a3 := wr_u64 cnt (by omega)
  have a4 := wr_u64 sum (by omega)
  have a5 : IntKind.i64.wrap (sum : Int) = (sum : Int) := IntWalk.i64_in _ (by omega)
  have hq := alloc_new ((w.alloc (.cells #[.int .i64 seq, .int .i64 st, .int .i64 cnt, .int .u32 sum] 124)).alloc (.cells z16 322)) (.cells #[.int .i64 seq, .int .i64 st, .int .i64 cnt, .int .i64 sum] 3)
  have hr : (((w.alloc (.cells #[.int .i64 seq, .int .i64 st, .int .i64 cnt, .int .u32 sum] 124)).alloc (.cells z16 322)).alloc (.cells #[.int .i64 seq, .int .i64 st, .int .i64 cnt, .int .i64 sum] 3)).heap[w.heap.size + 1]? = some (.cells z16 322 (0, 0)) := (alloc_old (by simp)).trans (new2_1 _ _ _)
  have hb := bel3 w (.cells #[.int .i64 seq, .int .i64 st, .int .i64 cnt, .int .u32 sum] 124) (.cells z16 322) (.cells #[.int .i64 seq, .int .i64 st, .int .i64 cnt, .int .i64 sum] 3)
  have hz : (((w.alloc (.cells #[.int .i64 seq, .int .i64 st, .int .i64 cnt, .int .u32 sum] 124)).alloc (.cells z16 322)).alloc (.cells #[.int .i64 seq, .int .i64 st, .int .i64 cnt, .int .i64 sum] 3)).heap.size = w.heap.size + 1 + 1 + 1 := by simp
  rw [World.size_alloc, World.size_alloc] at hq
  have HQ := hid (And.intro hq (And.intro hr (And.intro hb hz)))
  clear hq hr hb hz
  go_enter Tryz.func210, Tryz.ntmps210
  go_wp2_with fail
  have hy0 := fun i => cell_of HQ.out.1 i
  simp only [z16] at HQ hy0
  generalize (((w.alloc (.cells #[.int .i64 seq, .int .i64 st, .int .i64 cnt, .int .u32 sum] 124)).alloc (.cells #[.int .u8 0, .int .u8 0, .int .u8 0, .int .u8 0, .int .u8 0, .int .u8 0, .int .u8 0, .int .u8 0, .int .u8 0, .int .u8 0, .int .u8 0, .int .u8 0, .int .u8 0, .int .u8 0, .int .u8 0, .int .u8 0] 322)).alloc (.cells #[.int .i64 seq, .int .i64 st, .int .i64 cnt, .int .i64 sum] 3)) = w0 at *
  have HO : Hid (SlB w0 w0.heap.size nilS []) := hid (SlB.nil _ _)
  refine wp_loop_rounds 5 ?_
  rw [rounds_succ]
  go_wp2_with fail
  refine (put_any [] nilS 4 seq _ HO.out (by simp [le_length]) (by omega) (by omega) (by omega)).mono ?_
  rintro e w1 ⟨v1, rfl, o1, b1⟩
  have hy1 := fun i => (b1.cell (p := ⟨w.heap.size + 1 + 1, i, none⟩) (blk_lt HQ.out.1)).trans (hy0 i)
  have HB := hid (And.intro ((b1.block _ (blk_lt HQ.out.1)).trans HQ.out.1) b1)
  have HO := hid o1.slB
  clear b1 hy0 o1
  go_wp2_with fail
  rw [rounds_succ]
  go_wp2_with fail
  refine (put_any ([] ++ Mx.le 4 seq) v1 4 st _ HO.out (by simp [le_length]) (by omega) (by omega) (by omega)).mono ?_
  rintro e w2 ⟨v2, rfl, o2, b2⟩
  have hy2 := fun i => (b2.cell (p := ⟨w.heap.size + 1 + 1, i, none⟩) (blk_lt HB.out.1)).trans (hy1 i)
  have HB := hid (And.intro ((b2.block _ (blk_lt HB.out.1)).trans HB.out.1) (belT HB.out.2 b2))
  have HO := hid o2.slB
  clear b2 hy1 o2
  go_wp2_with fail
  rw [rounds_succ]
  go_wp2_with fail
  refine (put_any (([] ++ Mx.le 4 seq) ++ Mx.le 4 st) v2 4 cnt _ HO.out (by simp [le_length]) (by omega) (by omega) (by omega)).mono ?_
  rintro e w3 ⟨v3, rfl, o3, b3⟩
  have hy3 := fun i => (b3.cell (p := ⟨w.heap.size + 1 + 1, i, none⟩) (blk_lt HB.out.1)).trans (hy2 i)
  have HB := hid (And.intro ((b3.block _ (blk_lt HB.out.1)).trans HB.out.1) (belT HB.out.2 b3))
  have HO := hid o3.slB
  clear b3 hy2 o3
  go_wp2_with fail
  rw [rounds_succ]
  go_wp2_with fail
  refine (put_any ((([] ++ Mx.le 4 seq) ++ Mx.le 4 st) ++ Mx.le 4 cnt) v3 4 sum _ HO.out (by simp [le_length]) (by omega) (by omega) (by omega)).mono ?_
  rintro e w4 ⟨v4, rfl, o4, b4⟩
  have hy4 := fun i => (b4.cell (p := ⟨w.heap.size + 1 + 1, i, none⟩) (blk_lt HB.out.1)).trans (hy3 i)
  have HB := hid (And.intro ((b4.block _ (blk_lt HB.out.1)).trans HB.out.1) (belT HB.out.2 b4))
  have HO := hid o4.slB
  clear b4 hy3 o4
  obtain ⟨s, hs⟩ : ∃ s, s = [] ++ Mx.le 4 seq ++ Mx.le 4 st ++ Mx.le 4 cnt ++ Mx.le 4 sum := ⟨_, rfl⟩
  rw [← hs] at HO
  have hs16 : s.length = 16 := by rw [hs]; simp [le_length]
  obtain ⟨w5, hcp, hg5, hb5⟩ := copy16 w4 322 v4 s _ HO.out (Nat.le_refl _) hs16
  have HC := hid (And.intro hg5 hb5)
  simp only [z16] at hcp
  clear hs hg5 hb5
  go_wp2_with fail
  rw [rounds_succ]
  obtain ⟨X, hX⟩ : ∃ X, X = srow s := ⟨_, rfl⟩
  rw [← hX] at HC
  have hx16 : X.length = 16 := by rw [hX, srow_len]; exact hs16
  have hrg := range_of HC.out.1
  have hsz : (Tryz.prog.info? 322).map (·.size) = some X.length := by rw [hx16]; kernel_rfl
  have hr4 : w5.heap[w.heap.size + 1]? = some (.cells z16 322 (0, 0)) := (HC.out.2.block _ (Nat.lt_of_lt_of_le (blk_lt HQ.out.2.1) HB.out.2.size)).trans ((HB.out.2.block _ (blk_lt HQ.out.2.1)).trans HQ.out.2.1)
  have hth := there_of (n := X.toArray.size) hr4 (by simp [hx16, z16])
  have hszA : (Tryz.prog.info? 322).map (·.size) = some X.toArray.size := by rw [hsz]; simp
  have hone : X.toArray.all (·.oneCell') = true := all_oneCell_toArray (by rw [hX]; exact srow_one s)
  have HX := hid (And.intro hX (And.intro hr4 hx16))
  clear hX hr4
  go_wp2_with (first
    | (refine wpList_load_mid rfl 322 _ rfl w4.heap.size 0 rfl X _ hrg Tryz.underlying322 rfl hsz ?_)
    | (refine wpList_store_mid rfl 322 _ _ rfl (w.heap.size + 1) 0 X.toArray rfl rfl hth hszA hone ?_))
  have hW := setCells_whole HX.out.2.1 (l := X) (by rw [hx16]; rfl)
  have hb5 : Below w.heap.size w w5 := HQ.out.2.2.1.trans ((belT HB.out.2 HC.out.2).mono (by have := HQ.out.2.2.2; omega))
  have HBW := hid (And.intro (Mx.Below.setCells X hb5 (o := 0) (by omega : w.heap.size ≤ w.heap.size + 1)) HX.out.1)
  generalize w5.setCells (w.heap.size + 1) 0 X = W at *
  clear hrg hth hszA hone hsz hcp hb5
  obtain ⟨x0, x1, x2, x3, x4, x5, x6, x7, x8, x9, x10, x11, x12, x13, x14, x15, rfl⟩ := list16 X hx16
  have hk := fun i => cell_of hW i
  exact bodyPost_ret (v := .agg #[x0, x1, x2, x3, x4, x5, x6, x7, x8, x9, x10, x11, x12, x13, x14, x15]) (by simp [results, Tryz.results210, go_sem, hk, Act.put]) rfl ⟨s, hs16, by rw [← HBW.out.2], HBW.out.1⟩
set_option maxRecDepth 100000 in
set_option maxHeartbeats 1000000 in
theorem slotput_any (seq st cnt sum : Nat) (w : World) (h1 : 1 ≤ seq) (h2 : seq ≤ 2147483648) (h3 : 2 ≤ st) (h4 : st ≤ 65536) (h5 : 1 ≤ cnt) (h6 : cnt ≤ 1048576) (h7 : sum < 4294967296) :
    Calls Tryz.prog 125 #[slotV seq st cnt sum] w fun e w' => ∃ g s, s.length = 16 ∧ e = .returned (.tuple #[.slice (some ⟨g, 0, none⟩) 16 16, .int .i64 0]) ∧ w.heap.size ≤ g ∧ w'.heap[g]? = some (.cells (srow s).toArray 322 (0, 0)) ∧ Below w.heap.size w w' := by
  have HM := hid (may_any seq st cnt sum (w.alloc (.cells #[.int .i64 seq, .int .i64 st, .int .i64 cnt, .int .u32 sum] 124)) h1 h2 h3 h4 h5 h6)
  have HL := hid (fun w1 => laid_any seq st cnt sum w1 (by omega) (by omega) (by omega) h7)
  clear h1 h2 h3 h4 h5 h6 h7
  have hx := fun w' h i => bx (w := w) (c := #[.int .i64 seq, .int .i64 st, .int .i64 cnt, .int .u32 sum]) (t := 124) (w' := w') h i
  have HX := hid hx
  clear hx
  go_enter Tryz.func125, Tryz.ntmps125
  go_wp2_with fail
  refine HM.out.mono ?_
  rintro e w1 ⟨rfl, hb1⟩
  have y1 := fun i => HX.out w1 hb1 i
  have HB := hid hb1
  clear hb1
  go_wp2_with fail
  refine (HL.out _).mono ?_
  rintro e w2 ⟨s, hs16, rfl, hb2⟩
  have HB2 := hid (belT HB.out hb2)
  clear hb2 y1
  have hx16 : (srow s).length = 16 := by rw [srow_len]; exact hs16
  have hone := srow_one s
  obtain ⟨X, hX⟩ : ∃ X, X = srow s := ⟨_, rfl⟩
  rw [← hX] at hx16 hone
  rw [← hX]
  have HXX := hid hX
  have hsz : (Tryz.prog.info? 322).map (·.size) = some X.length := by rw [hx16]; kernel_rfl
  have hsZ : X.length = z16.size := by rw [hx16]; rfl
  clear hX
  go_wp2_with (refine wpList_store_new w2 rfl 322 _ _ rfl z16 322 X rfl rfl hsZ hsz hone ?_)
  go_ret2
  refine ⟨w2.heap.size, s, hs16, rfl, ?_, ?_, ?_⟩
  · have := HB2.out.size; simp at this; omega
  · rw [← HXX.out]; exact alloc_new w2 _
  · exact belT (bel1' HB2.out) (bel1 w2 _)
open Go.RowKit Go.Mx Go.Proofs.YtmcllcepoiakeaaGreat.Dx Go.Cnt Go.Proofs.YtmcllcepoiakeaaGreat.Cx
/-- what stands upon sectors of a file without entries -/
def c2 (n : Nat) : List Int := (List.range n).map fun (i : Nat) => if i < 2 then 1 else 0
theorem c2_len (n : Nat) : (c2 n).length = n := by simp [c2]
theorem c2_mem {n : Nat} {x : Int} (h : x ∈ c2 n) : 0 ≤ x ∧ x ≤ 65535 := by
  unfold c2 at h; obtain ⟨i, _, rfl⟩ := List.mem_map.1 h; split <;> omega
theorem of_em (bk : List UInt8) (cv : Value) (n : Nat) (hn : n ≤ 65536) (w : World) :
    Calls Tryz.prog 62 #[emv bk cv, .int .i64 n] w fun e w' => ∃ v, e = .returned v ∧ OwnI w' w.heap.size v (c2 n) ∧ Below w.heap.size w w' := by
  have h := of_any (.int .i64 0) (.int .i64 4) (nmv bk) nilS nilS nilS cv [] [] n w ⟨[], rfl, SlG.nil _ _ _, fun i hi => absurd hi (by simp)⟩ ⟨[], rfl, SlG.nil _ _ _, fun i hi => absurd hi (by simp)⟩ (by simp) (by simp) (by simp) (by intro i hi; exact absurd hi (by simp [eachM, eachTo, linesT, linesTo]))
  have e : ofM (eachM [] []) (n : Int) = c2 n := by
    unfold ofM; rw [if_neg (by omega)]
    unfold c2
    rw [show ((n : Int)).toNat = n by omega]
    apply List.map_congr_left
    intro i _
    simp [cnt, cntK, eachM, eachTo, linesT, linesTo]
  rw [e] at h
  exact h
/-- a saver -/
abbrev svc (bk : List UInt8) (uv : Value) : Array Value := #[.int .i64 0, .int .i64 4, nmv bk, nilS, nilS, nilS, nilS, .int .i64 0, uv]
def u2 : List Int := (List.range 65536).map fun (i : Nat) => if i < 2 then 2 else 0
theorem u2_len : u2.length = 65536 := by simp [u2]
theorem u2_at (i : Nat) (hi : i < 65536) : u2.getD i 0 = if i < 2 then 2 else 0 := by
  unfold u2; rw [List.getD_eq_getElem?_getD, List.getElem?_map, List.getElem?_range hi]; rfl
set_option maxRecDepth 100000 in
theorem sfree_any (sp : Nat) (bk : List UInt8) (oa : Option Addr) (un uc : Nat) (w : World) (h : w.heap[sp]? = some (.cells (svc bk (.slice oa un uc)) 226 (0, 0))) (hu : SlI w w.heap.size (.slice oa un uc) u2) :
    Calls Tryz.prog 205 #[.pointer (some ⟨sp, 0, none⟩), .int .i64 2] w fun e w' => e = .returned (.int .i64 65534) ∧ w = w' := by
  have hy := fun i => cell_of h i
  have hlen := fun w' => SlI.len (P := Tryz.prog) (ty := 3) hu Tryz.underlying93 w'
  rw [u2_len] at hlen
  have HU := hid hu
  clear hu h
  go_enter Tryz.func205, Tryz.ntmps205
  go_wp2_with fail
  go_loop [5] (fun s5 => ∃ k : Nat, k ≤ 65534 ∧ s5 = .int .i64 k) (fun s5 => 65534 - (intOf s5).toNat)
  case atStart => exact ⟨0, by omega, rfl⟩
  case round =>
    obtain ⟨k, hk, rfl⟩ := hrel
    by_cases hlt : k < 65534
    · obtain ⟨b, o, hb, hi, hc⟩ := HU.out.addr (P := Tryz.prog) Tryz.underlying93 size3 (2 + k) (by rw [u2_len]; omega)
      rw [u2_at _ (by omega), if_neg (by omega), show ((2 + k : Nat) : Int) = 2 + (k : Int) by omega] at *
      have t1 : decide ((2 : Int) + k < 65536) = true := by simp; omega
      have t2 : decide ((65536 : Int) ≤ 2 + k) = false := by simp; omega
      clear hb
      go_wp2
      go_round
      case rel => exact ⟨k + 1, by omega, by go_num⟩
      case measure => simp [intOf]; omega
    · obtain rfl : k = 65534 := by omega
      go_wp2
      go_ret
      exact ⟨rfl, rfl⟩
open Go.RowKit Go.Mx Go.Proofs.YtmcllcepoiakeaaGreat.Dx Go.Cnt Go.Proofs.YtmcllcepoiakeaaGreat.Cx
theorem slG_sh {w : World} {B s : Nat} {v : Value} {l : List (List Value)} (h : SlG w B s v l) : ∃ a n c, v = .slice a n c := by obtain ⟨a, c, rfl, _⟩ := h; exact ⟨_, _, _, rfl⟩
theorem ownI_set {w : World} {base q i : Nat} {v u : Value} {l : List Int} (h : OwnI w base v l) (hq : q < base) : OwnI (w.setCell ⟨q, i, none⟩ u) base v l := ownsRow_setCell_below h (a := ⟨q, i, none⟩) hq u
theorem cnt3 : cntR (c2 3) ((c2 3).length + 1) 0 = 2 := by decide
theorem cnt4 : cntR (c2 4) ((c2 4).length + 1) 0 = 2 := by decide
/-- behind the counts of a meta that is to be laid -/
def AtP (wr : World) (bk : List UInt8) (j : Nat) (v : Value) (wx : World) : Prop :=
  wx.heap[wr.heap.size]? = some (.cells #[.int .i64 0, .int .i64 4, nmv bk, nilS, nilS, nilS, v] 95 (0, 0)) ∧ SlI wx wx.heap.size v (c2 j) ∧ Below wr.heap.size wr wx
set_option maxRecDepth 100000 in
set_option maxHeartbeats 2000000 in
theorem sat_any (sp : Nat) (bk : List UInt8) (hbk : BkOk bk) (uv : Value) (w : World) (h : w.heap[sp]? = some (.cells (svc bk uv) 226 (0, 0))) :
    Calls Tryz.prog 206 #[.pointer (some ⟨sp, 0, none⟩), .int .i64 2] w fun e w' => ∃ ov bs, e = .returned (.tuple #[ov, .int .i64 2, .int .i64 0]) ∧ OwnB w' w.heap.size 5 ov bs ∧ bs.length = 21 + bk.length ∧ Below w.heap.size w w' := by
  have hbl : bk.length ≤ 1 := by rcases hbk with rfl | ⟨c, rfl, _⟩ <;> simp
  have H := hid (And.intro h hbk)
  have hlt := blk_lt h
  clear h hbk
  go_enter Tryz.func206, Tryz.ntmps206
  go_wp2_with fail
  go_loopw [7] (fun s7 wr => ∃ n : Nat, (n = 1 ∨ n = 2) ∧ s7 = .int .i64 n ∧ Below w.heap.size w wr) (fun s7 _ => 2 - (intOf s7).toNat)
  case atStart => exact ⟨1, .inl rfl, rfl, Below.refl _ _⟩
  case round =>
    obtain ⟨n, hn, rfl, hb⟩ := hrel
    have y := fun i => cell_of ((hb.block sp hlt).trans H.out.1) i
    have hlr : sp < wr.heap.size := by have := hb.size; omega
    have hM := fun w' h i => bx (w := wr) (c := #[.int .i64 0, .int .i64 4, nmv bk, nilS, nilS, nilS, nilS]) (t := 95) (w' := w') h i
    have hF := fun w' h i => bxf (w := wr) (c := #[.int .i64 0, .int .i64 4, nmv bk, nilS, nilS, nilS, nilS]) (t := 95) (w' := w') h i
    have HM := hid (And.intro hM hF)
    have HB := hid hb
    clear hM hF hb
    have hw3 : IntKind.i64.wrap 3 = 3 := by decide
    have hw4 : IntKind.i64.wrap 4 = 4 := by decide
    have hcs : ∀ j : Nat, (j = 3 ∨ j = 4) → Hid (∀ W : World, Below (wr.alloc (.cells #[.int .i64 0, .int .i64 4, nmv bk, nilS, nilS, nilS, nilS] 95)).heap.size (wr.alloc (.cells #[.int .i64 0, .int .i64 4, nmv bk, nilS, nilS, nilS, nilS] 95)) W → ∀ va vn vc, OwnI W (wr.heap.size + 1) (.slice va vn vc) (c2 j) → AtP wr bk j (.slice va vn vc) (W.setCell ⟨wr.heap.size, 6, none⟩ (.slice va vn vc))) := fun j _ => hid fun W hW va vn vc ho => by
      have hz : (wr.alloc (.cells #[.int .i64 0, .int .i64 4, nmv bk, nilS, nilS, nilS, nilS] 95)).heap.size = wr.heap.size + 1 := by simp
      have hq := (hW.block wr.heap.size (by omega)).trans (alloc_new wr _)
      refine ⟨heap_setCell_at' W wr.heap.size 6 _ _ _ _ hq, ?_, (bel1' hW).setCell (p := ⟨wr.heap.size, 6, none⟩) (Nat.le_refl _) _⟩
      have := (ownI_set (i := 6) (u := .slice va vn vc) ho (by omega : wr.heap.size < wr.heap.size + 1)).slI
      exact this
    rcases hn with rfl | rfl
    · have hcs := hcs 3 (.inl rfl)
      go_wp2_with fail
      have y1 : ∀ i, (wr.alloc (.cells #[.int .i64 0, .int .i64 4, nmv bk, nilS, nilS, nilS, nilS] 95)).cell? ⟨sp, i, none⟩ = (svc bk uv)[i]? := fun i => by
        rw [(bel1 wr _).cell (p := ⟨sp, i, none⟩) hlr]; exact y i
      go_cut [] from 12 to 44 (fun wx => ∃ va vn vc, Hid (AtP wr bk 3 (.slice va vn vc) wx))
      case first =>
        go_region_with (first | (go_at_call 62; refine (of_em bk nilS 3 (by omega) _).mono ?_; rintro e w2 ⟨v, rfl, hov, hb2⟩; obtain ⟨va, vn, vc, rfl⟩ := slG_sh hov.slI; have hb3 := belT (Below.refl _ _).drew hb2; have y2 := HM.out.1 w2 hb3; have f2 := HM.out.2 w2 hb3))
        all_goals
          go_wp2_with fail
          go_meet
          case rel => exact ⟨va, vn, vc, hid (hcs.out w2 hb3 va vn vc (OwnV.any_base hov (by simp)))⟩
      case rest =>
        obtain ⟨va, vn, vc, hA⟩ := hcut
        have yq := fun i => cell_of hA.out.1 i
        have HP := hid (put_em bk H.out.2 _ (c2 3) wc hA.out.2.1 (by rw [c2_len]; omega) (fun x hx => c2_mem hx) (by rw [cnt3]; omega))
        have HC := hid cnt3
        have HBW := hid (HB.out.trans (hA.out.2.2.mono HB.out.size))
        clear hcs y y1 hA hw3 hw4
        go_wp2_with fail
        refine HP.out.mono ?_
        rintro e w3 ⟨ov, bs, rfl, ho, hbl3, hb3⟩
        have hln := fun w' => len_own (P := Tryz.prog) (ty := 3) Tryz.underlying26 ho w'
        have hbl4 : bs.length = 21 + bk.length := by have := HC.out; omega
        have hsec : (((bs.length + 15) / 16 : Nat) : Int) = 2 := by omega
        have HS := hid (sectors_any bs.length (by omega) w3)
        rw [hsec] at HS
        have HR := hid (And.intro (ho.any_base (base' := w.heap.size) HBW.out.size) (And.intro hbl4 (belT HBW.out hb3)))
        obtain ⟨oa, on, oc, rfl⟩ := slB_shape ho.slB
        clear ho hbl3 hb3 hbl4 hsec yq
        go_wp2_with fail
        refine HS.out.mono ?_
        rintro e w4 ⟨rfl, rfl⟩
        go_wp2
        go_roundw
        case rel => exact ⟨2, .inr rfl, rfl, HR.out.2.2⟩
        case measure => simp [intOf]
    · have hcs := hcs 4 (.inr rfl)
      go_wp2_with fail
      have y1 : ∀ i, (wr.alloc (.cells #[.int .i64 0, .int .i64 4, nmv bk, nilS, nilS, nilS, nilS] 95)).cell? ⟨sp, i, none⟩ = (svc bk uv)[i]? := fun i => by
        rw [(bel1 wr _).cell (p := ⟨sp, i, none⟩) hlr]; exact y i
      go_cut [] from 12 to 44 (fun wx => ∃ va vn vc, Hid (AtP wr bk 4 (.slice va vn vc) wx))
      case first =>
        go_region_with (first | (go_at_call 62; refine (of_em bk nilS 4 (by omega) _).mono ?_; rintro e w2 ⟨v, rfl, hov, hb2⟩; obtain ⟨va, vn, vc, rfl⟩ := slG_sh hov.slI; have hb3 := belT (Below.refl _ _).drew hb2; have y2 := HM.out.1 w2 hb3; have f2 := HM.out.2 w2 hb3))
        all_goals
          go_wp2_with fail
          go_meet
          case rel => exact ⟨va, vn, vc, hid (hcs.out w2 hb3 va vn vc (OwnV.any_base hov (by simp)))⟩
      case rest =>
        obtain ⟨va, vn, vc, hA⟩ := hcut
        have yq := fun i => cell_of hA.out.1 i
        have HP := hid (put_em bk H.out.2 _ (c2 4) wc hA.out.2.1 (by rw [c2_len]; omega) (fun x hx => c2_mem hx) (by rw [cnt4]; omega))
        have HC := hid cnt4
        have HBW := hid (HB.out.trans (hA.out.2.2.mono HB.out.size))
        clear hcs y y1 hA hw3 hw4
        go_wp2_with fail
        refine HP.out.mono ?_
        rintro e w3 ⟨ov, bs, rfl, ho, hbl3, hb3⟩
        have hln := fun w' => len_own (P := Tryz.prog) (ty := 3) Tryz.underlying26 ho w'
        have hbl4 : bs.length = 21 + bk.length := by have := HC.out; omega
        have hsec : (((bs.length + 15) / 16 : Nat) : Int) = 2 := by omega
        have HS := hid (sectors_any bs.length (by omega) w3)
        rw [hsec] at HS
        have HR := hid (And.intro (ho.any_base (base' := w.heap.size) HBW.out.size) (And.intro hbl4 (belT HBW.out hb3)))
        obtain ⟨oa, on, oc, rfl⟩ := slB_shape ho.slB
        clear ho hbl3 hb3 hbl4 hsec yq
        go_wp2_with fail
        refine HS.out.mono ?_
        rintro e w4 ⟨rfl, rfl⟩
        go_wp2
        go_ret3
        exact ⟨_, bs, rfl, HR.out.1, HR.out.2.1, HR.out.2.2⟩
open Go.RowKit Go.Mx Go.Proofs.YtmcllcepoiakeaaGreat.Dx Go.Cnt Go.Proofs.YtmcllcepoiakeaaGreat.Cx
theorem free_u2 : freeM u2 2 2 65536 = (2, true) := by
  rw [freeM_fit _ _ _ _ (by omega)]
  have : first u2 (2 : Int).toNat (2 : Int).toNat = 2 := first_free _ _ _ ((freeB_iff _ _ _).2 fun k h1 h2 h3 => by rw [u2_at k (by rw [u2_len] at h3; exact h3), if_neg (by show ¬ k < 2; have : (2 : Int).toNat = 2 := rfl; omega)])
  rw [this]; rfl
set_option maxRecDepth 100000 in
set_option maxHeartbeats 2000000 in
theorem sfind_any (sp : Nat) (bk : List UInt8) (hbk : BkOk bk) (oa : Option Addr) (un uc : Nat) (w : World) (h : w.heap[sp]? = some (.cells (svc bk (.slice oa un uc)) 226 (0, 0))) (hu : SlI w w.heap.size (.slice oa un uc) u2) :
    Calls Tryz.prog 123 #[.pointer (some ⟨sp, 0, none⟩)] w fun e w' => ∃ (v : Value) (bs : List UInt8), e = .returned (.tuple #[.int .i64 2, v, .int .i64 2, .int .i64 0]) ∧ OwnB w' w.heap.size 5 v bs ∧ bs.length = 21 + bk.length ∧ Below w.heap.size w w' := by
  have hbl : bk.length ≤ 1 := by rcases hbk with rfl | ⟨c, rfl, _⟩ <;> simp
  have hlt := blk_lt h
  have y := fun i => cell_of h i
  have hs6 : (w.alloc (.cells #[.int .i64 0, .int .i64 4, nmv bk, nilS, nilS, nilS, nilS] 95)).setCell ⟨w.heap.size, 6, none⟩ nilS = w.alloc (.cells #[.int .i64 0, .int .i64 4, nmv bk, nilS, nilS, nilS, nilS] 95) := setCell_self (cell_of (alloc_new w _) 6)
  have H := hid (And.intro h (And.intro hu hbk))
  have HP := hid (put_em bk hbk nilS [] (w.alloc (.cells #[.int .i64 0, .int .i64 4, nmv bk, nilS, nilS, nilS, nilS] 95)) (SlI.nil _ _) (by simp) (by simp) (by decide))
  clear h hu hbk
  go_enter Tryz.func123, Tryz.ntmps123
  go_wp2_with fail
  refine HP.out.mono ?_
  rintro e w1 ⟨ov, bs, rfl, ho, hl1, hb1⟩
  have hln := fun w' => len_own (P := Tryz.prog) (ty := 3) Tryz.underlying26 ho w'
  have hl2 : bs.length = 13 + bk.length := by rw [hl1]; rfl
  have hsec : (((bs.length + 15) / 16 : Nat) : Int) = 1 := by omega
  have HS := hid (sectors_any bs.length (by omega) w1)
  rw [hsec] at HS
  have hb2 := bel1' hb1
  have h2 := (hb2.block sp hlt).trans H.out.1
  have HF := hid (sfree_any sp bk oa un uc w1 h2 ((H.out.2.1.below hb2 (Nat.le_refl _)).mono hb2.size))
  have HA := hid (sat_any sp bk H.out.2.2 (.slice oa un uc) w1 h2)
  have HB := hid hb2
  obtain ⟨va, vn, vc, rfl⟩ := slB_shape ho.slB
  clear HP hs6 y ho hl1 hl2 hsec hb1 hb2 h2
  go_wp2_with fail
  refine HS.out.mono ?_
  rintro e w2 ⟨rfl, rfl⟩
  go_wp2_with fail
  refine wp_loop_rounds 1 ?_
  rw [rounds_succ]
  go_wp2_with fail
  refine HF.out.mono ?_
  rintro e w2 ⟨rfl, rfl⟩
  go_wp2_with fail
  refine HA.out.mono ?_
  rintro e w3 ⟨v3, bs3, rfl, ho3, hl3, hb3⟩
  have hb4 := belT HB.out hb3
  have h3 := (hb4.block sp hlt).trans H.out.1
  have y3 := fun i => cell_of h3 i
  have HC := free_any u2 (.slice oa un uc) 2 2 65536 w3 ((H.out.2.1.below hb4 (Nat.le_refl _)).mono hb4.size) (by rw [u2_len]; omega) (by omega) (by omega) (by omega)
  rw [free_u2] at HC
  have HCC := hid HC
  have HE := hid (And.intro (ho3.any_base (base' := w.heap.size) HB.out.size) (And.intro hl3 hb4))
  clear HC hb3 hb4 h3 ho3 hl3
  go_wp2_with fail
  refine HCC.out.mono ?_
  rintro e w4 ⟨rfl, rfl⟩
  go_wp2
  exact bodyPost_ret (v := .tuple #[.int .i64 2, v3, .int .i64 2, .int .i64 0]) (by simp [results, Tryz.results123, go_sem]) rfl ⟨v3, bs3, rfl, HE.out.1, HE.out.2.1, HE.out.2.2⟩
theorem zeroCells_u8 (k : Nat) : Builtin.zeroCells (Value.int .u8 0).cells k = (List.replicate k (Mx.u8 0)).toArray := by
  unfold Builtin.zeroCells
  apply Array.ext
  · simp [Value.cells]
  · intro i h1 h2
    simp [Value.cells, Nat.mod_one]
/-- 'append(b, make([]byte, k)...)' -/
theorem app_zeros (w : World) (base : Nat) (v : Value) (l : List UInt8) (h : OwnB w base 5 v l) (hne : l ≠ []) (k : Nat) (h0 : 0 < k) (hk : l.length + k ≤ 1000) (hB : base ≤ w.heap.size) (ty : TypeId) :
    ∃ v' w', (Builtin.append_ #[26, 3] ty #[v, .int .i64 k]).run Tryz.prog w = .ok v' w' ∧ OwnB w' base 5 v' (l ++ List.replicate k 0) ∧ w.grownBy w' v.ownBlock := by
  obtain ⟨i, hi, hz, hs, hby⟩ := info_parts Tryz.info5
  have hmap : (l ++ List.replicate k 0).map Mx.u8 = l.map Mx.u8 ++ List.replicate k (Mx.u8 0) := by simp
  rcases h.2 with ⟨rfl, h0'⟩ | ⟨g, cap, cur, rfl, hbg, hg, hnc, hcm, hcs, htake⟩
  · exact absurd (List.eq_nil_of_length_eq_zero h0') hne
  · rw [Nat.mul_one, ] at hcs
    by_cases hroom : l.length + k ≤ cap
    · have hfit : l.length + (List.replicate k (Mx.u8 0)).length ≤ cur.size := by simp; omega
      have hst := run_storeCells_at Tryz.prog g l.length 5 (List.replicate k (Mx.u8 0)) 0 cur w hg (by simpa using hfit) (by intro u hu; rw [List.eq_of_mem_replicate hu]; rfl)
      simp only [Nat.add_zero] at hst
      have hwk : IntKind.i64.wrap (k : Int) = k := by rw [IntKind.wrap_i64]; omega
      have hneg : ¬ ((k : Int) < 0) := by omega
      have h48i : ¬ (281474976710656 < (k : Int)) := by omega
      have hk0 : ¬ (k = 0) := by omega
      refine ⟨.slice (some ⟨g, 0, none⟩) (l.length + k) cap, w.setRow g (cur.toList.take l.length ++ List.replicate k (Mx.u8 0) ++ cur.toList.drop (l.length + (List.replicate k (Mx.u8 0)).length)).toArray, ?_, ?_, ⟨rfl, rfl, rfl, by simp, fun j _ hj => setRow_other w g j _ (fun e => hj (by simp [Value.ownBlock, e]))⟩⟩
      · simp [Builtin.append_, run_underlying Tryz.underlying26, run_underlying Tryz.underlying3, sizeOf, typeInfo, zeroValue, hi, hz, hs, hby, asInt, asIntOf, hwk, hneg, h48i, hk0, hroom, zeroCells_u8, Addr.add_lit, hst]
      · refine ⟨by simp, .inr ⟨g, cap, _, by simp, hbg, setRow_heap w g cur _ 5 _ hg, by simpa using hroom, hcm, ?_, ?_⟩⟩
        · simp only [List.size_toArray, List.length_append, List.length_take, List.length_drop, Array.length_toList, List.length_replicate]
          omega
        · have e1 : cur.toList.take l.length = l.map Mx.u8 := by simpa using htake
          rw [hmap, e1]
          simp only [Nat.mul_one]
          have : (l ++ List.replicate k 0).length = (l.map Mx.u8 ++ List.replicate k (Mx.u8 0)).length := by simp
          rw [this]
          exact List.take_left
    · have holds : ∀ j u, (l.map Mx.u8)[j]? = some u → w.drew.cell? ((⟨g, 0, none⟩ : Addr).add j) = some u := fun j u hu => by
        rw [World.cell?_drew]; exact World.ownsRow.cells h (g := g) rfl j u hu
      have hfc := run_firstCells_some (P := Tryz.prog) w.drew i.size l.length ⟨g, 0, none⟩ l.length cap (l.map Mx.u8) (by rw [hs]; simp) holds
      have hr := Lib.run_append_grow_zeros (P := Tryz.prog) w 26 3 ty 5 i (.int .u8 0) .i64 .i64 Tryz.underlying26 Tryz.underlying3 hi hz (some ⟨g, 0, none⟩) l.length cap (l.map Mx.u8) (by simpa [Builtin.firstCells] using hfc) k h0 (by rw [hs]; omega) (by omega) (by omega) (by rw [hby]; omega) (growslice_fits (by omega) (by rw [hby]; omega))
      rw [zeroCells_u8, zeroCells_u8] at hr
      have hge := grownCap_ge w (l.length + k) cap 5
      have hcm2 : grownCap w (l.length + k) cap 5 ≤ maxLen := grownCap_le_maxLen w (l.length + k) cap 5 (by unfold maxLen; omega)
      refine ⟨_, _, hr, ⟨by simp, .inr ⟨w.heap.size, _, _, by simp, hB, heap_alloc_new w.drew _, by simpa using hge, hcm2, ?_, ?_⟩⟩, ⟨rfl, rfl, rfl, by simp, fun j hj _ => heap_alloc_old w.drew _ hj⟩⟩
      · simp only [Array.size_append, List.size_toArray, List.length_map, List.length_replicate, Nat.mul_one]
        omega
      · rw [hmap]
        simp only [Array.toList_append, List.append_assoc, Nat.mul_one]
        rw [← List.append_assoc]
        have : (l ++ List.replicate k 0).length = (l.map Mx.u8 ++ List.replicate k (Mx.u8 0)).length := by simp
        rw [this]
        exact List.take_left
end Go.Proofs.YtmcllcepoiakeaaGreat
