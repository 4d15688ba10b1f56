import Derived.Test.YtpgdncpomacghaaR
import Derived.Deep.RegionHeld
namespace Go.Proofs.Ytpgdncpomacghaa
open Go.RowKit Go.Mx Go.Cnt Go.Shelf

structure MapM where
  name : List UInt8
  on : Bool
  l : List (Int × Int)
deriving Inhabited

structure MetaM where
  cl : Int
  sz : Int
  bk : List UInt8
  t : Tab
  ss : List ShotM
  ms : List MapM
  cs : List Int
deriving Inhabited

def spanC (p : Int × Int) : List Value := [.int .i64 p.1, .int .i64 p.2]
def SlP (w : World) (B : Nat) (v : Value) (l : List (Int × Int)) : Prop := SlG w B 2 v (l.map spanC)
def mapC (m : MapM) (lv : Value) : List Value := [.string ⟨m.name.toArray⟩, .bool m.on, lv]
def IsMaps (w : World) (B : Nat) (mv : Value) (ms : List MapM) : Prop :=
  ∃ lvs : List Value, lvs.length = ms.length ∧ SlG w B 3 mv (List.zipWith mapC ms lvs) ∧ ∀ i, i < ms.length → SlP w B (lvs.getD i undef) (ms.getD i default).l

theorem IsMaps.below {w w' : World} {B B' : Nat} {v : Value} {ss : List MapM} (h : IsMaps w B v ss) (hb : Below B' w w') (hB : B ≤ B') : IsMaps w' B v ss := by
  obtain ⟨lvs, h1, h2, h3⟩ := h
  exact ⟨lvs, h1, h2.below hb hB, fun i hi => SlG.below (h3 i hi) hb hB⟩
theorem IsMaps.mono {w : World} {B B' : Nat} {v : Value} {ss : List MapM} (h : IsMaps w B v ss) (hB : B ≤ B') : IsMaps w B' v ss := by
  obtain ⟨lvs, h1, h2, h3⟩ := h
  exact ⟨lvs, h1, h2.mono hB, fun i hi => SlG.mono (h3 i hi) hB⟩
theorem IsMaps.len {w : World} {B : Nat} {v : Value} {ss : List MapM} (h : IsMaps w B v ss) (w' : World) {ty : TypeId} : (Builtin.len_ #[26] ty #[v]).run Try.prog w' = .ok (.int .i64 ss.length) w' := by
  obtain ⟨lvs, h1, h2, h3⟩ := h
  have := h2.len (P := Try.prog) (ty := ty) Try.underlying26 w'
  rwa [List.length_zipWith, h1, Nat.min_self] at this
theorem IsMaps.le {w : World} {B : Nat} {v : Value} {ss : List MapM} (h : IsMaps w B v ss) : ss.length ≤ 9223372036854775807 := by
  obtain ⟨lvs, h1, ⟨oa, cap, _, h2, h3, _⟩, _⟩ := h
  rw [List.length_zipWith, h1, Nat.min_self] at h2
  unfold maxLen at h3; omega
theorem sizeMp (w : World) : (sizeOf 56).run Try.prog w = .ok 3 w := by kernel_rfl
theorem sizeSp (w : World) : (sizeOf 65).run Try.prog w = .ok 2 w := by kernel_rfl
theorem IsMaps.at {w : World} {B : Nat} {v : Value} {ss : List MapM} (h : IsMaps w B v ss) (i : Nat) (hi : i < ss.length) :
    ∃ b o lv, b < B ∧ (∀ w' (k : IntKind), (Instr.indexAt 26 v (.int k (i : Int))).run Try.prog w' = .ok (.pointer (some ⟨b, o, none⟩)) w') ∧
      w.cell? ⟨b, o, none⟩ = some (.string ⟨(ss.getD i default).name.toArray⟩) ∧ w.cell? ⟨b, o + 1, none⟩ = some (.bool (ss.getD i default).on) ∧ w.cell? ⟨b, o + 2, none⟩ = some lv ∧ SlP w B lv (ss.getD i default).l := by
  obtain ⟨tvs, h1, h2, h3⟩ := h
  obtain ⟨b, o, hb, hia, hc⟩ := h2.addr (P := Try.prog) Try.underlying26 sizeMp i (by simp; omega)
  have e : (List.zipWith mapC ss tvs).getD i [] = mapC (ss.getD i default) (tvs.getD i undef) := by
    simp [List.getD_eq_getElem?_getD, List.getElem?_zipWith, List.getElem?_eq_getElem hi, List.getElem?_eq_getElem (show i < tvs.length by omega)]
  rw [e] at hc
  exact ⟨b, o, _, hb, hia, hc 0 _ rfl, hc 1 _ rfl, hc 2 _ rfl, h3 i hi⟩
theorem SlP.len {w : World} {B : Nat} {v : Value} {l : List (Int × Int)} (h : SlP w B v l) (w' : World) {ty : TypeId} : (Builtin.len_ #[54] ty #[v]).run Try.prog w' = .ok (.int .i64 l.length) w' := by
  have := SlG.len (P := Try.prog) (ty := ty) h Try.underlying54 w'
  rwa [List.length_map] at this
theorem SlP.le {w : World} {B : Nat} {v : Value} {l : List (Int × Int)} (h : SlP w B v l) : l.length ≤ 9223372036854775807 := by
  obtain ⟨oa, cap, _, h2, h3, _⟩ := h
  rw [List.length_map] at h2
  unfold maxLen at h3; omega
theorem SlP.at {w : World} {B : Nat} {v : Value} {l : List (Int × Int)} (h : SlP w B v l) (i : Nat) (hi : i < l.length) :
    ∃ b o, b < B ∧ (∀ w' (k : IntKind), (Instr.indexAt 54 v (.int k (i : Int))).run Try.prog w' = .ok (.pointer (some ⟨b, o, none⟩)) w') ∧
      w.cell? ⟨b, o, none⟩ = some (.int .i64 (l.getD i default).1) ∧ w.cell? ⟨b, o + 1, none⟩ = some (.int .i64 (l.getD i default).2) := by
  obtain ⟨b, o, hb, hia, hc⟩ := SlG.addr (P := Try.prog) h Try.underlying54 sizeSp i (by simpa using hi)
  have e : (l.map spanC).getD i [] = spanC (l.getD i default) := by
    simp [List.getD_eq_getElem?_getD, List.getElem?_map, List.getElem?_eq_getElem hi]
  rw [e] at hc
  exact ⟨b, o, hb, hia, hc 0 _ rfl, hc 1 _ rfl⟩
theorem IsShots.le {w : World} {B : Nat} {v : Value} {ss : List ShotM} (h : IsShots w B v ss) : ss.length ≤ 9223372036854775807 := by
  obtain ⟨lvs, h1, ⟨oa, cap, _, h2, h3, _⟩, _⟩ := h
  rw [List.length_zipWith, h1, Nat.min_self] at h2
  unfold maxLen at h3; omega
theorem IsTab.le {w : World} {B : Nat} {v : Value} {t : Tab} (h : IsTab w B v t) : t.length ≤ 9223372036854775807 := by
  obtain ⟨lvs, h1, ⟨oa, cap, _, h2, h3, _⟩, _⟩ := h
  rw [List.length_map, h1] at h2
  unfold maxLen at h3; omega
theorem SlE.le {w : World} {B : Nat} {v : Value} {l : List Ent} (h : SlE w B v l) : l.length ≤ 9223372036854775807 := by
  obtain ⟨oa, cap, _, h2, h3, _⟩ := h
  rw [List.length_map] at h2
  unfold maxLen at h3; omega

def RF (p : Prop) (w : World) (e : Ending) (w' : World) : Prop := ∃ b : Bool, e = .returned (.bool b) ∧ (b = false → p) ∧ Below w.heap.size w w'
theorem RF.mk {p : Prop} {w w' : World} {b : Bool} (h : b = false → p) (hb : Below w.heap.size w w') : RF p w (.returned (.bool b)) w' := ⟨b, rfl, h, hb⟩

set_option maxRecDepth 100000 in
set_option maxHeartbeats 1000000 in
theorem great8_any (t : Tab) (tv : Value) (w : World) (ht : IsTab w w.heap.size tv t) : Calls Try.prog 22 #[.agg #[tv]] w (RF (t.length ≤ 6000) w) := by
  have hlen := fun w' => ht.len w' (ty := 3)
  have hle := ht.le
  have hb : Below w.heap.size w (w.alloc (.cells #[tv] 24)) := (Below.refl _ _).alloc (Nat.le_refl _) _
  have HB := hid hb
  clear hb
  go_enter Try.func22, Try.ntmps22
  go_wp2_with fail
  go_loop [3, 4] (fun n i => ∃ (N k : Nat), k ≤ t.length ∧ k ≤ N ∧ N ≤ 12001 ∧ i = .int .i64 k ∧ n = .int .i64 N)
    (fun _ i => t.length - (intOf i).toNat)
  case atStart => exact ⟨0, 0, by omega, by omega, by omega, rfl, rfl⟩
  case round =>
    obtain ⟨N, k, hk, hkN, hN, rfl, rfl⟩ := hrel
    by_cases hlt : k < t.length
    · by_cases hN6 : N ≤ 6000
      · obtain ⟨b, o, lv, hbb, hia, hc, hlv⟩ := ht.leaf k hlt
        have hll := fun w' => hlv.len w' (ty := 3)
        have hle2 := hlv.le
        obtain ⟨lf, hlf⟩ : ∃ lf, lf = t.getD k [] := ⟨_, rfl⟩
        rw [← hlf] at hll hle2
        clear hlf hlv
        obtain ⟨m, hm⟩ : ∃ m : Nat, (m : Int) = (if (6000 : Int) < (lf.length : Int) then (6000 : Int) else (lf.length : Int)) ∧ m ≤ 6000 := by
          by_cases h : (6000 : Int) < (lf.length : Int)
          · exact ⟨6000, by rw [if_pos h]; rfl, by omega⟩
          · exact ⟨lf.length, by rw [if_neg h], by omega⟩
        obtain ⟨hm1, hm2⟩ := hm
        have hm3 := hm1.symm
        clear hm1
        go_wp2_with fail
        go_round
        case rel => exact ⟨N + 1 + m, k + 1, by omega, by omega, by omega, by go_num, by go_num⟩
        case measure => simp [intOf]; omega
      · go_wp2_with fail
        go_ret
        exact RF.mk (fun h => by simp at h <;> omega) HB.out
    · obtain rfl : k = t.length := by omega
      go_wp2_with fail
      go_ret
      exact RF.mk (fun h => by simp at h <;> omega) HB.out

theorem ret_b {a b : Bool} (h : a = b) : Ending.returned (.bool a) = .returned (.bool b) := by rw [h]

def smay (p : Int × Int) : Bool := decide (0 ≤ p.1) && decide (p.1 < p.2) && decide (p.2 ≤ 1073741824)

set_option maxHeartbeats 1000000 in
theorem smay_any (p : Int × Int) (w : World) : Calls Try.prog 38 #[.agg #[.int .i64 p.1, .int .i64 p.2]] w fun e w' => e = .returned (.bool (smay p)) ∧ Below w.heap.size w w' := by
  obtain ⟨a, b⟩ := p
  have hb : Below w.heap.size w (w.alloc (.cells #[.int .i64 a, .int .i64 b] 65)) := (Below.refl _ _).alloc (Nat.le_refl _) _
  have HB := hid hb
  clear hb
  by_cases h1 : 0 ≤ a
  · by_cases h2 : a < b
    · have hs := hid (show smay (a, b) = decide (b ≤ 1073741824) by unfold smay; simp [h1, h2])
      go_enter Try.func38, Try.ntmps38
      go_wp2
      go_ret
      exact ⟨ret_b hs.out.symm, HB.out⟩
    · have hs := hid (show smay (a, b) = false by unfold smay; simp [h2])
      go_enter Try.func38, Try.ntmps38
      go_wp2
      go_ret
      exact ⟨ret_b hs.out.symm, HB.out⟩
  · have hs := hid (show smay (a, b) = false by unfold smay; simp [h1])
    go_enter Try.func38, Try.ntmps38
    go_wp2
    go_ret
    exact ⟨ret_b hs.out.symm, HB.out⟩

set_option maxRecDepth 100000 in
set_option maxHeartbeats 1000000 in
theorem name_any (s : List UInt8) (w : World) (hs : s.length ≤ 9223372036854775807) : Calls Try.prog 24 #[.string ⟨s.toArray⟩] w (RB True w) := by
  by_cases h0 : s = []
  · subst h0
    go_enter Try.func24, Try.ntmps24
    go_wp2
    go_ret
    exact RB.mk (fun _ => trivial) (Below.refl _ _)
  have he : s.isEmpty = false := by cases s with | nil => exact absurd rfl h0 | cons _ _ => rfl
  have hlp := List.length_pos_iff.2 h0
  clear h0
  by_cases h1 : 16 < s.length
  · go_enter Try.func24, Try.ntmps24
    go_wp2
    all_goals go_ret
    all_goals exact RB.mk (fun _ => trivial) (Below.refl _ _)
  go_enter Try.func24, Try.ntmps24
  go_wp2_with fail
  go_loop [3] (fun i => ∃ k : Nat, k ≤ s.length ∧ i = .int .i64 k) (fun i => s.length - (intOf i).toNat)
  case atStart => exact ⟨0, by omega, rfl⟩
  case round =>
    obtain ⟨k, hk, rfl⟩ := hrel
    by_cases hlt : k < s.length
    · go_wp2
      all_goals first | (go_ret; exact RB.mk (fun _ => trivial) (Below.refl _ _)) | (go_round; (case rel => exact ⟨k + 1, by omega, by go_num⟩); (case measure => (simp [intOf]; omega)))
    · obtain rfl : k = s.length := by omega
      go_wp2
      go_ret
      exact RB.mk (fun _ => trivial) (Below.refl _ _)

/-- it answers some int -/
def RI (w : World) (e : Ending) (w' : World) : Prop := ∃ n : Int, e = .returned (.int .i64 n) ∧ Below w.heap.size w w'

set_option maxRecDepth 100000 in
set_option maxHeartbeats 1000000 in
theorem shot_any (a0 a1 a2 tv sv mv cv : Value) (ss : List ShotM) (s : ByteArray) (w : World) (hs : IsShots w w.heap.size sv ss) : Calls Try.prog 26 #[.agg #[a0, a1, a2, tv, sv, mv, cv], .string s] w (RI w) := by
  have hlen := fun w' => hs.len w' (ty := 3)
  have hle := hs.le
  have hb : Below w.heap.size w (w.alloc (.cells #[a0, a1, a2, tv, sv, mv, cv] 29)) := (Below.refl _ _).alloc (Nat.le_refl _) _
  have HB := hid hb
  have HS := hid (hs.below hb (Nat.le_refl _))
  clear hb
  go_enter Try.func26, Try.ntmps26
  go_wp2_with fail
  go_loop [5] (fun i => ∃ k : Nat, k ≤ ss.length ∧ i = .int .i64 k) (fun i => ss.length - (intOf i).toNat)
  case atStart => exact ⟨0, by omega, rfl⟩
  case round =>
    obtain ⟨k, hk, rfl⟩ := hrel
    by_cases hlt : k < ss.length
    · obtain ⟨b, o, tv', hb, hia, c0, c1, c2, htk⟩ := hs.at k hlt
      obtain ⟨nm, hnm⟩ : ∃ nm : ByteArray, nm = ⟨(ss.getD k default).name.toArray⟩ := ⟨_, rfl⟩
      rw [← hnm] at c0
      clear hnm htk c1 c2
      cases hq : (nm == s)
      · go_wp2
        all_goals first | (go_ret; exact ⟨_, rfl, HB.out⟩) | (go_round; (case rel => exact ⟨k + 1, by omega, by go_num⟩); (case measure => (simp [intOf]; omega)))
      · go_wp2
        all_goals first | (go_ret; exact ⟨_, rfl, HB.out⟩) | (go_round; (case rel => exact ⟨k + 1, by omega, by go_num⟩); (case measure => (simp [intOf]; omega)))
    · obtain rfl : k = ss.length := by omega
      go_wp2
      go_ret
      exact ⟨_, rfl, HB.out⟩

set_option maxRecDepth 100000 in
set_option maxHeartbeats 1000000 in
theorem bitmap_any (mv : Value) (ms : List MapM) (s : ByteArray) (w : World) (hs : IsMaps w w.heap.size mv ms) : Calls Try.prog 27 #[mv, .string s] w (RI w) := by
  have hlen := fun w' => hs.len w' (ty := 3)
  have hle := hs.le
  go_enter Try.func27, Try.ntmps27
  go_wp2_with fail
  go_loop [5] (fun i => ∃ k : Nat, k ≤ ms.length ∧ i = .int .i64 k) (fun i => ms.length - (intOf i).toNat)
  case atStart => exact ⟨0, by omega, rfl⟩
  case round =>
    obtain ⟨k, hk, rfl⟩ := hrel
    by_cases hlt : k < ms.length
    · obtain ⟨b, o, lv, hb, hia, c0, c1, c2, htk⟩ := hs.at k hlt
      obtain ⟨nm, hnm⟩ : ∃ nm : ByteArray, nm = ⟨(ms.getD k default).name.toArray⟩ := ⟨_, rfl⟩
      rw [← hnm] at c0
      clear hnm htk c1 c2
      cases hq : (nm == s)
      · go_wp2
        all_goals first | (go_ret; exact ⟨_, rfl, Below.refl _ _⟩) | (go_round; (case rel => exact ⟨k + 1, by omega, by go_num⟩); (case measure => (simp [intOf]; omega)))
      · go_wp2
        all_goals first | (go_ret; exact ⟨_, rfl, Below.refl _ _⟩) | (go_round; (case rel => exact ⟨k + 1, by omega, by go_num⟩); (case measure => (simp [intOf]; omega)))
    · obtain rfl : k = ms.length := by omega
      go_wp2
      go_ret
      exact ⟨_, rfl, Below.refl _ _⟩

set_option maxRecDepth 100000 in
set_option maxHeartbeats 4000000 in
theorem sized_any (n c : Int) (w : World) (hc : 0 ≤ c ∧ c ≤ 6) (hn : -9223372036854775808 ≤ n ∧ n ≤ 9223372036854775807) : Calls Try.prog 23 #[.int .i64 n, .int .i64 c] w (RB True w) := by
  obtain ⟨hn1, hn2⟩ := hn
  obtain ⟨d, rfl⟩ := Int.eq_ofNat_of_zero_le hc.1
  have hd : d = 0 ∨ d = 1 ∨ d = 2 ∨ d = 3 ∨ d = 4 ∨ d = 5 ∨ d = 6 := by omega
  clear hc
  rcases hd with rfl | rfl | rfl | rfl | rfl | rfl | rfl
  all_goals
    go_enter Try.func23, Try.ntmps23
    go_wp2
    all_goals go_ret
    all_goals exact RB.mk (fun _ => trivial) (Below.refl _ _)
end Go.Proofs.Ytpgdncpomacghaa
