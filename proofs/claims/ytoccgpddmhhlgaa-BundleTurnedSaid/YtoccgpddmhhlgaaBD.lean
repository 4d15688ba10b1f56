import Derived.Test.YtoccgpddmhhlgaaBC
import Derived.BigQuiet
import Derived.Deep.RegionHeld3
namespace Go.Bun
set_option linter.unusedSimpArgs false
set_option linter.unusedVariables false
/-- what parts weigh -/
def wt (l : List Prt) : Nat := l.length + (l.flatMap (·.data)).length + (l.flatMap (·.name)).length
theorem wt_take (l : List Prt) (k : Nat) (hk : k < l.length) : wt (l.take (k + 1)) = wt (l.take k) + 1 + (l.getD k default).data.length + (l.getD k default).name.length := by
  rw [takeD' l k default hk]; unfold wt; simp; omega
end Go.Bun
namespace Go.Proofs.Ytoccgpddmhhlgaa
open Go.RowKit Go.Mx Go.Crc Go.Str Go.Bun
set_option linter.unusedSimpArgs false
set_option linter.unusedVariables false

def RFb (p : Prop) (w : World) (e : Ending) (w' : World) : Prop := ∃ b : Bool, e = .returned (.bool b) ∧ (b = false → p) ∧ Below w.heap.size w w'

set_option maxRecDepth 100000 in
set_option maxHeartbeats 2000000 in
theorem bgreat_any (l : List Prt) (lv : Value) (w : World) (h : SlPt w w.heap.size lv l) (hn : ∀ p ∈ l, p.name.length ≤ 9223372036854775807) :
    Calls Try.prog 13 #[lv] w (RFb (wt l ≤ 50000) w) := by
  have hlen := fun w' => h.len (ty := 3) w'
  have hll := h.small
  have H := hid h
  have HN := hid hn
  clear h hn
  go_enter Try.func13, Try.ntmps13
  go_wp2_with fail
  go_loopw [3, 4] (fun n i wr => ∃ k N q : Nat, k ≤ l.length ∧ i = .int .i64 k ∧ n = .int .i64 N ∧ N ≤ 150001 ∧ (N ≤ 50000 → N = wt (l.take k)) ∧ wr = w.drewN q) (fun _ i _ => l.length - (intOf i).toNat)
  case atStart => exact ⟨0, 0, 0, by omega, rfl, rfl, by omega, fun _ => rfl, rfl⟩
  case round =>
    obtain ⟨k, N, q, hk, rfl, rfl, hN, hw, rfl⟩ := hrel
    have HW := hid hw
    clear hw
    by_cases hlt : k < l.length
    · by_cases hN5 : N ≤ 50000
      · obtain ⟨b, o, dv, hbb, hia, c0, c1, hs⟩ := H.out.at k hlt
        have hld := fun w' => hs.len (P := Try.prog) (ty := 3) Try.underlying25 w'
        have hml : (l.getD k default).data.length ≤ 9223372036854775807 := by obtain ⟨_, c, _, q1, q2, _⟩ := hs; unfold maxLen at q2; omega
        have hnl : (l.getD k default).name.length ≤ 9223372036854775807 := HN.out _ (by rw [List.getD_eq_getElem?_getD, List.getElem?_eq_getElem hlt]; exact List.getElem_mem _)
        have HT := hid (wt_take l k hlt)
        obtain ⟨m, hm⟩ : ∃ m, m = (l.getD k default).data.length := ⟨_, rfl⟩
        obtain ⟨s, hs'⟩ : ∃ s, s = (l.getD k default).name := ⟨_, rfl⟩
        rw [← hm] at hld hml HT
        rw [← hs'] at c0 hnl HT
        clear hm hs' hs
        have hw1 : IntKind.i64.wrap ((N : Int) + 1) = (N : Int) + 1 := IntWalk.i64_in _ (by omega)
        have hw2 : IntKind.i64.wrap ((N : Int) + 1 + min (m : Int) 50000) = (N : Int) + 1 + min (m : Int) 50000 := IntWalk.i64_in _ (by omega)
        have hw3 : IntKind.i64.wrap ((N : Int) + 1 + min (m : Int) 50000 + min (s.length : Int) 50000) = (N : Int) + 1 + min (m : Int) 50000 + min (s.length : Int) 50000 := IntWalk.i64_in _ (by omega)
        go_wp2_with fail
        go_quiet (fail)
        go_wp2_with fail
        clear hw1 hw2 hw3
        refine ⟨⟨k + 1, N + 1 + min m 50000 + min s.length 50000, q + nq, by omega, by go_num, by congr 1; omega, by omega, fun h => ?_, rfl⟩, by simp [intOf]; omega⟩
        rw [HT.out, ← HW.out hN5]
        omega
      · go_wp2_with fail
        go_ret
        exact ⟨_, rfl, fun h => by simp at h <;> omega, below_drewN (Below.refl _ _) _⟩
    · obtain rfl : k = l.length := by omega
      go_wp2_with fail
      go_ret
      refine ⟨_, rfl, fun h => ?_, below_drewN (Below.refl _ _) _⟩
      have := HW.out
      rw [List.take_length] at this
      simp at h
      omega

theorem row_cells (w : World) (row : List Value) (e : TypeId) : ∀ j u, row[j]? = some u → (w.alloc (.cells row.toArray e)).cell? ⟨w.heap.size, j, none⟩ = some u := by
  intro j u hj
  have := alloc_new w (.cells row.toArray e)
  simp only [World.cell?, this]; simpa using hj
def prow (nm : List UInt8) (dv : Value) : List Value := [.string ⟨nm.toArray⟩, dv]
theorem prow_one (s : List UInt8) (oa : Option Addr) (n c : Nat) : ∀ u ∈ prow s (.slice oa n c), u.oneCell' = true := by
  intro u hu; simp [prow] at hu; rcases hu with rfl | rfl <;> rfl
/-- what parts hands over: rows of one's own whose data are those of the argument -/
structure Pt (w : World) (base B : Nat) (e : TypeId) (v : Value) (l : List Prt) (dvs : List Value) : Prop where
  len : dvs.length = l.length
  own : OwnG w base e 2 v (List.zipWith (fun p d => prow p.name d) l dvs)
  dat : ∀ i, i < l.length → SlB w B (dvs.getD i undef) (l.getD i default).data
theorem Pt.sl {w : World} {base B : Nat} {e : TypeId} {v : Value} {l : List Prt} {dvs : List Value} (h : Pt w base B e v l dvs) (hB : B ≤ w.heap.size) : SlPt w w.heap.size v l := by
  refine ⟨_, ?_, h.own.slG, fun i hi => ⟨dvs.getD i undef, ?_, (h.dat i hi).mono hB⟩⟩
  · simp [h.len]
  · have := h.len
    simp [List.getD_eq_getElem?_getD, List.getElem?_zipWith, List.getElem?_eq_getElem hi, List.getElem?_eq_getElem (show i < dvs.length by omega), prow]
theorem Pt.nil (w : World) (base B : Nat) (e : TypeId) : Pt w base B e (.slice none 0 0) [] [] := ⟨rfl, OwnG.nil _ _ _ _, fun i hi => by simp at hi⟩
theorem zip_snoc {α β γ : Type} (f : α → β → γ) (l : List α) (m : List β) (a : α) (b : β) (h : l.length = m.length) : List.zipWith f (l ++ [a]) (m ++ [b]) = List.zipWith f l m ++ [f a b] := by
  rw [List.zipWith_append h]; rfl
theorem Pt.snoc {w w' : World} {base B : Nat} {e : TypeId} {v v' : Value} {l : List Prt} {dvs : List Value} (h : Pt w base B e v l dvs) (p : Prt) (dv : Value) (hb : Below B w w')
    (ho : OwnG w' base e 2 v' (List.zipWith (fun p d => prow p.name d) l dvs ++ [prow p.name dv])) (hd : SlB w B dv p.data) : Pt w' base B e v' (l ++ [p]) (dvs ++ [dv]) := by
  refine ⟨by simp [h.len], ?_, fun i hi => ?_⟩
  · rw [zip_snoc _ _ _ _ _ h.len.symm]; exact ho
  · simp only [List.length_append, List.length_cons, List.length_nil] at hi
    rcases Nat.lt_or_ge i l.length with hlt | hge
    · have e1 : (l ++ [p]).getD i default = l.getD i default := by simp [List.getD_eq_getElem?_getD, List.getElem?_append_left hlt]
      have e2 : (dvs ++ [dv]).getD i undef = dvs.getD i undef := by simp [List.getD_eq_getElem?_getD, List.getElem?_append_left (show i < dvs.length by rw [h.len]; exact hlt)]
      rw [e1, e2]; exact (h.dat i hlt).below hb (Nat.le_refl _)
    · have hi' : i = l.length := by omega
      have e1 : (l ++ [p]).getD i default = p := by simp [List.getD_eq_getElem?_getD, hi']
      have e2 : (dvs ++ [dv]).getD i undef = dv := by rw [hi', ← h.len]; simp [List.getD_eq_getElem?_getD]
      rw [e1, e2]; exact hd.below hb (Nat.le_refl _)

set_option maxRecDepth 100000 in
set_option maxHeartbeats 2000000 in
theorem parts_any (l : List Prt) (lv : Value) (w : World) (h : SlPt w w.heap.size lv l) (hl : l.length ≤ 50000) :
    Calls Try.prog 17 #[lv] w fun e w' => ∃ nv, e = .returned nv ∧ SlPt w' w'.heap.size nv l ∧ Below w.heap.size w w' := by
  have hlen := fun w' => h.len (ty := 3) w'
  have H := hid h
  clear h
  go_enter Try.func17, Try.ntmps17
  go_wp2_with fail
  go_loopw [3, 4] (fun n i wr => ∃ (k : Nat) (dvs : List Value), k ≤ l.length ∧ i = .int .i64 k ∧ Pt wr w.heap.size w.heap.size 66 n (l.take k) dvs ∧ Below w.heap.size w wr) (fun _ i _ => l.length - (intOf i).toNat)
  case atStart => exact ⟨0, [], by omega, rfl, Pt.nil _ _ _ _, Below.refl _ _⟩
  case round =>
    obtain ⟨k, dvs, hk, rfl, hP, hbl⟩ := hrel
    by_cases hlt : k < l.length
    · obtain ⟨b, o, dv, hb, hia, c0, c1, hs⟩ := (H.out.below hbl (Nat.le_refl _)).at k hlt
      have hlr : (List.zipWith (fun p d => prow p.name d) (l.take k) dvs).length ≤ 50000 := by simp; omega
      have HT := hid (takeD' l k default hlt)
      obtain ⟨p, hp⟩ : ∃ p, p = l.getD k default := ⟨_, rfl⟩
      rw [← hp] at c0 hs HT
      clear hp
      obtain ⟨oa, n, c, rfl⟩ := slB_shape hs
      have HP := hid (And.intro hP hs)
      have hown := hP.own
      obtain ⟨rows, hrows⟩ : ∃ r, r = List.zipWith (fun p d => prow p.name d) (l.take k) dvs := ⟨_, rfl⟩
      rw [← hrows] at hlr hown
      have HR := hid hrows
      have hbz := hbl.size
      have HB := hid hbl
      clear hrows hP hs hbl
      obtain ⟨s, hs'⟩ : ∃ s, s = p.name := ⟨_, rfl⟩
      rw [← hs'] at c0
      have HS := hid hs'
      clear hs'
      have hownX : OwnG (wr.drew.alloc (.cells (prow s (.slice oa n c)).toArray 66)) w.heap.size 66 2 _ rows := hown.below ((Below.refl wr.heap.size wr).drew.alloc (Nat.le_refl _) _) (Nat.le_refl _)
      have hlen9 : (rows.length + 1) * 40 ≤ 140737488355328 := by omega
      have hlen8 : rows.length + 1 ≤ 140737488355328 := by omega
      have hB9 : w.heap.size ≤ (wr.drew.alloc (.cells (prow s (.slice oa n c)).toArray 66)).heap.size := by simp; omega
      go_wp2_with fail
      go_region_held3 (fun w' => w'.cell? ⟨b, o, none⟩ = some (.string ⟨s.toArray⟩) ∧ w'.cell? ⟨b, o + 1, none⟩ = some (.slice oa n c))
        (first | go_keep | (go_split_ands; refine ⟨?_, ?_⟩ <;> (rw [hb3.cell (by assumption)]; assumption)))
        ((refine step_append_g _ (by rfl) _ _ 31 66 _ 2 40 rfl Try.underlying31 Try.info66 rfl (by decide) w.heap.size _ rows rfl hownX wr.heap.size 1 (prow s (.slice oa n c)) rfl rfl (row_cells wr (prow s (.slice oa n c)) 66) (prow_one s oa n c) hlen9 hlen8 hB9 ?_; intro v3 w3 ho3 hg3 hb3))
      have hb4 : Below w.heap.size wr w3 := ((Below.refl w.heap.size wr).drew.alloc hbz _).trans hb3
      have hbl4 := HB.out.trans hb4
      have HP4 := hid (HP.out.1.snoc p (.slice oa n c) hb4 (by rw [← HR.out, ← HS.out]; exact ho3) HP.out.2)
      rw [← HT.out] at HP4
      clear hownX ho3 hg3 hb3 hb4 hown c0 c1
      go_wp2
      go_roundw
      case rel => exact ⟨k + 1, _, by omega, by go_num, HP4.out, hbl4⟩
      case measure => simp [intOf]; omega
    · obtain rfl : k = l.length := by omega
      rw [List.take_length] at hP
      have HP := hid (hP.sl hbl.size)
      clear hP
      go_wp2
      go_ret
      exact ⟨_, rfl, HP.out, hbl⟩
end Go.Proofs.Ytoccgpddmhhlgaa
