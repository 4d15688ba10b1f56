import Derived.Test.YtpgdncpomacghaaB
import Derived.Test.YtpgdncpomacghaaK
namespace Go.Proofs.Ytpgdncpomacghaa
open Go.RowKit Go.Mx Go.Cnt

def entC (e : Ent) : List Value := [.int .i64 e.kind, .int .i64 e.start, .int .i64 e.count, .int .i64 e.size, .int .u32 e.sum]
def entV (e : Ent) : Value := .agg #[.int .i64 e.kind, .int .i64 e.start, .int .i64 e.count, .int .i64 e.size, .int .u32 e.sum]

/-- a slice of entries -/
def SlE (w : World) (B : Nat) (v : Value) (l : List Ent) : Prop := SlG w B 5 v (l.map entC)

/-- a table's slice of leaves -/
def IsTab (w : World) (B : Nat) (tv : Value) (t : Tab) : Prop :=
  ∃ lvs : List Value, lvs.length = t.length ∧ SlG w B 1 tv (lvs.map fun v => [v]) ∧ ∀ i, i < t.length → SlE w B (lvs.getD i undef) (t.getD i [])

theorem IsTab.below {w w' : World} {B B' : Nat} {v : Value} {t : Tab} (h : IsTab w B v t) (hb : Below B' w w') (hB : B ≤ B') : IsTab w' B v t := by
  obtain ⟨lvs, h1, h2, h3⟩ := h
  exact ⟨lvs, h1, h2.below hb hB, fun i hi => SlG.below (h3 i hi) hb hB⟩
theorem IsTab.mono {w : World} {B B' : Nat} {v : Value} {t : Tab} (h : IsTab w B v t) (hB : B ≤ B') : IsTab w B' v t := by
  obtain ⟨lvs, h1, h2, h3⟩ := h
  exact ⟨lvs, h1, h2.mono hB, fun i hi => SlG.mono (h3 i hi) hB⟩

theorem sizeL (w : World) : (sizeOf 76).run Try.prog w = .ok 1 w := by kernel_rfl
theorem sizeE (w : World) : (sizeOf 39).run Try.prog w = .ok 5 w := by kernel_rfl

theorem IsTab.len {w : World} {B : Nat} {v : Value} {t : Tab} (h : IsTab w B v t) (w' : World) {ty : TypeId} : (Builtin.len_ #[22] ty #[v]).run Try.prog w' = .ok (.int .i64 t.length) w' := by
  obtain ⟨lvs, h1, h2, h3⟩ := h
  have := h2.len (P := Try.prog) (ty := ty) Try.underlying22 w'
  rwa [List.length_map, h1] at this

theorem IsTab.leaf {w : World} {B : Nat} {v : Value} {t : Tab} (h : IsTab w B v t) (i : Nat) (hi : i < t.length) :
    ∃ b o lv, b < B ∧ (∀ w' (k : IntKind), (Instr.indexAt 22 v (.int k (i : Int))).run Try.prog w' = .ok (.pointer (some ⟨b, o, none⟩)) w') ∧ w.cell? ⟨b, o, none⟩ = some lv ∧ SlE w B lv (t.getD i []) := by
  obtain ⟨lvs, h1, h2, h3⟩ := h
  obtain ⟨b, o, hb, hia, hc⟩ := h2.addr (P := Try.prog) Try.underlying22 sizeL i (by simpa [h1] using hi)
  refine ⟨b, o, lvs.getD i undef, hb, hia, ?_, h3 i hi⟩
  refine hc 0 _ ?_
  simp [List.getD_eq_getElem?_getD, List.getElem?_map, List.getElem?_eq_getElem (show i < lvs.length by omega)]

theorem SlE.len {w : World} {B : Nat} {v : Value} {l : List Ent} (h : SlE w B v l) (w' : World) {ty : TypeId} : (Builtin.len_ #[76] ty #[v]).run Try.prog w' = .ok (.int .i64 l.length) w' := by
  have := SlG.len (P := Try.prog) (ty := ty) h Try.underlying76 w'
  rwa [List.length_map] at this

theorem SlE.at {w : World} {B : Nat} {v : Value} {l : List Ent} (h : SlE w B v l) (i : Nat) (hi : i < l.length) :
    ∃ b o, b < B ∧ (∀ w' (k : IntKind), (Instr.indexAt 76 v (.int k (i : Int))).run Try.prog w' = .ok (.pointer (some ⟨b, o, none⟩)) w') ∧
      w.cell? ⟨b, o, none⟩ = some (.int .i64 (l.getD i .zero).kind) ∧ w.cell? ⟨b, o + 1, none⟩ = some (.int .i64 (l.getD i .zero).start) ∧ w.cell? ⟨b, o + 2, none⟩ = some (.int .i64 (l.getD i .zero).count) ∧
      w.cell? ⟨b, o + 3, none⟩ = some (.int .i64 (l.getD i .zero).size) ∧ w.cell? ⟨b, o + 4, none⟩ = some (.int .u32 (l.getD i .zero).sum) := by
  obtain ⟨b, o, hb, hia, hc⟩ := SlG.addr (P := Try.prog) h Try.underlying76 sizeE i (by simpa using hi)
  have e : (l.map entC).getD i [] = entC (l.getD i .zero) := by
    simp [List.getD_eq_getElem?_getD, List.getElem?_map, List.getElem?_eq_getElem hi]
  rw [e] at hc
  exact ⟨b, o, hb, hia, hc 0 _ rfl, hc 1 _ rfl, hc 2 _ rfl, hc 3 _ rfl, hc 4 _ rfl⟩

set_option maxRecDepth 100000 in
set_option maxHeartbeats 1000000 in
theorem get_any (t : Tab) (tv : Value) (i : Nat) (w : World) (ht : IsTab w w.heap.size tv t) (hi : i < t.length * 8) (hl : t.length ≤ 1000000) :
    Calls Try.prog 40 #[.agg #[tv], .int .i64 i] w fun e w' => e = .returned (entV (getM t i)) ∧ Below w.heap.size w w' := by
  have hlen := fun w' => ht.len w' (ty := 3)
  obtain ⟨b, o, lv, hb, hia, hc, hlv⟩ := ht.leaf (i / 8) (by omega)
  have hll := fun w' => hlv.len w' (ty := 3)
  obtain ⟨l, hL⟩ : ∃ l, l = t.getD (i / 8) [] := ⟨_, rfl⟩
  have HG : Hid (getM t i = l.getD (i % 8) .zero) := by unfold Hid getM; rw [hL]
  rw [← hL] at hlv hll
  clear hL
  rw [show ((i / 8 : Nat) : Int) = (i : Int) / 8 by omega] at hia
  have hi1 : 0 ≤ (i : Int) / 8 := by omega
  have hi2 : (i : Int) / 8 < (t.length : Int) := by omega
  have hd1 : decide ((i : Int) < 0) = false := by simp
  have hd2 : decide ((t.length : Int) ≤ (i : Int) / 8) = false := by simp; omega
  by_cases hk : i % 8 < l.length
  · obtain ⟨b2, o2, hb2, hia2, hc0, hc1, hc2, hc3, hc4⟩ := hlv.at (i % 8) hk
    rw [← HG.out] at hc0 hc1 hc2 hc3 hc4
    rw [show ((i % 8 : Nat) : Int) = (i : Int) % 8 by omega] at hia2
    have hd3 : decide ((l.length : Int) ≤ (i : Int) % 8) = false := by simp; omega
    obtain ⟨e, he⟩ : ∃ e, e = getM t i := ⟨_, rfl⟩
    rw [← he] at hc0 hc1 hc2 hc3 hc4 ⊢
    clear HG he
    go_enter Try.func40, Try.ntmps40
    go_wp2_with fail
    exact bodyPost_ret (v := entV e) (by simp [results, Try.results40, entV, go_sem]) rfl ⟨rfl, ((Below.refl _ _).alloc (Nat.le_refl _) _).alloc (by simp) _⟩
  · have hd3 : decide ((l.length : Int) ≤ (i : Int) % 8) = true := by simp; omega
    have HG2 : Hid (getM t i = .zero) := by unfold Hid; rw [HG.out, List.getD_eq_getElem?_getD, List.getElem?_eq_none (by omega)]; rfl
    go_enter Try.func40, Try.ntmps40
    go_wp2_with fail
    exact bodyPost_ret (v := entV (getM t i)) (by rw [HG2.out]; simp [results, Try.results40, entV, Ent.zero, go_sem]) rfl ⟨rfl, ((Below.refl _ _).alloc (Nat.le_refl _) _).alloc (by simp) _⟩
end Go.Proofs.Ytpgdncpomacghaa
