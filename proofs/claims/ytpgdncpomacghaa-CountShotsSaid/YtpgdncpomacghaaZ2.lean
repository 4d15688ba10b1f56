import Derived.Test.YtpgdncpomacghaaZ
namespace Go.Proofs.Ytpgdncpomacghaa
open Go.RowKit Go.Mx Go.Cnt Go.Shelf

/-- what a call of the main part hands back: a slice of ints, the boxed meta as before, and the frame from w0 on -/
def RetI (w0 : World) (B : Nat) (m : MetaM) (tv sv mv cv : Value) (l : List Int) (e : Ending) (w' : World) : Prop :=
  ∃ v, e = .returned v ∧ SlI w' w'.heap.size v l ∧ Below w0.heap.size w0 w' ∧ Bx w' B m tv sv mv cv ∧
    (w'.cell? ⟨B, 0, none⟩ = some (.int .i64 m.cl) ∧ w'.cell? ⟨B, 1, none⟩ = some (.int .i64 m.sz) ∧ w'.cell? ⟨B, 2, none⟩ = some (.string ⟨m.bk.toArray⟩) ∧ w'.cell? ⟨B, 3, none⟩ = some tv ∧ w'.cell? ⟨B, 4, none⟩ = some sv ∧ w'.cell? ⟨B, 5, none⟩ = some mv ∧ w'.cell? ⟨B, 6, none⟩ = some cv)

theorem Bx.ofB {w0 w : World} {B : Nat} {m : MetaM} {tv sv mv cv : Value} (h : Bx w B m tv sv mv cv) (hm : Main m) (n : Int) (h0 : Below w0.heap.size w0 w) :
    Calls Try.prog 15 #[.agg #[.int .i64 m.cl, .int .i64 m.sz, .string ⟨m.bk.toArray⟩, tv, sv, mv, cv], .int .i64 n] w fun e w' => RetI w0 B m tv sv mv cv (ofM (eachM m.t m.ss) n) e w' ∧ (∀ v l, SlI w w.heap.size v l → SlI w' w'.heap.size v l) := by
  refine (h.of hm n).mono ?_
  rintro e w' ⟨v, rfl, ho, hb⟩
  exact ⟨⟨v, rfl, ho.slI, h0.trans (hb.mono h0.size), h.step hb, (h.step hb).cells⟩, fun v l hv => (hv.below hb (Nat.le_refl _)).mono hb.size⟩
theorem Bx.rOfB {w0 w : World} {B : Nat} {m : MetaM} {tv sv mv cv : Value} (h : Bx w B m tv sv mv cv) (hm : Main m) (n : Int) (h0 : Below w0.heap.size w0 w) :
    Calls Try.prog 16 #[.agg #[.int .i64 m.cl, .int .i64 m.sz, .string ⟨m.bk.toArray⟩, tv, sv, mv, cv], .int .i64 n] w fun e w' => RetI w0 B m tv sv mv cv (ofM (eachM m.t m.ss) n) e w' ∧ (∀ v l, SlI w w.heap.size v l → SlI w' w'.heap.size v l) := by
  refine (h.rOf hm n).mono ?_
  rintro e w' ⟨v, rfl, ho, hb⟩
  exact ⟨⟨v, rfl, ho.slI, h0.trans (hb.mono h0.size), h.step hb, (h.step hb).cells⟩, fun v l hv => (hv.below hb (Nat.le_refl _)).mono hb.size⟩
theorem awakeB {w0 w : World} (h0 : Below w0.heap.size w0 w) : Calls Try.prog 13 #[] w fun e w' => e = .returned (.bool true) ∧ Below w0.heap.size w0 w' := by
  refine (awake_any w).mono ?_
  rintro e w' ⟨rfl, hb⟩
  exact ⟨rfl, h0.trans (hb.mono h0.size)⟩
theorem intsB {w0 w : World} (l : List Int) (av bv : Value) (ha : SlI w w.heap.size av l) (hb : SlI w w.heap.size bv l) (hl : l.length ≤ 1000000000) (h0 : Below w0.heap.size w0 w) :
    Calls Try.prog 14 #[av, bv] w fun e w' => e = .returned (.bool true) ∧ Below w0.heap.size w0 w' := by
  refine (ints_eq l av bv w ha hb hl).mono ?_
  rintro e w' ⟨rfl, hb⟩
  exact ⟨rfl, h0.trans (hb.mono h0.size)⟩

def RetL (w0 : World) (B : Nat) (m : MetaM) (tv sv mv cv : Value) (l : List Lin) (e : Ending) (w' : World) : Prop :=
  ∃ v, e = .returned v ∧ SlL w' w'.heap.size v l ∧ Below w0.heap.size w0 w' ∧ Bx w' B m tv sv mv cv ∧
    (w'.cell? ⟨B, 0, none⟩ = some (.int .i64 m.cl) ∧ w'.cell? ⟨B, 1, none⟩ = some (.int .i64 m.sz) ∧ w'.cell? ⟨B, 2, none⟩ = some (.string ⟨m.bk.toArray⟩) ∧ w'.cell? ⟨B, 3, none⟩ = some tv ∧ w'.cell? ⟨B, 4, none⟩ = some sv ∧ w'.cell? ⟨B, 5, none⟩ = some mv ∧ w'.cell? ⟨B, 6, none⟩ = some cv)
theorem Bx.eachB {w0 w : World} {B : Nat} {m : MetaM} {tv sv mv cv : Value} (h : Bx w B m tv sv mv cv) (hm : Main m) (h0 : Below w0.heap.size w0 w) :
    Calls Try.prog 18 #[.agg #[.int .i64 m.cl, .int .i64 m.sz, .string ⟨m.bk.toArray⟩, tv, sv, mv, cv]] w fun e w' => RetL w0 B m tv sv mv cv (eachM m.t m.ss) e w' ∧ (∀ v l, SlL w w.heap.size v l → SlL w' w'.heap.size v l) ∧ (∀ v l, SlI w w.heap.size v l → SlI w' w'.heap.size v l) := by
  refine (h.each hm).mono ?_
  rintro e w' ⟨v, rfl, ho, hb⟩
  exact ⟨⟨v, rfl, ho.slL, h0.trans (hb.mono h0.size), h.step hb, (h.step hb).cells⟩, fun v l hv => (hv.below hb (Nat.le_refl _)).mono hb.size, fun v l hv => (hv.below hb (Nat.le_refl _)).mono hb.size⟩
theorem Bx.rEachB {w0 w : World} {B : Nat} {m : MetaM} {tv sv mv cv : Value} (h : Bx w B m tv sv mv cv) (hm : Main m) (h0 : Below w0.heap.size w0 w) :
    Calls Try.prog 17 #[.agg #[.int .i64 m.cl, .int .i64 m.sz, .string ⟨m.bk.toArray⟩, tv, sv, mv, cv]] w fun e w' => RetL w0 B m tv sv mv cv (eachM m.t m.ss) e w' ∧ (∀ v l, SlL w w.heap.size v l → SlL w' w'.heap.size v l) := by
  refine (h.rEach hm).mono ?_
  rintro e w' ⟨v, rfl, ho, hb⟩
  exact ⟨⟨v, rfl, ho.slL, h0.trans (hb.mono h0.size), h.step hb, (h.step hb).cells⟩, fun v l hv => (hv.below hb (Nat.le_refl _)).mono hb.size⟩
theorem eachM_len (m : MetaM) (h : SmallP m) : (eachM m.t m.ss).length ≤ 1008000 := by
  have := eachTo_len m.t m.ss 6000 h.1 h.2.2 m.ss.length (Nat.le_refl _)
  have h2 := h.2.1
  have h3 : (m.ss.length + 1) * (6000 * 8) ≤ 21 * (6000 * 8) := Nat.mul_le_mul_right _ (by omega)
  unfold eachM; omega
end Go.Proofs.Ytpgdncpomacghaa
