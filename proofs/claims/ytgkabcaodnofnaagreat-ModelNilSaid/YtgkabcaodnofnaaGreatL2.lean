import Derived.Test.YtgkabcaodnofnaaGreatI
import Derived.Laws.CopyOwn
set_option linter.unusedSimpArgs false
set_option linter.unusedVariables false
namespace Go.Md
theorem secs_add (f : Nat → Bs) : ∀ (n a m : Nat), secs f a (n + m) = secs f a n ++ secs f (a + n) m
  | 0, a, m => by simp [secs]
  | n + 1, a, m => by
    rw [Nat.succ_add]
    simp only [secs]
    rw [secs_add f n (a + 1) m, List.append_assoc, show a + 1 + n = a + (n + 1) by omega]
theorem secs_len {f : Nat → Bs} (hf : ∀ s, (f s).length = 16) : ∀ (n a : Nat), (secs f a n).length = 16 * n
  | 0, a => by simp [secs]
  | n + 1, a => by simp only [secs, List.length_append, hf, secs_len hf n]; omega
theorem secs_congr {f g : Nat → Bs} : ∀ (n a : Nat), (∀ s, a ≤ s → s < a + n → f s = g s) → secs f a n = secs g a n
  | 0, a, _ => rfl
  | n + 1, a, h => by
    simp only [secs]
    rw [h a (Nat.le_refl _) (by omega), secs_congr n (a + 1) fun s h1 h2 => h s (by omega) (by omega)]
theorem zer_len (n : Nat) : (zer n).length = n := by simp [zer]
theorem zer_add (a b : Nat) : zer a ++ zer b = zer (a + b) := by simp [zer]
theorem zer_drop (a b : Nat) : (zer a).drop b = zer (a - b) := by simp [zer]
theorem secs_zer {f : Nat → Bs} : ∀ (n a : Nat), (∀ s, a ≤ s → s < a + n → f s = zer 16) → secs f a n = zer (16 * n)
  | 0, a, _ => rfl
  | n + 1, a, h => by
    simp only [secs]
    rw [h a (Nat.le_refl _) (by omega), secs_zer n (a + 1) fun s h1 h2 => h s (by omega) (by omega), zer_add]
    congr 1; omega
/-- a run of sectors out of one cluster -/
theorem secs_run {f : Nat → Bs} {b : Bs} : ∀ (n a o : Nat), (∀ j, j < n → f (a + j) = (b.drop ((o + j) * 16)).take 16) → (o + n) * 16 ≤ b.length → secs f a n = (b.drop (o * 16)).take (n * 16)
  | 0, a, o, _, _ => by simp [secs]
  | n + 1, a, o, h, hl => by
    simp only [secs]
    rw [show f a = (b.drop (o * 16)).take 16 from by have := h 0 (by omega); simpa using this]
    rw [secs_run n (a + 1) (o + 1) (fun j hj => by have := h (j + 1) (by omega); rw [show a + 1 + j = a + (j + 1) by omega, show o + 1 + j = o + (j + 1) by omega]; exact this) (by omega)]
    rw [show (o + 1) * 16 = o * 16 + 16 by omega, show (n + 1) * 16 = 16 + n * 16 by omega, List.take_add, List.drop_drop]
theorem secOf_len {S : IL} (hS : ∀ n i, fnd S n = some i → ∃ nc, OwnOk i.cl nc i.own) : ∀ (d : Nat) (n : Bs) (s : Nat), (secOf S d n s).length = 16
  | 0, n, s => by simp [secOf, zer]
  | d + 1, n, s => by
    simp only [secOf]
    cases hf : fnd S n with
    | none => simp [zer]
    | some i =>
      simp only
      split
      · split
        · rename_i b hb
          obtain ⟨nc, ho⟩ := hS n i hf
          have h1 := (ho _ _ hb).2
          have h2 : s % 2 ^ i.cl < 2 ^ i.cl := Nat.mod_lt _ (Nat.two_pow_pos _)
          rw [List.length_take, List.length_drop, h1]
          omega
        · exact secOf_len hS d i.back s
      · simp [zer]
theorem secIn_len {S : IL} (hS : ∀ n i, fnd S n = some i → ∃ nc, OwnOk i.cl nc i.own) (d : Nat) (i : IM) (size : Nat) (own : Nat → Option Bs) (ho : ∃ nc, OwnOk i.cl nc own) (s : Nat) : (secIn S d i size own s).length = 16 := by
  unfold secIn
  split
  · split
    · rename_i b hb
      obtain ⟨nc, ho⟩ := ho
      have h1 := (ho _ _ hb).2
      have h2 : s % 2 ^ i.cl < 2 ^ i.cl := Nat.mod_lt _ (Nat.two_pow_pos _)
      rw [List.length_take, List.length_drop, h1]
      omega
    · exact secOf_len hS d i.back s
  · simp [zer]
theorem div_run {W pos j : Nat} (hW : 0 < W) (h : pos % W + j < W) : (pos + j) / W = pos / W ∧ (pos + j) % W = pos % W + j := by
  have h1 := Nat.div_add_mod pos W
  have h2 : pos + j = (pos % W + j) + W * (pos / W) := by omega
  constructor
  · rw [h2, Nat.add_mul_div_left _ _ hW, Nat.div_eq_of_lt h, Nat.zero_add]
  · rw [h2, Nat.add_mul_mod_self_left, Nat.mod_eq_of_lt h]
/-- a piece within one cluster -/
theorem piece_own {S : IL} {d : Nat} {i : IM} {size : Nat} {own : Nat → Option Bs} {pos k : Nat} {b : Bs} (hb : own (pos / 2 ^ i.cl) = some b) (hl : b.length = 16 * 2 ^ i.cl) (hk : pos % 2 ^ i.cl + k ≤ 2 ^ i.cl) (hs : pos + k ≤ size) :
    secs (secIn S d i size own) pos k = (b.drop (pos % 2 ^ i.cl * 16)).take (k * 16) := by
  have hW := Nat.two_pow_pos i.cl
  refine secs_run k pos _ (fun j hj => ?_) (by omega)
  obtain ⟨h1, h2⟩ := div_run (pos := pos) (j := j) hW (by omega)
  unfold secIn
  rw [if_pos (by omega), h1, hb, h2]
theorem piece_none {S : IL} {d : Nat} {i : IM} {size : Nat} {own : Nat → Option Bs} {pos k : Nat} (hb : own (pos / 2 ^ i.cl) = none) (hk : pos % 2 ^ i.cl + k ≤ 2 ^ i.cl) (hs : pos + k ≤ size) :
    secs (secIn S d i size own) pos k = secs (secOf S d i.back) pos k := by
  have hW := Nat.two_pow_pos i.cl
  refine secs_congr k pos fun s h1 h2 => ?_
  obtain ⟨j, rfl⟩ : ∃ j, s = pos + j := ⟨s - pos, by omega⟩
  obtain ⟨h3, _⟩ := div_run (pos := pos) (j := j) hW (by omega)
  unfold secIn
  rw [if_pos (by omega), h3, hb]
theorem splice_mid {α : Type} (A Z C : List α) (h : C.length ≤ Z.length) : splice (A ++ Z) A.length C = A ++ C ++ Z.drop C.length := by
  unfold splice
  rw [List.take_left, List.drop_append, List.drop_eq_nil_of_le (by omega), List.nil_append]
  simp
end Go.Md
