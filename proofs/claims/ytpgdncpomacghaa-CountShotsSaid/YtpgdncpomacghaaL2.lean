import Derived.Test.YtpgdncpomacghaaK
namespace Go.Cnt

theorem ofM_nat (ls : List Lin) (n : Nat) (h : n ≤ 65536) : ofM ls (n : Int) = (List.range n).map fun (i : Nat) => cnt ls i := by
  unfold ofM; rw [if_neg (by omega)]; simp
theorem ofM_lenN (ls : List Lin) (n : Nat) (h : n ≤ 65536) : (ofM ls (n : Int)).length = n := by rw [ofM_nat ls n h]; simp
theorem ofM_at (ls : List Lin) (n : Nat) (h : n ≤ 65536) (i : Nat) (hi : i < n) : (ofM ls (n : Int)).getD i 0 = cnt ls i := by
  rw [ofM_nat ls n h]; simp [List.getD_eq_getElem?_getD, hi]
theorem ofM_take (ls : List Lin) (n N : Nat) (h1 : n ≤ N) (h2 : N ≤ 65536) : (ofM ls (N : Int)).take n = ofM ls (n : Int) := by
  rw [ofM_nat ls N h2, ofM_nat ls n (by omega), ← List.map_take, List.take_range, Nat.min_eq_left h1]

def Goods (ls : List Lin) : Prop := ∀ i, i < ls.length → GoodE (ls.getD i default).e

theorem cntK_low (ls : List Lin) (h : Goods ls) (i : Nat) (hi : i < 2) : ∀ k, k ≤ ls.length → cntK ls k i = 1
  | 0, _ => by rw [cntK_zero, if_pos hi]
  | k + 1, hk => by
    rw [cntK_succ ls k i (by omega), cntK_low ls h i hi k (by omega), if_neg]
    · rfl
    · rw [cov_iff]; have := (h k (by omega)).1; omega
theorem cnt_low (ls : List Lin) (h : Goods ls) (i : Nat) (hi : i < 2) : cnt ls i = 1 := cntK_low ls h i hi _ (Nat.le_refl _)

def sumTo (f : Nat → Int) : Nat → Int
  | 0 => 0
  | n + 1 => sumTo f n + f n
theorem sumTo_succ (f : Nat → Int) (n : Nat) : sumTo f (n + 1) = sumTo f n + f n := rfl
theorem sumTo_congr (f g : Nat → Int) : ∀ n, (∀ i, i < n → f i = g i) → sumTo f n = sumTo g n
  | 0, _ => rfl
  | n + 1, h => by rw [sumTo_succ, sumTo_succ, sumTo_congr f g n (fun i hi => h i (by omega)), h n (by omega)]
theorem sumTo_add (f g : Nat → Int) : ∀ n, sumTo (fun i => f i + g i) n = sumTo f n + sumTo g n
  | 0 => rfl
  | n + 1 => by simp only [sumTo_succ]; rw [sumTo_add f g n]; omega
theorem sumTo_ind (s c : Nat) : ∀ n, sumTo (fun i => if s ≤ i ∧ i < s + c then 1 else 0) n = if n ≤ s then 0 else if n ≤ s + c then (n : Int) - s else c
  | 0 => by simp [sumTo]
  | n + 1 => by
    rw [sumTo_succ, sumTo_ind s c n]
    repeat' split
    all_goals omega
theorem sumTo_bd (f : Nat → Int) (M : Nat) : ∀ n, (∀ i, i < n → 0 ≤ f i ∧ f i ≤ M) → 0 ≤ sumTo f n ∧ sumTo f n ≤ (n * M : Nat)
  | 0, _ => by simp [sumTo]
  | n + 1, h => by
    have h1 := sumTo_bd f M n (fun i hi => h i (by omega))
    have h2 := h n (by omega)
    rw [sumTo_succ, Nat.succ_mul]
    omega

theorem sum_cov (e : Ent) (h : GoodE e) : sumTo (fun i => if cov e i = true then 1 else 0) 65536 = e.count := by
  obtain ⟨h1, h2, h3⟩ := h
  obtain ⟨s, hs⟩ := Int.eq_ofNat_of_zero_le (show 0 ≤ e.start by omega)
  obtain ⟨c, hc⟩ := Int.eq_ofNat_of_zero_le (show 0 ≤ e.count by omega)
  rw [sumTo_congr _ (fun i => if s ≤ i ∧ i < s + c then 1 else 0) 65536 (fun i _ => by simp only [cov_nat e s c i hs hc]), sumTo_ind]
  rw [hs, hc] at h3
  rw [hs] at h1
  rw [hc] at h2 ⊢
  repeat' split
  all_goals omega

def cntOf (ls : List Lin) (j : Nat) : Int := (ls.getD j default).e.count
theorem sum_cntK (ls : List Lin) (h : Goods ls) : ∀ k, k ≤ ls.length → sumTo (fun i => cntK ls k i) 65536 = 2 + sumTo (cntOf ls) k
  | 0, _ => by
    rw [sumTo_congr _ (fun i => if 0 ≤ i ∧ i < 0 + 2 then 1 else 0) 65536 (fun i _ => by rw [cntK_zero]; simp), sumTo_ind]
    simp [sumTo]
  | k + 1, hk => by
    have e : (fun i => cntK ls (k + 1) i) = fun i => cntK ls k i + (if cov (ls.getD k default).e i = true then 1 else 0) := by
      funext i; exact cntK_succ ls k i (by omega)
    rw [e, sumTo_add (fun i => cntK ls k i) (fun i => if cov (ls.getD k default).e i = true then 1 else 0), sum_cntK ls h k (by omega), sum_cov _ (h k (by omega)), sumTo_succ]
    unfold cntOf; omega
theorem sum_cnt (ls : List Lin) (h : Goods ls) : sumTo (fun i => cnt ls i) 65536 = 2 + sumTo (cntOf ls) ls.length := sum_cntK ls h _ (Nat.le_refl _)
theorem sum_cnt_bd (ls : List Lin) (n : Nat) : 0 ≤ sumTo (fun i => cnt ls i) n ∧ sumTo (fun i => cnt ls i) n ≤ (n * (1 + ls.length) : Nat) :=
  sumTo_bd _ _ n (fun i _ => by have := cntK_bd ls ls.length i; unfold cnt; omega)
theorem sum_cntOf_bd (ls : List Lin) (h : Goods ls) (n : Nat) (hn : n ≤ ls.length) : 0 ≤ sumTo (cntOf ls) n ∧ sumTo (cntOf ls) n ≤ (n * 65536 : Nat) :=
  sumTo_bd _ _ n (fun i hi => by have := h i (by omega); unfold GoodE at this; unfold cntOf; omega)
end Go.Cnt
