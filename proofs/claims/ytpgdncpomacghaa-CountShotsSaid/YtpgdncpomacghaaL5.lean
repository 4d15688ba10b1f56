import Derived.Test.YtpgdncpomacghaaL2
namespace Go.Cnt
theorem eachTo_congr (t : Tab) (ss ss' : List ShotM) : ∀ k, (∀ i, i < k → ss.getD i default = ss'.getD i default) → eachTo t ss k = eachTo t ss' k
  | 0, _ => by rw [eachTo_zero, eachTo_zero]
  | k + 1, h => by rw [eachTo_succ, eachTo_succ, eachTo_congr t ss ss' k fun i hi => h i (by omega), h k (by omega)]
theorem eachM_snoc (t : Tab) (ss : List ShotM) (s : ShotM) : eachM t (ss ++ [s]) = eachM t ss ++ linesT (ss.length : Int) s.t := by
  unfold eachM
  rw [List.length_append, List.length_singleton, eachTo_succ]
  congr 1
  · refine eachTo_congr t _ _ _ fun i hi => ?_
    simp only [List.getD_eq_getElem?_getD]
    rw [List.getElem?_append_left hi]
  · simp only [List.getD_eq_getElem?_getD]
    rw [List.getElem?_append_right (Nat.le_refl _)]; simp
theorem eachM_none (t : Tab) : eachM t [] = linesT (-1) t := by unfold eachM; exact eachTo_zero t []
theorem linesT_map (a b : Int) (t : Tab) : (linesT a t).map (·.e) = (linesT b t).map (·.e) := by
  unfold linesT linesTo; rw [List.map_map, List.map_map]; rfl
theorem linesT_len2 (a b : Int) (t : Tab) : (linesT a t).length = (linesT b t).length := by
  have := congrArg List.length (linesT_map a b t)
  simpa using this
def covs (ls : List Lin) (i : Nat) : Nat := (ls.filter fun x => cov x.e i).length
theorem covs_map (ls : List Lin) (i : Nat) : covs ls i = ((ls.map (·.e)).filter fun e => cov e i).length := by
  unfold covs; rw [List.filter_map, List.length_map]; rfl
theorem cnt_covs (ls : List Lin) (i : Nat) : cnt ls i = (if i < 2 then 1 else 0) + (covs ls i : Int) := by
  unfold cnt cntK covs; rw [List.take_length]
theorem cnt_more (t : Tab) (ss : List ShotM) (s : ShotM) (hs : s.t = t) (i : Nat) (hi : 2 ≤ i) : cnt (eachM t (ss ++ [s])) i = cnt (eachM t ss) i + cnt (eachM t []) i := by
  rw [eachM_snoc, eachM_none, hs, cnt_covs, cnt_covs, cnt_covs, if_neg (by omega)]
  have h1 : covs (eachM t ss ++ linesT (ss.length : Int) t) i = covs (eachM t ss) i + covs (linesT (ss.length : Int) t) i := by
    unfold covs; rw [List.filter_append, List.length_append]
  have h2 : covs (linesT (ss.length : Int) t) i = covs (linesT (-1) t) i := by
    rw [covs_map, covs_map, linesT_map _ (-1)]
  rw [h1, h2]; omega
theorem len_more (t : Tab) (ss : List ShotM) (s : ShotM) (hs : s.t = t) : (eachM t (ss ++ [s])).length = (eachM t ss).length + (eachM t []).length := by
  rw [eachM_snoc, eachM_none, hs, List.length_append, linesT_len2 _ (-1)]
theorem linesT_sub (a : Int) (t : Tab) (x : Lin) (hx : x ∈ linesT a t) : ∃ y ∈ linesT (-1) t, y.e = x.e := by
  have h1 : x.e ∈ (linesT a t).map (·.e) := List.mem_map.2 ⟨x, hx, rfl⟩
  rw [linesT_map a (-1)] at h1
  exact List.mem_map.1 h1
end Go.Cnt
