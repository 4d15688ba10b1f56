import Derived.Test.YtpgdncpomacghaaF
namespace Go.Proofs.Ytpgdncpomacghaa
open Go.RowKit Go.Mx Go.Cnt Go.Shelf

theorem ownsRow_base {W : World} {base base' : Nat} {e : TypeId} {size : Nat} {v : Value} {k : Nat} {xs : List Value} (h : W.ownsRow base e size v k xs) (hb : base' ≤ base) : W.ownsRow base' e size v k xs := by
  refine ⟨h.1, ?_⟩
  rcases h.2 with hn | ⟨g, cap, cur, hv, hbg, rest⟩
  · exact .inl hn
  · exact .inr ⟨g, cap, cur, hv, Nat.le_trans hb hbg, rest⟩

theorem IsTab.shape {w : World} {B : Nat} {v : Value} {t : Tab} (h : IsTab w B v t) : ∃ a n c, v = .slice a n c := by
  obtain ⟨lvs, _, ⟨oa, cap, rfl, _⟩, _⟩ := h
  exact ⟨_, _, _, rfl⟩

set_option maxRecDepth 100000 in
set_option maxHeartbeats 2000000 in
theorem each_any (a0 a1 a2 tv sv mv cv : Value) (t : Tab) (ss : List ShotM) (w : World) (ht : IsTab w w.heap.size tv t) (hs : IsShots w w.heap.size sv ss) (hl : t.length ≤ 1000000) (hls : ∀ i, i < ss.length → (ss.getD i default).t.length ≤ 1000000) (hsl : ss.length ≤ 30) :
    Calls Try.prog 18 #[.agg #[a0, a1, a2, tv, sv, mv, cv]] w fun e w' => ∃ v, e = .returned v ∧ OwnL w' w.heap.size v (eachM t ss) ∧ Below w.heap.size w w' := by
  have hlen := fun w' => hs.len w' (ty := 3)
  have hb1 : Below w.heap.size w (w.alloc (.cells #[a0, a1, a2, tv, sv, mv, cv] 29)) := (Below.refl _ _).alloc (Nat.le_refl _) _
  have hz1 : (w.alloc (.cells #[a0, a1, a2, tv, sv, mv, cv] 29)).heap.size = w.heap.size + 1 := by simp
  have hcol := collect_one (-1) tv t hl (w.alloc (.cells #[a0, a1, a2, tv, sv, mv, cv] 29)) (w.heap.size + 1) (by omega) ((ht.below hb1 (Nat.le_refl _)).mono (by omega))
  simp only [World.size_alloc] at hcol
  have HC := hid hcol
  clear hcol
  have HB1 := hid (And.intro hb1 hz1)
  have HLS := hid hls
  have c4 := World.cell?_alloc_at #[a0, a1, a2, tv, sv, mv, cv] 29 w.heap.size 4 rfl
  have C4 := hid c4
  clear hls hb1 hz1 c4
  go_enter Try.func18, Try.ntmps18
  go_wp2_with fail
  refine (one_any _ _ _).mono ?_
  rintro e w' ⟨rfl, rfl⟩
  go_wp2_with fail
  refine HC.out.mono ?_
  rintro e w2 ⟨v2, rfl, ho2, hb12⟩
  obtain ⟨hb1, hz1⟩ := HB1.out
  have hc4 : w2.cell? ⟨w.heap.size, 4, none⟩ = some sv := (hb12.cell (p := ⟨w.heap.size, 4, none⟩) (by simp)).trans C4.out
  have hz2 := hb12.size
  generalize w.alloc (.cells #[a0, a1, a2, tv, sv, mv, cv] 29) = w1 at *
  clear HC HB1 C4
  go_wp2_with fail
  clear hc4
  go_loopw [3, 13] (fun v i wr => ∃ k : Nat, k ≤ ss.length ∧ i = .int .i64 k ∧ OwnL wr (w.heap.size + 1) v (eachTo t ss k) ∧ Below (w.heap.size + 1) w1 wr)
    (fun _ i _ => ss.length - (intOf i).toNat)
  case atStart => exact ⟨0, by omega, rfl, by rw [eachTo_zero]; exact ho2, hb12⟩
  case round =>
    obtain ⟨k, hk, rfl, ho, hbel⟩ := hrel
    clear ho2 hb12 hlen hz2
    have hz := hbel.size
    by_cases hlt : k < ss.length
    · obtain ⟨b, o, tv', hb, hia, c0, c1, c2, htk⟩ := ((hs.below hb1 (Nat.le_refl _)).below (hbel.mono (by omega)) (Nat.le_refl _)).at k hlt
      obtain ⟨ta, tn, tc, rfl⟩ := htk.shape
      have hlk := HLS.out k hlt
      have hel := eachTo_len t ss 1000000 hl HLS.out k hk
      have HS := hid (eachTo_succ t ss k)
      obtain ⟨s, es⟩ : ∃ s, s = ss.getD k default := ⟨_, rfl⟩
      rw [← es] at c0 c1 htk hlk HS
      clear es
      have happ : OwnL (wr.alloc (.cells #[.string ⟨s.name.toArray⟩, .int .i64 s.size, (.slice ta tn tc)] 53)) (w.heap.size + 1) u3 (eachTo t ss k) := ho.alloc _
      have hbel' : Below (w.heap.size + 1) wr (wr.alloc (.cells #[.string ⟨s.name.toArray⟩, .int .i64 s.size, (.slice ta tn tc)] 53)) := (Below.refl _ _).alloc (by omega) _
      have hap := app_one (w.heap.size + 1) u3 (eachTo t ss k) (k : Int) (.slice ta tn tc) s.t hlk (by omega) _ happ (by simp; omega) ((htk.mono (by omega)).below hbel' (Nat.le_refl _))
      simp only [World.size_alloc] at hap
      have HA := hid hap
      clear hap
      have HB := hid (hbel.trans hbel')
      clear happ hbel' ho htk
      go_wp2_with fail
      refine (one_any _ _ _).mono ?_
      rintro e w' ⟨rfl, rfl⟩
      clear hia c0 c1 c2
      go_wp2_with fail
      refine HA.out.mono ?_
      rintro e w3 ⟨v3, rfl, ho3, hb3⟩
      have hb4 := HB.out.trans hb3
      clear HA HB hb3
      go_wp2
      go_roundw
      case rel => exact ⟨k + 1, by omega, by go_num, by rw [HS.out]; exact ho3, hb4⟩
      case measure => simp [intOf]; omega
    · obtain rfl : k = ss.length := by omega
      go_wp2
      go_ret
      exact ⟨_, rfl, ownsRow_base ho (by omega), hb1.trans (hbel.mono (by omega))⟩
end Go.Proofs.Ytpgdncpomacghaa
