import Derived.Test.YtbklhhmcigangaaL8
import Derived.Test.YtbklhhmcigangaaV2
import Derived.BigQuiet
namespace Go.Proofs.Ytbklhhmcigangaa
open Go.RowKit Go.Mx Go.Lr Go.Maps
set_option linter.unusedVariables false
set_option linter.unusedSimpArgs false
theorem slI_kept {w w' : World} {B : Nat} {v : Value} {l : List Int} (h : SlI w B v l) {N : Nat → Prop} (hk : Kept w w' N) (hB : B ≤ w.heap.size) (hv : ∀ q, v.ownBlock = some q → N q) : SlI w' B v l := by
  obtain ⟨oa, cap, rfl, h1, h2, h3⟩ := h
  refine ⟨oa, cap, rfl, h1, h2, fun hn => ?_⟩
  obtain ⟨bb, bo, rfl, hl, hr⟩ := h3 hn
  refine ⟨bb, bo, rfl, hl, fun i hi j u hj => ?_⟩
  rw [hk.cell (by omega) (hv bb rfl)]
  exact hr i hi j u hj
theorem wiu_ok {n K : Nat} {c : CM} (h : WI n c.uses K c) (hn : n ≤ 1999) (hK : K ≤ 100000) : OkC c where
  is := fun e he y hy => by rw [h.na e he] at hy; cases hy
  sm := fun e he => by rw [h.na e he]; exact Nat.zero_le _
  len := by have := h.len; omega
  ks := fun e he => by have := h.rng e he; unfold isI; omega
theorem size5'' (w : World) : (sizeOf 5).run Try.prog w = .ok 1 w := by kernel_rfl
theorem sl_two (w : World) (x y : UInt8) : SlB (w.alloc (.cells #[.int .u8 x.toNat, .int .u8 y.toNat] 5)) (w.heap.size + 1) (.slice (some ⟨w.heap.size, 0, none⟩) 2 2) [x, y] := sl_lit w [x, y] 5 (by simp [maxLen])
/-- the cache and the list of what was used -/
def RS (w : World) (base p : Nat) (n i : Nat) (uv : Value) (c : CM) (l : List Int) : Prop :=
  ∃ m fs, CK w base p m c fs All ∧ RI n c l ∧ c.uses ≤ i ∧ SlI w w.heap.size uv l ∧ ∀ q, uv.ownBlock = some q → Free p m fs q
theorem RS.below {w w' : World} {base p n i : Nat} {uv : Value} {c : CM} {l : List Int} (h : RS w base p n i uv c l) (hb : Below w.heap.size w w') : RS w' base p n i uv c l := by
  obtain ⟨m, fs, h1, h2, h3, h4, h5⟩ := h
  exact ⟨m, fs, h1.below hb, h2, h3, (h4.below hb (Nat.le_refl _)).mono hb.size, h5⟩
theorem RS.grow {w : World} {base p n i : Nat} {uv : Value} {c : CM} {l : List Int} (h : RS w base p n i uv c l) {j : Nat} (hj : i ≤ j) : RS w base p n j uv c l := by
  obtain ⟨m, fs, h1, h2, h3, h4, h5⟩ := h
  exact ⟨m, fs, h1, h2, by omega, h4, h5⟩
theorem RS.base_le {w : World} {base p n i : Nat} {uv : Value} {c : CM} {l : List Int} (h : RS w base p n i uv c l) : base ≤ w.heap.size := by obtain ⟨m, fs, h1, _⟩ := h; exact h1.base_le
theorem bl_kb {n : Nat} {c : CM} {l : List Int} (h : RI n c l) : ∀ e ∈ c.all, e.pg.b.length ≤ 1000000 := fun e he => by rw [h.bts e he]; simp [kb]
/-- the state between the Get or the Put and the last -/
def RS2 (w : World) (base p : Nat) (n i : Nat) (uv : Value) (c : CM) (k : Int) (l : List Int) : Prop :=
  ∃ m fs, CK w base p m c fs All ∧ RI n c (lastM l k n) ∧ c.uses ≤ i ∧ SlI w w.heap.size uv l ∧ l.length ≤ n
theorem get_R {w : World} {base p n i : Nat} {uv : Value} {c : CM} {l : List Int} (h : RS w base p n i uv c l) (k : Int) (hk : 0 ≤ k ∧ k < 20) (hi : i ≤ 100) : Calls Try.prog 20 #[cp p, .int .i64 k] w fun e w' =>
    Below base w w' ∧ ((k ∉ l ∧ e = .returned (.tuple #[.slice none 0 0, .bool false]) ∧ RS w' base p n i uv c l) ∨ (k ∈ l ∧ ∃ v, e = .returned (.tuple #[v, .bool true]) ∧ (∃ oa nn cc, v = .slice oa nn cc) ∧ RS2 w' base p n (i + 1) uv (getM c k) k l)) := by
  obtain ⟨m, fs, h1, h2, h3, h4, h5⟩ := id h
  refine (get_any h1 k (by unfold isI; omega) (by omega) (bl_kb h2)).mono fun e w' hg => ?_
  rcases hg with ⟨hf, he, hb⟩ | ⟨g, v, fs', w1, hf, he, hc1, hs1, hb1, ho1⟩
  · exact ⟨hb.mono h1.base_le, .inl ⟨h2.none hf, he, h.below hb⟩⟩
  · obtain ⟨hgb, hm⟩ := h2.find hf
    obtain ⟨r1, r2⟩ := h2.get hm
    have hsl : SlI w1 w.heap.size uv l := slI_kept h4 hs1.kept (Nat.le_refl _) h5
    refine ⟨hs1.bel.trans (hb1.mono hc1.base_le), .inr ⟨hm, v, he, slB_shape ho1.slB, m, fs', hc1.below hb1, r1, by omega, ?_, h2.len⟩⟩
    exact (hsl.below hb1 hs1.kept.size).mono (by have := hs1.kept.size; have := hb1.size; omega)
theorem put_R {w : World} {base p n i : Nat} {uv : Value} {c : CM} {l : List Int} (h : RS w base p n i uv c l) (hn : 1 ≤ n ∧ n ≤ 12) (k : Int) (hk : 0 ≤ k ∧ k < 20) (hi : i ≤ 100) (v : Value) (B : Nat) (hb : SlB w B v (kb k)) (hB : B ≤ w.heap.size) (d : Bool) : Calls Try.prog 13 #[cp p, .int .i64 k, v, .bool d] w fun e w' =>
    Below base w w' ∧ ∃ v c', e = .returned v ∧ RS2 w' base p n (i + 1) uv c' k l := by
  obtain ⟨m, fs, h1, h2, h3, h4, h5⟩ := id h
  refine (put_gen h1 (wiu_ok h2.wi (by omega) (by omega)) k (by unfold isI; omega) v (kb k) B hb hB (by simp [kb]) d (by omega) h2.wi.us (by rw [h2.wi.room]; exact h2.wi.len) (by rw [h2.wi.room]; omega)).mono fun e w' ⟨v, out, c', fs', he, hp, hc, hs, ho, hf⟩ => ?_
  obtain ⟨r1, r2⟩ := h2.put hn.1 hk hp
  have hsl : SlI w' w.heap.size uv l := slI_kept h4 hs.kept (Nat.le_refl _) h5
  exact ⟨hs.bel, v, c', he, m, fs', hc, r1, by omega, hsl.mono hs.kept.size, h2.len⟩
theorem last_R {w : World} {base p n i : Nat} {uv : Value} {c : CM} {k : Int} {l : List Int} (h : RS2 w base p n i uv c k l) (hn : 1 ≤ n ∧ n ≤ 12) : Calls Try.prog 22 #[uv, .int .i64 k, .int .i64 n] w fun e w' =>
    Below base w w' ∧ ∃ v, e = .returned v ∧ (∃ oa nn cc, v = .slice oa nn cc) ∧ RS w' base p n i v c (lastM l k n) := by
  obtain ⟨m, fs, h1, h2, h3, h4, h5⟩ := id h
  refine (last_any l uv k n _ w h4 (Nat.le_refl _) (by omega) (by omega)).mono fun e w' ⟨v, he, hs, hq, hb⟩ => ?_
  refine ⟨hb.mono h1.base_le, v, he, ?_, m, fs, h1.below hb, h2, h3, hs, fun q e => h1.free_new (hq q e)⟩
  obtain ⟨oa, c9, rfl, _⟩ := hs; exact ⟨_, _, _, rfl⟩
theorem in_R {w : World} {base p n i : Nat} {uv : Value} {c : CM} {l : List Int} (h : RS w base p n i uv c l) (hn : n ≤ 12) (k : Int) : Calls Try.prog 21 #[uv, .int .i64 k] w fun e w' => e = .returned (.bool (decide (k ∈ l))) ∧ Below w.heap.size w w' := by
  obtain ⟨m, fs, h1, h2, h3, h4, h5⟩ := id h
  exact in_any l uv k _ w h4 (Nat.le_refl _) (by have := h2.len; omega)
theorem in_R2 {w : World} {base p n i : Nat} {uv : Value} {c : CM} {k0 : Int} {l : List Int} (h : RS2 w base p n i uv c k0 l) (hn : n ≤ 12) (k : Int) : Calls Try.prog 21 #[uv, .int .i64 k] w fun e w' => e = .returned (.bool (decide (k ∈ l))) ∧ Below w.heap.size w w' := by
  obtain ⟨m, fs, h1, h2, h3, h4, h5⟩ := id h
  exact in_any l uv k _ w h4 (Nat.le_refl _) (by omega)
theorem RS2.below {w w' : World} {base p n i : Nat} {uv : Value} {c : CM} {k : Int} {l : List Int} (h : RS2 w base p n i uv c k l) (hb : Below w.heap.size w w') : RS2 w' base p n i uv c k l := by
  obtain ⟨m, fs, h1, h2, h3, h4, h5⟩ := h
  exact ⟨m, fs, h1.below hb, h2, h3, (h4.below hb (Nat.le_refl _)).mono hb.size, h5⟩
theorem RS2.base_le {w : World} {base p n i : Nat} {uv : Value} {c : CM} {k : Int} {l : List Int} (h : RS2 w base p n i uv c k l) : base ≤ w.heap.size := by obtain ⟨m, fs, h1, _⟩ := h; exact h1.base_le
/-- the copy's Get -/
theorem copy_R {w : World} {base p n i : Nat} {uv : Value} {c : CM} {l : List Int} (h : RS w base p n i uv c l) (hn : n ≤ 12) (hi : i ≤ 100) : Calls Try.prog 23 #[cp p] w fun e w' =>
    e = .returned (cp (w.heap.size + 1)) ∧ Below w.heap.size w w' ∧ ∀ k, isI k → Calls Try.prog 20 #[cp (w.heap.size + 1), .int .i64 k] w' fun e w'' => Below w.heap.size w' w'' ∧ ((k ∉ l ∧ e = .returned (.tuple #[.slice none 0 0, .bool false])) ∨ (k ∈ l ∧ ∃ v, e = .returned (.tuple #[v, .bool true]) ∧ SlB w'' w''.heap.size v (kb k))) := by
  obtain ⟨m, fs, h1, h2, h3, h4, h5⟩ := id h
  refine (copy_any h1 (by omega) (bl_kb h2) (wiu_ok h2.wi (by omega) (by omega)).sm (by have := h2.wi.len; omega)).mono fun e w' ⟨he, hb, fs2, hc⟩ => ⟨he, hb, fun k hk => ?_⟩
  refine (get_any hc k hk (by omega) (bl_kb h2)).mono fun e w'' hg => ?_
  rcases hg with ⟨hf, he, hb⟩ | ⟨g, v, fs', w1, hf, he, hc1, hs1, hb1, ho1⟩
  · exact ⟨hb.mono hc.base_le, .inl ⟨h2.none hf, he⟩⟩
  · obtain ⟨hgb, hm⟩ := h2.find hf
    rw [hgb] at ho1
    exact ⟨hs1.bel.trans (hb1.mono hc1.base_le), .inr ⟨hm, v, he, ho1.slB⟩⟩
set_option maxRecDepth 100000 in
set_option maxHeartbeats 1000000 in
theorem room_any (n : Int) (bs : List UInt8) (v : Value) (w : World) (hn : 0 ≤ n ∧ n ≤ 255) (hb : SlB w w.heap.size v bs) : Calls Try.prog 7 #[.int .u8 n, v] w fun e w' => e = .returned (.bool true) ∧ Below w.heap.size w w' := by
  obtain ⟨n, rfl⟩ := Int.eq_ofNat_of_zero_le hn.1
  have hn1 : IntKind.i64.wrap (n : Int) = (n : Int) := IntWalk.i64_in _ (by omega)
  obtain ⟨m, hm, hmq⟩ : ∃ k : Nat, k < 12 ∧ ((n : Nat) : Int).tmod 12 = (k : Int) := ⟨n % 12, Nat.mod_lt _ (by omega), by rw [Int.tmod_eq_emod_of_nonneg (by omega)]; rfl⟩
  obtain ⟨R, hR⟩ : ∃ R : Nat, R = m + 1 := ⟨_, rfl⟩
  have hR1 : IntKind.i64.wrap (1 + (m : Int)) = (R : Int) := by rw [IntWalk.i64_in _ (by omega)]; omega
  have hRb : 1 ≤ R ∧ R ≤ 12 := by omega
  have hlen := fun w' => hb.len (P := Try.prog) Try.underlying22 (ty := 3) w'
  obtain ⟨oa, nn, cc, rfl⟩ := slB_shape hb
  have HS := hid hb
  have HR := hid hRb
  clear hb hR hm hn
  go_enter Try.func7, Try.ntmps7
  go_wp2_with fail
  refine (new_any R w (by omega) (by omega)).mono ?_
  rintro e w1 ⟨rfl, hc1, hb1⟩
  have H1 := hid (And.intro hc1 hb1)
  clear hc1 hb1 hRb
  go_wp2_with fail
  refine (num_any 0 _).mono ?_
  rintro e w' ⟨rfl, rfl⟩
  by_cases hL : bs.length ≤ 100
  · have hL1 : ¬ (100 : Int) < (bs.length : Int) := by omega
    have hL2 : ¬ 100 < bs.length := by omega
    go_wp2_with fail
    go_loopw [8, 9] (fun s8 s9 wr => ∃ (i : Nat) (c : CM) (l : List Int), s9 = .int .i64 i ∧ i ≤ bs.length ∧ (∃ oa nn cc, s8 = .slice oa nn cc) ∧ RS wr w.heap.size (w.heap.size + 1) R i s8 c l ∧ Below w.heap.size w wr) (fun _ s9 _ => 200 - (intOf s9).toNat)
    case atStart =>
      exact ⟨0, ⟨R, [], 0⟩, [], rfl, by omega, ⟨_, _, _, rfl⟩, ⟨_, _, H1.out.1, RI.start R, Nat.zero_le _, SlI.nil _ _, fun q e => by cases e⟩, H1.out.2⟩
    case round =>
      obtain ⟨i, c, l, rfl, hi, ⟨ua, un, uc, rfl⟩, hRS, hb⟩ := hrel
      by_cases hlt : i < bs.length
      · obtain ⟨b1, o1, hb1, hi1, g1⟩ := (HS.out.below hb (Nat.le_refl _)).addr (P := Try.prog) Try.underlying22 size5'' i hlt
        obtain ⟨X, hX⟩ : ∃ X : Nat, X = (bs.getD i 0).toNat := ⟨_, rfl⟩
        have hX8 : X < 256 := by rw [hX]; exact UInt8.toNat_lt _
        rw [show Mx.u8 (bs.getD i 0) = .int .u8 (X : Int) by rw [hX]] at g1
        have hXw : IntKind.i64.wrap (X : Int) = (X : Int) := IntWalk.i64_in _ (by omega)
        obtain ⟨K, hK, hKq⟩ : ∃ k : Nat, k < 20 ∧ ((X : Nat) : Int).tmod 20 = (k : Int) := ⟨X % 20, Nat.mod_lt _ (by omega), by rw [Int.tmod_eq_emod_of_nonneg (by omega)]; rfl⟩
        by_cases hg : 200 ≤ X
        · have hg1 : (200 : Int) ≤ (X : Int) := by omega
          have hG := hid (get_R hRS (K : Int) (by omega) (by omega))
          have HO := hid (And.intro hRS (And.intro hb hK))
          clear hX hX8 hRS hb hb1 hK
          go_wp2_with fail
          refine hG.out.mono ?_
          rintro e w2 ⟨hb2, hr⟩
          rcases hr with ⟨hnk, rfl, hr2⟩ | ⟨hkl, v2, rfl, ⟨xa, xn, xc, rfl⟩, hr2⟩
          · have hI := in_R hr2 HR.out.2 (K : Int)
            rw [decide_eq_false hnk] at hI
            have HI := hid hI
            have H2 := hid (And.intro hr2 (HO.out.2.1.trans hb2))
            clear hb2 hr2 hnk hI hG
            go_wp2_with fail
            refine HI.out.mono ?_
            rintro e w3 ⟨rfl, hb3⟩
            have H3 := hid (And.intro (H2.out.1.below hb3) (H2.out.2.trans (hb3.mono H2.out.1.base_le)))
            clear hb3 HI
            go_wp2_with fail
            exact ⟨⟨i + 1, c, l, by go_num, by omega, ⟨_, _, _, rfl⟩, H3.out.1.grow (Nat.le_succ _), H3.out.2⟩, by simp [intOf]; omega⟩
          · have hI := in_R2 hr2 HR.out.2 (K : Int)
            rw [decide_eq_true hkl] at hI
            have HI := hid hI
            have H2 := hid (And.intro hr2 (HO.out.2.1.trans hb2))
            clear hb2 hr2 hkl hI hG
            go_wp2_with fail
            refine HI.out.mono ?_
            rintro e w3 ⟨rfl, hb3⟩
            have hr3 := H2.out.1.below hb3
            have H3 := hid (And.intro hr3 (H2.out.2.trans (hb3.mono H2.out.1.base_le)))
            have HLA := hid (last_R hr3 HR.out)
            clear hb3 HI hr3
            go_wp2_with fail
            refine HLA.out.mono ?_
            rintro e w4 ⟨hb4, v4, rfl, ⟨ya, yn, yc, rfl⟩, hr4⟩
            have H4 := hid (And.intro hr4 (H3.out.2.trans hb4))
            clear hb4 hr4 HLA
            go_wp2_with fail
            exact ⟨⟨i + 1, _, _, by go_num, by omega, ⟨_, _, _, rfl⟩, H4.out.1, H4.out.2⟩, by simp [intOf]; omega⟩
        · have hg1 : ¬ (200 : Int) ≤ (X : Int) := by omega
          obtain ⟨x, hx⟩ : ∃ x : UInt8, x = UInt8.ofNat K := ⟨_, rfl⟩
          have hw8 : IntKind.u8.wrap (K : Int) = (x.toNat : Int) := by
            rw [hx]
            have : (UInt8.ofNat K).toNat = K := by simp; omega
            rw [this]; exact IntWalk.u8_in _ (by omega)
          obtain ⟨D, hD⟩ : ∃ D : Int, ((X : Nat) : Int).tmod 2 = D := ⟨_, rfl⟩
          obtain ⟨M, hM⟩ : ∃ M : Bool, (D == 0) = M := ⟨_, rfl⟩
          have hDw : IntKind.u8.wrap D = D := IntWalk.u8_in _ (by rw [← hD, Int.tmod_eq_emod_of_nonneg (by omega)]; omega)
          have hsl := sl_two wr x 7
          have e7 : (7 : UInt8).toNat = 7 := rfl
          have hbA : Below wr.heap.size wr (wr.alloc (.cells #[.int .u8 x.toNat, .int .u8 7] 5)) := (Below.refl _ _).alloc (Nat.le_refl _) _
          have hsl' : SlB (wr.alloc (.cells #[.int .u8 x.toNat, .int .u8 7] 5)) (wr.heap.size + 1) (.slice (some ⟨wr.heap.size, 0, none⟩) 2 2) (kb (K : Int)) := by
            unfold kb; rw [show ((K : Int)).toNat = K from rfl, ← hx]; exact hsl
          have hP := put_R (hRS.below hbA) HR.out (K : Int) (by omega) (by omega) _ _ hsl' (by rw [World.size_alloc]; exact Nat.le_refl _) M
          have HP := hid hP
          have HO := hid (And.intro hRS (And.intro hb (And.intro hK (hbA.mono hRS.base_le))))
          have g2 : (wr.alloc (.cells #[.int .u8 x.toNat, .int .u8 7] 5)).cell? ⟨b1, o1, none⟩ = some (.int .u8 (X : Int)) := (hbA.cell (p := ⟨b1, o1, none⟩) (by have := hb.size; show b1 < _; omega)).trans g1
          clear hX hX8 hRS hb hb1 hK hx hsl hsl' e7 hbA hP
          go_wp2_with fail
          refine HP.out.mono ?_
          rintro e w3 ⟨hb3, vq, c', rfl, hr3⟩
          have H3 := hid (And.intro hr3 ((HO.out.2.1.trans HO.out.2.2.2).trans hb3))
          have HLA := hid (last_R hr3 HR.out)
          clear hb3 hr3 HP g1 g2
          go_wp2_with fail
          refine HLA.out.mono ?_
          rintro e w4 ⟨hb4, v4, rfl, ⟨ya, yn, yc, rfl⟩, hr4⟩
          have H4 := hid (And.intro hr4 (H3.out.2.trans hb4))
          clear hb4 hr4 HLA
          go_wp2_with fail
          exact ⟨⟨i + 1, _, _, by go_num, by omega, ⟨_, _, _, rfl⟩, H4.out.1, H4.out.2⟩, by simp [intOf]; omega⟩
      · obtain rfl : i = bs.length := by omega
        obtain ⟨wF, hwF⟩ : ∃ x, x = wr := ⟨_, rfl⟩
        subst hwF
        have HF := hid (And.intro hRS hb)
        clear hRS hb hi hlt
        go_wp2_with fail
        go_loopw [13] (fun s13 wr => ∃ i : Nat, s13 = .int .i64 i ∧ i ≤ 20 ∧ Below wF.heap.size wF wr) (fun s13 _ => 20 - (intOf s13).toNat)
        case atStart => exact ⟨0, rfl, by omega, Below.refl _ _⟩
        case round =>
          obtain ⟨K, rfl, hK, hb⟩ := hrel
          by_cases hlt : K < 20
          · have hRS := HF.out.1.below hb
            have HCP := hid (copy_R hRS HR.out.2 hL)
            have HX := hid (And.intro hRS hb)
            obtain ⟨x, hx⟩ : ∃ x : UInt8, x = UInt8.ofNat K := ⟨_, rfl⟩
            have hw8 : IntKind.u8.wrap (K : Int) = (x.toNat : Int) := by
              rw [hx]
              have : (UInt8.ofNat K).toNat = K := by simp; omega
              rw [this]; exact IntWalk.u8_in _ (by omega)
            have HKX := hid hx
            clear hRS hb hK hx
            go_wp2_with fail
            refine HCP.out.mono ?_
            rintro e w2 ⟨rfl, hb2, hget⟩
            have HG := hid (hget (K : Int) (by unfold isI; omega))
            have H2 := hid hb2
            clear hget hb2 HCP
            go_wp2_with fail
            refine HG.out.mono ?_
            rintro e w3 ⟨hb3, hr⟩
            have hb03 := H2.out.trans hb3
            have hRS3 := HX.out.1.below hb03
            have HI := hid (in_R hRS3 HR.out.2 (K : Int))
            rcases hr with ⟨hnk, rfl⟩ | ⟨hkl, v3, rfl, hs3⟩
            · rw [decide_eq_false hnk] at HI
              have H3 := hid (And.intro hRS3 (HX.out.2.trans (hb03.mono HX.out.2.size)))
              clear hb3 hb03 hRS3 hnk HG
              go_wp2_with fail
              refine HI.out.mono ?_
              rintro e w4 ⟨rfl, hb4⟩
              have H4 := hid (H3.out.2.trans (hb4.mono H3.out.2.size))
              clear hb4 HI
              go_wp2_with fail
              exact ⟨⟨K + 1, by go_num, by omega, H4.out⟩, by simp [intOf]; omega⟩
            · rw [decide_eq_true hkl] at HI
              have H3 := hid (And.intro hs3 (HX.out.2.trans (hb03.mono HX.out.2.size)))
              obtain ⟨za, zn, zc, rfl⟩ := slB_shape hs3
              clear hb3 hb03 hRS3 hkl HG hs3
              go_wp2_with fail
              refine HI.out.mono ?_
              rintro e w4 ⟨rfl, hb4⟩
              have hs4 := H3.out.1.below hb4 (Nat.le_refl _)
              have hcv := conv_sl (P := Try.prog) (src := 22) (dst := 9) (e := 5) Try.underlying22 Try.underlying5 Try.underlying9 hs4
              have hsl := sl_two w4 x 7
              have hsl' : SlB (w4.alloc (.cells #[.int .u8 x.toNat, .int .u8 7] 5)) (w4.heap.size + 1) (.slice (some ⟨w4.heap.size, 0, none⟩) 2 2) (kb (K : Int)) := by
                unfold kb; rw [show ((K : Int)).toNat = K from rfl, ← HKX.out]; exact hsl
              have hcv2 := conv_sl (P := Try.prog) (src := 22) (dst := 9) (e := 5) Try.underlying22 Try.underlying5 Try.underlying9 hsl'
              obtain ⟨S, hS⟩ : ∃ S, S = kb (K : Int) := ⟨_, rfl⟩
              rw [← hS] at hcv hcv2
              clear hS
              have H4 := hid (H3.out.2.trans (hb4.mono H3.out.2.size))
              clear hb4 HI hs4 hsl hsl'
              go_wp2_with fail
              exact ⟨⟨K + 1, by go_num, by omega, H4.out.alloc H4.out.size _⟩, by simp [intOf]; omega⟩
          · obtain rfl : K = 20 := by omega
            have HX := hid hb
            clear hb
            go_wp2_with fail
            refine (awake_any _).mono ?_
            rintro e w9 ⟨rfl, hb9⟩
            have HB9 := hid hb9
            clear hb9
            go_wp2_with fail
            go_ret
            have h1 := HF.out.2
            have h2 := HX.out
            have h3 := HB9.out
            exact ⟨rfl, (h1.trans (h2.mono h1.size)).trans (h3.mono (Nat.le_trans h1.size h2.size))⟩
  · have hL1 : (100 : Int) < (bs.length : Int) := by omega
    have hL2 : 100 < bs.length := by omega
    go_wp2_with fail
    refine (num_any 0 _).mono ?_
    rintro e w' ⟨rfl, rfl⟩
    go_wp2_with fail
    refine (awake_any _).mono ?_
    rintro e w9 ⟨rfl, hb9⟩
    have HB9 := hid hb9
    clear hb9
    go_wp2_with fail
    go_ret
    exact ⟨rfl, H1.out.2.trans (HB9.out.mono H1.out.2.size)⟩
end Go.Proofs.Ytbklhhmcigangaa
