import Derived.Test.YtmcllcepoiakeaaGreatKA
import Derived.Test.YtmcllcepoiakeaaGreatKE
import Derived.Deep.RegionHeld
import Derived.Deep.Cut
import Derived.Deep.CutRange
import Derived.Deep.DeepCutAuto
set_option linter.unusedSimpArgs false
set_option linter.unusedVariables false
namespace Go.Proofs.YtmcllcepoiakeaaGreat
open Go.RowKit Go.Mx Go.Proofs.YtmcllcepoiakeaaGreat.Dx Go.Dk
/-- Save's own variables -/
structure Sv (base p m b : Nat) (nm bk : List UInt8) (w W : World) : Prop where
  h5 : W.heap[b]? = some (.cells #[dp p] 22 (0, 0))
  h6 : W.heap[b + 1]? = some (.cells #[nmv nm] 9 (0, 0))
  h7 : W.heap[b + 1 + 1]? = some (.cells #[.int .i64 0, .int .i64 4, nmv bk, nilS, nilS, nilS, nilS] 95 (0, 0))
  h8 : W.heap[b + 1 + 1 + 1]? = some (.cells #[.int .i64 0, .int .i64 0, .int .i64 0, .int .u32 0] 124 (0, 0))
  h10 : W.heap[b + 1 + 1 + 1 + 1]? = some (.cells #[.int .i64 0, .int .i64 0, .int .i64 0, .int .u32 0] 124 (0, 0))
  fr : Fr base m w W
  mp : ∃ es c, W.heap[m]? = some (.map es c)
  hb : base ≤ b ∧ w.heap.size = b ∧ m < b
section
variable {base p m b : Nat} {nm bk : List UInt8} {w W W' : World}
theorem Sv.keep (h : Sv base p m b nm bk w W) {o : Option Nat} (hk : KeptO m o W W') (ho : ∀ k, o = some k → b + 5 ≤ k) (hbl : Below base W W') (hm : ∃ es c, W'.heap[m]? = some (.map es c)) : Sv base p m b nm bk w W' :=
  have key : ∀ {k : Nat} {c : Array Value} {t : TypeId}, W.heap[k]? = some (.cells c t (0, 0)) → k < b + 5 → (t ≠ 64 ∧ t ≠ 68 ∧ t ≠ 131 ∧ t ≠ 280) → W'.heap[k]? = some (.cells c t (0, 0)) := fun {k c t} hc hb ht => hk.cells hc (not_map h.mp hc) ht fun e => by have := ho _ e; omega
  ⟨key h.h5 (by omega) (by decide), key h.h6 (by omega) (by decide), key h.h7 (by omega) (by decide), key h.h8 (by omega) (by decide), key h.h10 (by omega) (by decide),
   ⟨h.fr.bel.trans hbl, ⟨Nat.le_trans h.fr.size hk.size, fun k hk' hF => (Kept.block hk k (Nat.lt_of_lt_of_le hk' h.fr.size) ⟨⟨hF.1, fun c t fr e => hF.2 c t fr ((h.fr.kept.block k hk' hF).symm.trans e)⟩, fun e => by have := ho _ e; have := h.hb.2.1; omega⟩).trans (h.fr.kept.block k hk' hF)⟩⟩, hm, h.hb⟩
theorem Sv.bel (h : Sv base p m b nm bk w W) (hb : Below (b + 5) W W') : Sv base p m b nm bk w W' := by
  obtain ⟨es, c, hm⟩ := h.mp
  have h3 := h.hb
  exact ⟨(hb.block _ (by omega)).trans h.h5, (hb.block _ (by omega)).trans h.h6, (hb.block _ (by omega)).trans h.h7, (hb.block _ (by omega)).trans h.h8, (hb.block _ (by omega)).trans h.h10,
    ⟨h.fr.bel.trans (hb.mono (by omega)), ⟨Nat.le_trans h.fr.size hb.size, fun k hk hF => (hb.block k (by omega)).trans (h.fr.kept.block k hk hF)⟩⟩, ⟨es, c, (hb.block m (by omega)).trans hm⟩, h.hb⟩
theorem Sv.size (h : Sv base p m b nm bk w W) : b + 5 ≤ W.heap.size := by have := blk_lt h.h10; omega
theorem Sv.below (h : Sv base p m b nm bk w W) (hb : Below W.heap.size W W') : Sv base p m b nm bk w W' := h.bel (hb.mono h.size)
end
theorem Sv.start {base p m : Nat} {nm bk : List UInt8} (w : World) (hb : base ≤ w.heap.size) (hm : ∃ es c, w.heap[m]? = some (.map es c)) :
    Sv base p m w.heap.size nm bk w (((((w.alloc (.cells #[dp p] 22)).alloc (.cells #[nmv nm] 9)).alloc (.cells #[.int .i64 0, .int .i64 4, nmv bk, nilS, nilS, nilS, nilS] 95)).alloc (.cells #[.int .i64 0, .int .i64 0, .int .i64 0, .int .u32 0] 124)).alloc (.cells #[.int .i64 0, .int .i64 0, .int .i64 0, .int .u32 0] 124)) ∧
    Below w.heap.size w (((((w.alloc (.cells #[dp p] 22)).alloc (.cells #[nmv nm] 9)).alloc (.cells #[.int .i64 0, .int .i64 4, nmv bk, nilS, nilS, nilS, nilS] 95)).alloc (.cells #[.int .i64 0, .int .i64 0, .int .i64 0, .int .u32 0] 124)).alloc (.cells #[.int .i64 0, .int .i64 0, .int .i64 0, .int .u32 0] 124)) := by
  obtain ⟨es, c, hm⟩ := hm
  have hbel : Below w.heap.size w (((((w.alloc (.cells #[dp p] 22)).alloc (.cells #[nmv nm] 9)).alloc (.cells #[.int .i64 0, .int .i64 4, nmv bk, nilS, nilS, nilS, nilS] 95)).alloc (.cells #[.int .i64 0, .int .i64 0, .int .i64 0, .int .u32 0] 124)).alloc (.cells #[.int .i64 0, .int .i64 0, .int .i64 0, .int .u32 0] 124)) := (bel4 w _ _ _ _).alloc (by simp; omega) _
  refine ⟨⟨?_, ?_, ?_, ?_, ?_, Fr.of_below hbel hb, ⟨es, c, (hbel.block m (by have := (Array.getElem?_eq_some_iff.1 hm).1; exact this)).trans hm⟩, hb, rfl, (Array.getElem?_eq_some_iff.1 hm).1⟩, hbel⟩
  · exact (alloc_old (by simp only [World.size_alloc]; omega)).trans ((alloc_old (by simp only [World.size_alloc]; omega)).trans ((alloc_old (by simp only [World.size_alloc]; omega)).trans ((alloc_old (by simp only [World.size_alloc]; omega)).trans (alloc_new w _))))
  · exact (alloc_old (by simp only [World.size_alloc]; omega)).trans ((alloc_old (by simp only [World.size_alloc]; omega)).trans ((alloc_old (by simp only [World.size_alloc]; omega)).trans (new2_1 w _ _)))
  · exact (alloc_old (by simp only [World.size_alloc]; omega)).trans ((alloc_old (by simp only [World.size_alloc]; omega)).trans (by have := alloc_new ((w.alloc (.cells #[dp p] 22)).alloc (.cells #[nmv nm] 9)) (.cells #[.int .i64 0, .int .i64 4, nmv bk, nilS, nilS, nilS, nilS] 95); rwa [World.size_alloc, World.size_alloc] at this))
  · exact (alloc_old (by simp only [World.size_alloc]; omega)).trans (by have := alloc_new (((w.alloc (.cells #[dp p] 22)).alloc (.cells #[nmv nm] 9)).alloc (.cells #[.int .i64 0, .int .i64 4, nmv bk, nilS, nilS, nilS, nilS] 95)) (.cells #[.int .i64 0, .int .i64 0, .int .i64 0, .int .u32 0] 124); rwa [World.size_alloc, World.size_alloc, World.size_alloc] at this)
  · have := alloc_new ((((w.alloc (.cells #[dp p] 22)).alloc (.cells #[nmv nm] 9)).alloc (.cells #[.int .i64 0, .int .i64 4, nmv bk, nilS, nilS, nilS, nilS] 95)).alloc (.cells #[.int .i64 0, .int .i64 0, .int .i64 0, .int .u32 0] 124)) (.cells #[.int .i64 0, .int .i64 0, .int .i64 0, .int .u32 0] 124); rwa [World.size_alloc, World.size_alloc, World.size_alloc, World.size_alloc] at this
/-- blocks that no disk may have, and no bytes -/
def Blks (l : List (Nat × Array Value × TypeId)) (W : World) : Prop := ∀ x ∈ l, W.heap[x.1]? = some (.cells x.2.1 x.2.2 (0, 0)) ∧ (x.2.2 ≠ 64 ∧ x.2.2 ≠ 68 ∧ x.2.2 ≠ 131 ∧ x.2.2 ≠ 280) ∧ x.2.2 ≠ 5
theorem Blks.head {k : Nat} {c : Array Value} {t : TypeId} {l : List (Nat × Array Value × TypeId)} {W : World} (h : Blks ((k, c, t) :: l) W) : W.heap[k]? = some (.cells c t (0, 0)) := (h _ (.head _)).1
theorem Blks.tail {x : Nat × Array Value × TypeId} {l : List (Nat × Array Value × TypeId)} {W : World} (h : Blks (x :: l) W) : Blks l W := fun y hy => h y (.tail _ hy)
theorem Blks.below {l : List (Nat × Array Value × TypeId)} {W W' : World} (h : Blks l W) (hb : Below W.heap.size W W') : Blks l W' := fun x hx => ⟨(hb.block _ (blk_lt (h x hx).1)).trans (h x hx).1, (h x hx).2⟩
theorem Blks.keep {l : List (Nat × Array Value × TypeId)} {W W' : World} {m : Nat} {o : Option Nat} (h : Blks l W) (hk : KeptO m o W W') (hm : ∃ es c, W.heap[m]? = some (.map es c)) (ho : ∀ k, o = some k → ∃ c fr, W.heap[k]? = some (.cells c 5 fr)) : Blks l W' := fun x hx => by
  obtain ⟨h1, h2, h3⟩ := h x hx
  refine ⟨hk.cells h1 (not_map hm h1) h2 fun e => ?_, h2, h3⟩
  obtain ⟨c, fr, h4⟩ := ho _ e
  exact blk_ne h1 h4 h3 rfl
theorem Blks.fr {l : List (Nat × Array Value × TypeId)} {W W' : World} {base m : Nat} (h : Blks l W) (hf : Fr base m W W') (hm : ∃ es c, W.heap[m]? = some (.map es c)) : Blks l W' := h.keep (hf.keptO none) hm fun k e => by cases e
theorem Sv.endF {base p m b : Nat} {nm bk : List UInt8} {w W : World} (h : Sv base p m b nm bk w W) (l : List Value) : Fr base m w (stL W (b + 1 + 1 + 1 + 1) 0 l) ∧ ∀ {room L : Nat} {fl : FL}, HG W base p m room fl L → HG (stL W (b + 1 + 1 + 1 + 1) 0 l) base p m room fl L := by
  have h3 := h.hb
  have hk : ∀ (l : List Value) (i : Nat) (W : World), Kept W (stL W (b + 1 + 1 + 1 + 1) i l) (fun k => k ≠ b + 1 + 1 + 1 + 1) := by
    intro l
    induction l with
    | nil => intro i W; exact ⟨Nat.le_refl _, fun _ _ _ => rfl⟩
    | cons v l ih => intro i W; exact (Kept.set W (b + 1 + 1 + 1 + 1) i v fun hn => hn rfl).trans (ih (i + 1) _)
  refine ⟨⟨stL_below (by omega) l W w 0 h.fr.bel, ⟨Nat.le_trans h.fr.size (by rw [stL_size]; exact Nat.le_refl _), fun k hk' hF => ((hk l 0 W).block k (Nat.lt_of_lt_of_le hk' h.fr.size) (by omega)).trans (h.fr.kept.block k hk' hF)⟩⟩, fun hd => hd.kept (hk l 0 W) fun k hF e => hF ?_⟩
  subst e
  exact ⟨not_map h.mp h.h10, fun c t fr e => by rw [h.h10] at e; cases e; exact ⟨by decide, by decide, by decide, by decide⟩⟩
/-- the counts while the kept ones are put to them -/
def uK (k : Nat) : List Int := (List.range 65536).map fun (i : Nat) => if i < 2 then (if i < k then 2 else 1) else 0
theorem sum_set_le : ∀ (l : FL) (i : Nat) (x : List UInt8 × Nat), ((l.set i x).map (·.2)).sum ≤ (l.map (·.2)).sum + x.2
  | [], i, x => by simp
  | y :: l, 0, x => by simp; omega
  | y :: l, i + 1, x => by have := sum_set_le l i x; simp at this ⊢; omega
theorem uK_len (k : Nat) : (uK k).length = 65536 := by simp [uK]
theorem uK_zero : uK 0 = c2 65536 := by unfold uK c2; apply List.map_congr_left; intro i _; simp
theorem uK_end (k : Nat) (h : 2 ≤ k) : uK k = u2 := by
  unfold uK u2; apply List.map_congr_left; intro i _
  by_cases hi : i < 2
  · rw [if_pos hi, if_pos hi, if_pos (by omega)]
  · rw [if_neg hi, if_neg hi]
theorem uK_at (k i : Nat) (hi : i < 65536) : (uK k).getD i 0 = if i < 2 then (if i < k then 2 else 1) else 0 := by
  unfold uK; rw [List.getD_eq_getElem?_getD, List.getElem?_map, List.getElem?_range hi]; rfl
theorem c2_at (n i : Nat) (hi : i < n) : (c2 n).getD i 0 = if i < 2 then 1 else 0 := by
  unfold c2; rw [List.getD_eq_getElem?_getD, List.getElem?_map, List.getElem?_range hi]; rfl
theorem uK_step (k : Nat) (h : k < 2) : (uK k).set k 2 = uK (k + 1) := by
  unfold uK
  apply List.ext_getElem?
  intro i
  rw [List.getElem?_set]
  by_cases e : k = i
  · subst e
    rw [if_pos rfl, if_pos (by simp; omega), List.getElem?_map, List.getElem?_range (by omega)]
    simp [h]
  · rw [if_neg e]
    by_cases hi : i < 65536
    · rw [List.getElem?_map, List.getElem?_range hi, List.getElem?_map, List.getElem?_range hi]
      simp only [Option.map_some]
      have : (i < k) ↔ (i < k + 1) := by omega
      simp only [this]
    · rw [List.getElem?_eq_none (by simp; omega), List.getElem?_eq_none (by simp; omega)]
theorem ownI_shape {w : World} {b : Nat} {v : Value} {l : List Int} (h : OwnI w b v l) (hl : l ≠ []) : ∃ g c, v = .slice (some ⟨g, 0, none⟩) l.length c ∧ b ≤ g ∧ l.length ≤ c ∧ c ≤ maxLen := by
  rcases h.2 with ⟨rfl, h0⟩ | ⟨g, cap, cur, rfl, hbg, hgg, h1, h2, rest⟩
  · rw [List.length_map] at h0; exact absurd (List.eq_nil_of_length_eq_zero h0) hl
  · rw [List.length_map] at *; exact ⟨g, cap, rfl, hbg, h1, h2⟩
set_option maxRecDepth 100000 in
set_option maxHeartbeats 4000000 in
theorem save_any (base p m room L i : Nat) (fl : FL) (nm bk : List UInt8) (hnl : nm.length ≤ 16) (hbk : BkOk bk) (kv : Value) (w : World) (hd : HG w base p m room fl L) (hi : fl[i]? = some (nm, 0)) (hkv : SlI w w.heap.size kv (c2 65536))
    (hur : (fl.map (·.2)).sum + 4 ≤ room) (hroom : room ≤ 1048576) (hL : L ≤ 90000) :
    Calls Tryz.prog 63 #[dp p, nmv nm, emv bk nilS, slotV 0 0 0 0, kv] w fun e w' => ∃ cnt sum : Nat, e = .returned (.tuple #[slotV 1 2 cnt sum, .int .i64 0]) ∧ cnt = 21 + bk.length ∧ sum < 4294967296 ∧ HG w' base p m room (fl.set i (nm, 4)) (L + 3) ∧ Fr base m w w' := by
  obtain ⟨hS0, hB0⟩ := Sv.start (p := p) (nm := nm) (bk := bk) w hd.base_le hd.facts.2.1
  have hln := fun ty => SlI.len (P := Tryz.prog) (ty := ty) hkv Tryz.underlying93
  obtain ⟨ka, kn, kc, rfl⟩ := slG_sh hkv
  rw [c2_len] at hln
  have H := hid (And.intro hd (And.intro hi (And.intro hkv hbk)))
  clear hd hi hkv hbk
  go_enter Tryz.func63, Tryz.ntmps63
  go_wp2_with fail
  generalize ((((w.alloc (.cells #[dp p] 22)).alloc (.cells #[nmv nm] 9)).alloc (.cells #[.int .i64 0, .int .i64 4, nmv bk, nilS, nilS, nilS, nilS] 95)).alloc (.cells #[.int .i64 0, .int .i64 0, .int .i64 0, .int .u32 0] 124)).alloc (.cells #[.int .i64 0, .int .i64 0, .int .i64 0, .int .u32 0] 124) = w0 at *
  refine (read0_G (H.out.1.below hB0) H.out.2.1 (by unfold maxLen; omega)).mono ?_
  rintro e w1 ⟨rv, rfl, ho, hb⟩
  have hS1 := hS0.below hb
  have hB1 := belT hB0 hb
  have HD1 := hid (And.intro hS1 (And.intro hB1 (H.out.1.below hB1)))
  obtain ⟨ra, rn, rc, rfl⟩ := slB_shape ho.slB
  clear ho hb hS0 hB0 hS1 hB1
  have hs6 : w1.setCell ⟨w.heap.size + 1 + 1, 6, none⟩ nilS = w1 := setCell_self (cell_of HD1.out.1.h7 6)
  have f7 := fz_of HD1.out.1.h7 6
  have c5 := cell_of HD1.out.1.h5 0
  have c6 := cell_of HD1.out.1.h6 0
  have c7 := fun i => cell_of HD1.out.1.h7 i
  go_wp2_with fail
  refine (right_em bk H.out.2.2.2 nilS [] w1 (SlI.nil _ _) (by simp) (by simp)).mono ?_
  rintro e w2 ⟨rfl, hb⟩
  have HD2 := hid (And.intro (HD1.out.1.below hb) (And.intro (belT HD1.out.2.1 hb) (HD1.out.2.2.below hb)))
  clear hb c5 c6 c7 f7 hs6
  have c5 := cell_of HD2.out.1.h5 0
  have c6 := cell_of HD2.out.1.h6 0
  have c7 := fun i => cell_of HD2.out.1.h7 i
  have c8 := fun i => cell_of HD2.out.1.h8 i
  go_wp2_with fail
  refine (size_G HD2.out.2.2 H.out.2.1 (by unfold maxLen; omega)).mono ?_
  rintro e w3 ⟨rfl, rfl⟩
  go_wp2_with fail
  refine (slots_any base p m room L i fl nm hnl w2 HD2.out.2.2 H.out.2.1).mono ?_
  rintro e w3 ⟨rfl, hb⟩
  have HD3 := hid (And.intro (HD2.out.1.below hb) (And.intro (belT HD2.out.2.1 hb) (HD2.out.2.2.below hb)))
  clear hb c5 c6 c7 c8
  have c5 := cell_of HD3.out.1.h5 0
  have c6 := cell_of HD3.out.1.h6 0
  have c7 := fun i => cell_of HD3.out.1.h7 i
  have c8 := fun i => cell_of HD3.out.1.h8 i
  go_wp2_with fail
  refine (of_em bk nilS 65536 (by omega) w3).mono ?_
  rintro e w4 ⟨uv, rfl, hu, hb⟩
  have HD4 := hid (And.intro (HD3.out.1.below hb) (And.intro (belT HD3.out.2.1 hb) (HD3.out.2.2.below hb)))
  clear hb c5 c6 c7 c8
  obtain ⟨g, uc, rfl, hg3, hgc, hgm⟩ := ownI_shape hu (by intro e; have := c2_len 65536; rw [e] at this; cases this)
  rw [c2_len] at hgc
  simp only [c2_len]
  rw [c2_len] at hu
  have hg5 : w.heap.size + 5 ≤ g := by have := HD3.out.1.size; omega
  have HG0 := hid (And.intro hg3 (And.intro hgc hgm))
  have hu0 : OwnI w4 w3.heap.size (.slice (some ⟨g, 0, none⟩) 65536 uc) (uK 0) := by rw [uK_zero]; exact hu
  clear hu hg3 hgc hgm
  obtain ⟨N, hN⟩ : ∃ N, N = 65536 := ⟨_, rfl⟩
  rw [← hN] at hu0 hln ⊢
  have hN2 : N ≤ 1000000 := by omega
  have HN := hid hN
  have HU := hid hu0
  clear hu0 hN
  go_wp2_with fail
  go_loopw [92] (fun s92 wr => ∃ k : Nat, k ≤ N ∧ s92 = .int .i64 k ∧ Hid (OwnI wr w3.heap.size (.slice (some ⟨g, 0, none⟩) N uc) (uK k) ∧ Below (w.heap.size + 5) w4 wr)) (fun s92 _ => N - (intOf s92).toNat)
  case atStart => exact ⟨0, by omega, rfl, hid ⟨HU.out, Below.refl _ _⟩⟩
  case round =>
    obtain ⟨k, hk, rfl, hK⟩ := hrel
    by_cases hlt : k < N
    · have hbw := HD4.out.2.1.trans (hK.out.2.mono (by omega))
      obtain ⟨b0, o0, hb0, hi0, hc0⟩ := (H.out.2.2.1.below hbw (Nat.le_refl _)).addr (P := Tryz.prog) Tryz.underlying93 size3 k (by rw [c2_len, ← HN.out]; exact hlt)
      rw [c2_at _ _ (by rw [← HN.out]; exact hlt)] at hc0
      by_cases h2 : k < 2
      · rw [if_pos h2] at hc0
        have hc1 := hK.out.1.at k (by rw [uK_len, ← HN.out]; exact hlt)
        rw [uK_at k k (by rw [← HN.out]; exact hlt), if_pos h2, if_neg (by omega)] at hc1
        have hset := hK.out.1.set k 2 (by rw [uK_len, ← HN.out]; exact hlt)
        rw [uK_step k h2] at hset
        have hfz := OwnV.fz hK.out.1 k
        have HS := hid (And.intro hset (hK.out.2.setCell (p := ⟨g, k, none⟩) hg5 (.int .i64 2)))
        clear hset hb0 hbw h2
        go_wp2
        go_roundw
        case rel => exact ⟨k + 1, by omega, by go_num, HS⟩
        case measure => simp [intOf]; omega
      · rw [if_neg h2] at hc0
        have HS : Hid (OwnI wr w3.heap.size (.slice (some ⟨g, 0, none⟩) N uc) (uK (k + 1)) ∧ Below (w.heap.size + 5) w4 wr) := hid ⟨by rw [uK_end (k + 1) (by omega), ← uK_end k (by omega)]; exact hK.out.1, hK.out.2⟩
        clear hb0 hbw h2
        go_wp2
        go_roundw
        case rel => exact ⟨k + 1, by omega, by go_num, HS⟩
        case measure => simp [intOf]; omega
    · obtain rfl : k = N := by omega
      have HK := hid (show OwnI wr w3.heap.size (.slice (some ⟨g, 0, none⟩) k uc) u2 by rw [← uK_end k (by have := HN.out; omega)]; exact hK.out.1)
      have HDa := hid (And.intro (HD4.out.1.bel hK.out.2) (And.intro (HD4.out.2.1.trans (hK.out.2.mono (by omega))) hK.out.2))
      have hdg := H.out.1.below HDa.out.2.1
      have HDb := hid hdg
      have c7 := fun i => cell_of HDa.out.1.h7 i
      have c8 := fun i => cell_of HDa.out.1.h8 i
      obtain ⟨wa, hwa⟩ : ∃ x, x = wr := ⟨_, rfl⟩
      subst hwa
      have HFI := hid (sfind_any wa.heap.size bk H.out.2.2.2 (some ⟨g, 0, none⟩) k uc (wa.alloc (.cells (svc bk (.slice (some ⟨g, 0, none⟩) k uc)) 226)) (alloc_new wa _) (by
        have := (HK.out.slI).below (bel1 wa (.cells (svc bk (.slice (some ⟨g, 0, none⟩) k uc)) 226)) (Nat.le_refl _)
        exact SlI.mono this (by simp)))
      clear hdg hK
      go_wp2_with fail
      refine HFI.out.mono ?_
      rintro e w7 ⟨bv, bs, rfl, hob, hbl, hb⟩
      have hb7 := bel1' hb
      have HE := hid (And.intro hob (And.intro hbl (And.intro hb7 hb.size)))
      obtain ⟨va, vn, vc, rfl⟩ := slB_shape hob.slB
      clear hob hbl hb hb7 c7 c8 HFI
      go_wp2_with fail
      have e26 : (((w7.alloc (.cells #[.int .i64 2] 3)).alloc (.cells #[.slice va vn vc] 26)).alloc (.cells #[.int .i64 2] 3)).heap[w7.heap.size]? = some (.cells #[.int .i64 2] 3 (0, 0)) := (alloc_old (by simp only [World.size_alloc]; omega)).trans (new2_0 w7 _ _)
      have e27 : (((w7.alloc (.cells #[.int .i64 2] 3)).alloc (.cells #[.slice va vn vc] 26)).alloc (.cells #[.int .i64 2] 3)).heap[w7.heap.size + 1]? = some (.cells #[.slice va vn vc] 26 (0, 0)) := (alloc_old (by simp only [World.size_alloc]; omega)).trans (new2_1 w7 _ _)
      have e28 : (((w7.alloc (.cells #[.int .i64 2] 3)).alloc (.cells #[.slice va vn vc] 26)).alloc (.cells #[.int .i64 2] 3)).heap[w7.heap.size + 1 + 1]? = some (.cells #[.int .i64 2] 3 (0, 0)) := by
        have := alloc_new ((w7.alloc (.cells #[.int .i64 2] 3)).alloc (.cells #[.slice va vn vc] 26)) (.cells #[.int .i64 2] 3); rwa [World.size_alloc, World.size_alloc] at this
      have b8 := bel3 w7 (.cells #[.int .i64 2] 3) (.cells #[.slice va vn vc] 26) (.cells #[.int .i64 2] 3)
      generalize ((w7.alloc (.cells #[.int .i64 2] 3)).alloc (.cells #[.slice va vn vc] 26)).alloc (.cells #[.int .i64 2] 3) = w8 at *
      have HE8 := hid (And.intro e26 (And.intro e27 (And.intro e28 (And.intro b8 trivial))))
      have f26 : ∀ W, Below w8.heap.size w8 W → W.cell? ⟨w7.heap.size, 0, none⟩ = some (.int .i64 2) := fun W hW => (cell_of ((hW.block _ (blk_lt HE8.out.1)).trans HE8.out.1) 0).trans rfl
      have f27 : ∀ W, Below w8.heap.size w8 W → W.cell? ⟨w7.heap.size + 1, 0, none⟩ = some (.slice va vn vc) := fun W hW => (cell_of ((hW.block _ (blk_lt HE8.out.2.1)).trans HE8.out.2.1) 0).trans rfl
      have hln2 := fun w' => len_own (P := Tryz.prog) (ty := 3) Tryz.underlying26 HE.out.1 w'
      have hob8 := HE.out.1.below (HE8.out.2.2.2.1.mono (Nat.le_refl _)) HE.out.1.lt
      have HSU : Hid (∀ W, Below w8.heap.size w8 W → Calls Tryz.prog 124 #[.slice va vn vc] W fun e w' => e = .returned (.int .u32 ((Go.Crc.sum bs).toNat)) ∧ Below W.heap.size W w') := hid fun W hW => Kx.sum_any bs _ W ((hob8.slB.below hW (Nat.le_refl _)).mono hW.size) (by have := HE.out.2.1; have := H.out.2.2.2; rcases this with rfl | ⟨c, rfl, _⟩ <;> simp at * <;> omega)
      obtain ⟨sm, hsm⟩ : ∃ x, x = (Go.Crc.sum bs).toNat := ⟨_, rfl⟩
      rw [← hsm] at HSU
      have hsm2 : sm < 4294967296 := by rw [hsm]; exact (Go.Crc.sum bs).isLt
      obtain ⟨cn, hcn⟩ : ∃ x, x = bs.length := ⟨_, rfl⟩
      rw [← hcn] at hln2
      have HCN := hid (And.intro hcn (And.intro hsm hob8))
      clear hsm hcn e26 e27 e28 b8 hob8
      go_wp2_with fail
      have hwr1 : IntKind.i64.wrap 1 = 1 := by decide
      go_cut [29] from 157 (fun s29 wx => ∃ a29 : Nat, s29 = .pointer (some ⟨a29, 0, none⟩) ∧ Hid (wx.heap[a29]? = some (.cells #[.int .i64 1, .int .i64 2, .int .i64 cn, .int .u32 sm] 124 (0, 0)) ∧ Below w8.heap.size w8 wx ∧ w8.heap.size ≤ a29))
      case first =>
        go_region_held (fun w' => Below w8.heap.size w8 w') (first | with_reducible assumption | (solve | (repeat (first | with_reducible exact Below.refl _ _ | with_reducible assumption | with_reducible apply Below.drew | with_reducible refine Below.alloc ?_ ?_ _ | with_reducible refine Below.setCell ?_ ?_ _ | with_reducible exact Nat.le_refl _ | (simp; done) | exact Below.size (by assumption))))) (first
          | (go_at_call 124; refine (HSU.out _ (by first | with_reducible assumption | exact (Below.refl _ _).drew)).mono ?_; rintro e w9 ⟨rfl, hb9⟩; obtain ⟨hc9, hf9, hz9⟩ := bcell hb9; have hb9' := belT (by first | with_reducible assumption | exact (Below.refl _ _).drew : Below w8.heap.size w8 _) hb9))
        all_goals
          go_wp2_with fail
          go_meet
        case rel => exact ⟨_, rfl, hid ⟨alloc_new _ _, hb9'.alloc hb9'.size _, hb9'.size⟩⟩
        case rel => exact ⟨_, rfl, hid ⟨stL_heap [.int .i64 1, .int .i64 2, .int .i64 cn, .int .u32 sm] w9 0 _ ((hb9.block w8.heap.size (by simp)).trans (alloc_new w8 _)), stL_below (Nat.le_refl _) [.int .i64 1, .int .i64 2, .int .i64 cn, .int .u32 sm] w9 w8 0 (belT ((bel1 w8 _).drew) hb9), Nat.le_refl _⟩⟩
      case rest =>
        obtain ⟨a29, rfl, hA⟩ := hcut
        have HB9 := hid (belT (belT HE.out.2.2.1 HE8.out.2.2.2.1) hA.out.2.1)
        have y29 := fun j => cell_of hA.out.1 j
        have HCN3 : Hid (cn = 21 + bk.length) := hid (by
          have h1 := HCN.out.1; have h2 := HE.out.2.1; have h3 := H.out.2.2.2
          rcases h3 with rfl | ⟨c, rfl, _⟩ <;> simp at h2 ⊢ <;> omega)
        have hcn2 : 1 ≤ cn ∧ cn ≤ 22 := by
          have h1 := HCN.out.1; have h2 := HE.out.2.1; have h3 := H.out.2.2.2
          rcases h3 with rfl | ⟨c, rfl, _⟩ <;> simp at h2 <;> omega
        have HSP := hid (slotput_any 1 2 cn sm wc (by omega) (by omega) (by omega) (by omega) (by omega) (by omega) hsm2)
        clear f26 f27 HSU hln2
        go_wp2_with fail
        refine HSP.out.mono ?_
        rintro e w10 ⟨g30, s, hs16, rfl, hg30, hgs, hb⟩
        have hA10 := (hb.block a29 (blk_lt hA.out.1)).trans hA.out.1
        have y29 : (w10.alloc (.cells #[.slice (some ⟨g30, 0, none⟩) 16 16] 26)).cell? ⟨a29, 0, none⟩ = some (.int .i64 1) := (cell_of ((alloc_old (blk_lt hA10)).trans hA10) 0).trans rfl
        have HB10 := hid (And.intro hA10 (And.intro hgs (And.intro (belT HB9.out hb) hb)))
        clear hb hA10 hgs HSP
        go_wp2_with fail
        have hb13 := bel3 w10 (.cells #[.slice (some ⟨g30, 0, none⟩) 16 16] 26) (.cells #[.int .i64 0] 3) (.cells #[.func (.func 126) #[] #[.pointer (some ⟨w.heap.size, 0, none⟩), .pointer (some ⟨w.heap.size + 1, 0, none⟩), .pointer (some ⟨w7.heap.size, 0, none⟩), .pointer (some ⟨w7.heap.size + 1, 0, none⟩), .pointer (some ⟨w7.heap.size + 1 + 1, 0, none⟩)], .func (.func 128) #[] #[.pointer (some ⟨w.heap.size, 0, none⟩), .pointer (some ⟨w.heap.size + 1, 0, none⟩)], .func (.func 130) #[] #[.pointer (some ⟨w.heap.size, 0, none⟩), .pointer (some ⟨w.heap.size + 1, 0, none⟩), .pointer (some ⟨w10.heap.size + 1, 0, none⟩), .pointer (some ⟨w10.heap.size, 0, none⟩)], .func (.func 131) #[] #[.pointer (some ⟨w.heap.size, 0, none⟩), .pointer (some ⟨w.heap.size + 1, 0, none⟩)]] 85)
        have e30 := (alloc_old (o := .cells #[.func (.func 126) #[] #[.pointer (some ⟨w.heap.size, 0, none⟩), .pointer (some ⟨w.heap.size + 1, 0, none⟩), .pointer (some ⟨w7.heap.size, 0, none⟩), .pointer (some ⟨w7.heap.size + 1, 0, none⟩), .pointer (some ⟨w7.heap.size + 1 + 1, 0, none⟩)], .func (.func 128) #[] #[.pointer (some ⟨w.heap.size, 0, none⟩), .pointer (some ⟨w.heap.size + 1, 0, none⟩)], .func (.func 130) #[] #[.pointer (some ⟨w.heap.size, 0, none⟩), .pointer (some ⟨w.heap.size + 1, 0, none⟩), .pointer (some ⟨w10.heap.size + 1, 0, none⟩), .pointer (some ⟨w10.heap.size, 0, none⟩)], .func (.func 131) #[] #[.pointer (some ⟨w.heap.size, 0, none⟩), .pointer (some ⟨w.heap.size + 1, 0, none⟩)]] 85) (by simp only [World.size_alloc]; omega : w10.heap.size < _)).trans (new2_0 w10 (.cells #[.slice (some ⟨g30, 0, none⟩) 16 16] 26) (.cells #[.int .i64 0] 3))
        have e31 := (alloc_old (o := .cells #[.func (.func 126) #[] #[.pointer (some ⟨w.heap.size, 0, none⟩), .pointer (some ⟨w.heap.size + 1, 0, none⟩), .pointer (some ⟨w7.heap.size, 0, none⟩), .pointer (some ⟨w7.heap.size + 1, 0, none⟩), .pointer (some ⟨w7.heap.size + 1 + 1, 0, none⟩)], .func (.func 128) #[] #[.pointer (some ⟨w.heap.size, 0, none⟩), .pointer (some ⟨w.heap.size + 1, 0, none⟩)], .func (.func 130) #[] #[.pointer (some ⟨w.heap.size, 0, none⟩), .pointer (some ⟨w.heap.size + 1, 0, none⟩), .pointer (some ⟨w10.heap.size + 1, 0, none⟩), .pointer (some ⟨w10.heap.size, 0, none⟩)], .func (.func 131) #[] #[.pointer (some ⟨w.heap.size, 0, none⟩), .pointer (some ⟨w.heap.size + 1, 0, none⟩)]] 85) (by simp only [World.size_alloc]; omega : w10.heap.size + 1 < _)).trans (new2_1 w10 (.cells #[.slice (some ⟨g30, 0, none⟩) 16 16] 26) (.cells #[.int .i64 0] 3))
        have eF := alloc_new ((w10.alloc (.cells #[.slice (some ⟨g30, 0, none⟩) 16 16] 26)).alloc (.cells #[.int .i64 0] 3)) (.cells #[.func (.func 126) #[] #[.pointer (some ⟨w.heap.size, 0, none⟩), .pointer (some ⟨w.heap.size + 1, 0, none⟩), .pointer (some ⟨w7.heap.size, 0, none⟩), .pointer (some ⟨w7.heap.size + 1, 0, none⟩), .pointer (some ⟨w7.heap.size + 1 + 1, 0, none⟩)], .func (.func 128) #[] #[.pointer (some ⟨w.heap.size, 0, none⟩), .pointer (some ⟨w.heap.size + 1, 0, none⟩)], .func (.func 130) #[] #[.pointer (some ⟨w.heap.size, 0, none⟩), .pointer (some ⟨w.heap.size + 1, 0, none⟩), .pointer (some ⟨w10.heap.size + 1, 0, none⟩), .pointer (some ⟨w10.heap.size, 0, none⟩)], .func (.func 131) #[] #[.pointer (some ⟨w.heap.size, 0, none⟩), .pointer (some ⟨w.heap.size + 1, 0, none⟩)]] 85)
        rw [World.size_alloc, World.size_alloc] at eF
        generalize ((w10.alloc (.cells #[.slice (some ⟨g30, 0, none⟩) 16 16] 26)).alloc (.cells #[.int .i64 0] 3)).alloc (.cells #[.func (.func 126) #[] #[.pointer (some ⟨w.heap.size, 0, none⟩), .pointer (some ⟨w.heap.size + 1, 0, none⟩), .pointer (some ⟨w7.heap.size, 0, none⟩), .pointer (some ⟨w7.heap.size + 1, 0, none⟩), .pointer (some ⟨w7.heap.size + 1 + 1, 0, none⟩)], .func (.func 128) #[] #[.pointer (some ⟨w.heap.size, 0, none⟩), .pointer (some ⟨w.heap.size + 1, 0, none⟩)], .func (.func 130) #[] #[.pointer (some ⟨w.heap.size, 0, none⟩), .pointer (some ⟨w.heap.size + 1, 0, none⟩), .pointer (some ⟨w10.heap.size + 1, 0, none⟩), .pointer (some ⟨w10.heap.size, 0, none⟩)], .func (.func 131) #[] #[.pointer (some ⟨w.heap.size, 0, none⟩), .pointer (some ⟨w.heap.size + 1, 0, none⟩)]] 85) = w13 at *
        have hb813 : Below w8.heap.size w8 w13 := belT (belT hA.out.2.1 HB10.out.2.2.2) hb13
        have hLB : Blks [(w7.heap.size, #[.int .i64 2], 3), (w7.heap.size + 1, #[.slice va vn vc], 26), (w7.heap.size + 1 + 1, #[.int .i64 2], 3), (w10.heap.size, #[.slice (some ⟨g30, 0, none⟩) 16 16], 26), (w10.heap.size + 1, #[.int .i64 0], 3), (w10.heap.size + 1 + 1, _, 85), (g30, (srow s).toArray, 322), (a29, #[.int .i64 1, .int .i64 2, .int .i64 cn, .int .u32 sm], 124)] w13 := fun x hx => by
          simp only [List.mem_cons, List.mem_nil_iff, or_false] at hx
          rcases hx with rfl | rfl | rfl | rfl | rfl | rfl | rfl | rfl
          · exact ⟨(hb813.block _ (blk_lt HE8.out.1)).trans HE8.out.1, by simp, by simp⟩
          · exact ⟨(hb813.block _ (blk_lt HE8.out.2.1)).trans HE8.out.2.1, by simp, by simp⟩
          · exact ⟨(hb813.block _ (blk_lt HE8.out.2.2.1)).trans HE8.out.2.2.1, by simp, by simp⟩
          · exact ⟨e30, by simp, by simp⟩
          · exact ⟨e31, by simp, by simp⟩
          · exact ⟨eF, by simp, by simp⟩
          · exact ⟨(hb13.block _ (blk_lt HB10.out.2.1)).trans HB10.out.2.1, by simp, by simp⟩
          · exact ⟨(hb13.block _ (blk_lt HB10.out.1)).trans HB10.out.1, by simp, by simp⟩
        have hbA : Below wa.heap.size wa w13 := belT HB10.out.2.2.1 hb13
        have hbW : Below w.heap.size w w13 := belT HDa.out.2.1 hbA
        have hob13 := HCN.out.2.2.below hb813 HCN.out.2.2.lt
        have HQ := hid (And.intro (HDa.out.1.below hbA) (And.intro (H.out.1.below hbW) (And.intro hLB hob13)))
        have yF := fun j => cell_of eF j
        have hb813' := hb813.size
        clear hb13 e30 e31 eF hb813 hLB hbA hbW hob13 y29
        have hz13 : (wa.alloc (.cells (svc bk (.slice (some ⟨g, 0, none⟩) k uc)) 226)).heap.size ≤ w13.heap.size := by
          have h1 := HE.out.2.2.2; have h2 := HE8.out.2.2.2.1.size; have h3 := hb813'; omega
        have hbl := HE.out.2.1
        have hb01 : bs.length = 21 ∨ bs.length = 22 := by
          have h3 := H.out.2.2.2
          rcases h3 with rfl | ⟨c, rfl, _⟩
          · exact .inl hbl
          · exact .inr hbl
        have hbase : base ≤ (wa.alloc (.cells (svc bk (.slice (some ⟨g, 0, none⟩) k uc)) 226)).heap.size := by
          have h1 := HDa.out.1.hb.1; have h2 := HDa.out.2.1.size; rw [World.size_alloc]; omega
        have HT1 := hid (step1_any w.heap.size (w.heap.size + 1) w7.heap.size (w7.heap.size + 1) (w7.heap.size + 1 + 1) base p m room L i fl nm hnl _ bs _ w13 HQ.out.1.h5 HQ.out.1.h6 HQ.out.2.2.1.head HQ.out.2.2.1.tail.head HQ.out.2.2.1.tail.tail.head HQ.out.2.2.2 hbase hz13 hb01 HQ.out.2.1 H.out.2.1 hur hroom (by omega))
        have hown5 : ∀ q, (Value.slice va vn vc).ownBlock = some q → (∃ c fr, w13.heap[q]? = some (.cells c 5 fr)) ∧ w.heap.size + 5 ≤ q := fun q hq => by
          have h9 := HQ.out.2.2.2
          refine ⟨?_, ?_⟩
          · rcases h9.2 with ⟨h0, _⟩ | ⟨gg, cap, cur, hv, _, hgg, _⟩
            · rw [h0] at hq; cases hq
            · rw [hv] at hq; cases hq; exact ⟨_, _, hgg⟩
          · have := (World.ownsRow.lt h9 q hq).1
            have h2 := HDa.out.1.size
            rw [World.size_alloc] at this; omega
        have HO5 := hid hown5
        clear hz13 hbl hb01 hbase hown5 hb813'
        refine wp_loop_rounds 5 ?_
        rw [rounds_succ]
        go_wp2_with fail
        refine HT1.out.mono ?_
        rintro e x1 ⟨rfl, hg1, hk1, hb1⟩
        have hm1 := hg1.facts.2.1
        have HQ1 := hid (And.intro (HQ.out.1.keep hk1 (fun q e => (HO5.out q e).2) hb1 hm1) (And.intro hg1 (And.intro (HQ.out.2.2.1.keep hk1 HQ.out.1.mp fun q e => (HO5.out q e).1) hm1)))
        have yF1 := fun j => cell_of HQ1.out.2.2.1.tail.tail.tail.tail.tail.head j
        clear hg1 hk1 hb1 hm1 yF HT1
        go_wp2_with fail
        rw [rounds_succ]
        go_wp2_with fail
        have hi4 : (fl.set i (nm, 4))[i]? = some (nm, 4) := by rw [List.getElem?_set_self (List.getElem?_eq_some_iff.1 H.out.2.1).1]
        have HI4 := hid hi4
        clear hi4
        refine (step2_any w.heap.size (w.heap.size + 1) base p m room (L + 2) i 4 (fl.set i (nm, 4)) nm x1 HQ1.out.1.h5 HQ1.out.1.h6 hnl HQ1.out.2.1 HI4.out).mono ?_
        rintro e x2 ⟨rfl, hg1, hk1⟩
        have hm1 := hg1.facts.2.1
        have HQ2 := hid (And.intro (HQ1.out.1.keep (hk1.keptO none) (fun q e => by cases e) hk1.bel hm1) (And.intro hg1 (And.intro (HQ1.out.2.2.1.fr hk1 HQ1.out.2.2.2) hm1)))
        have yF2 := fun j => cell_of HQ2.out.2.2.1.tail.tail.tail.tail.tail.head j
        clear hg1 hk1 hm1 yF1
        go_wp2_with fail
        rw [rounds_succ]
        go_wp2_with fail
        have hsm4 : ((fl.set i (nm, 4)).map (·.2)).sum ≤ room := by
          have h1 := sum_set_le fl i (nm, 4)
          simp only at h1; omega
        have h4 := HI4.out
        have HT3 := hid (step3_any w.heap.size (w.heap.size + 1) base p m room (L + 2) i (fl.set i (nm, 4)) nm x2 (w10.heap.size + 1) w10.heap.size g30 s hs16 HQ2.out.1.h5 HQ2.out.1.h6 HQ2.out.2.2.1.tail.tail.tail.tail.head HQ2.out.2.2.1.tail.tail.tail.head HQ2.out.2.2.1.tail.tail.tail.tail.tail.tail.head hnl HQ2.out.2.1 HI4.out hsm4 hroom (by omega))
        refine HT3.out.mono ?_
        rintro e x3 ⟨rfl, hg1, hk1⟩
        have hm1 := hg1.facts.2.1
        have HQ3 := hid (And.intro (HQ2.out.1.keep (hk1.keptO none) (fun q e => by cases e) hk1.bel hm1) (And.intro hg1 (And.intro (HQ2.out.2.2.1.fr hk1 HQ2.out.2.2.2) hm1)))
        have yF3 := fun j => cell_of HQ3.out.2.2.1.tail.tail.tail.tail.tail.head j
        clear hg1 hk1 hm1 yF2 HT3 hsm4 h4
        go_wp2_with fail
        rw [rounds_succ]
        go_wp2_with fail
        refine (step4_any w.heap.size (w.heap.size + 1) base p m room (L + 3) i 4 (fl.set i (nm, 4)) nm x3 HQ3.out.1.h5 HQ3.out.1.h6 hnl HQ3.out.2.1 HI4.out).mono ?_
        rintro e x4 ⟨rfl, hg1, hk1⟩
        have hm1 := hg1.facts.2.1
        have HQ4 := hid (And.intro (HQ3.out.1.keep (hk1.keptO none) (fun q e => by cases e) hk1.bel hm1) (And.intro hg1 (And.intro (HQ3.out.2.2.1.fr hk1 HQ3.out.2.2.2) hm1)))
        have yA := fun j => cell_of HQ4.out.2.2.1.tail.tail.tail.tail.tail.tail.tail.head j
        have f10 := fun j => fz_of HQ4.out.1.h10 j
        have c10 := fun j => cell_of HQ4.out.1.h10 j
        clear hg1 hk1 hm1 yF3
        go_wp2_with fail
        rw [rounds_succ]
        go_wp2_with fail
        have he := HQ4.out.1.endF [.int .i64 1, .int .i64 2, .int .i64 cn, .int .u32 sm]
        have hk4 : ∀ j, (((((x4.setCell ⟨w.heap.size + 1 + 1 + 1 + 1, 0, none⟩ (.int .i64 1)).setCell ⟨w.heap.size + 1 + 1 + 1 + 1, 1, none⟩ (.int .i64 2)).setCell ⟨w.heap.size + 1 + 1 + 1 + 1, 2, none⟩ (.int .i64 cn)).setCell ⟨w.heap.size + 1 + 1 + 1 + 1, 3, none⟩ (.int .u32 sm))).cell? ⟨w.heap.size + 1 + 1 + 1 + 1, j, none⟩ = (#[.int .i64 1, .int .i64 2, .int .i64 cn, .int .u32 sm] : Array Value)[j]? := fun j => cell_of (stL_heap [.int .i64 1, .int .i64 2, .int .i64 cn, .int .u32 sm] x4 0 _ HQ4.out.1.h10) j
        change Fr base m w ((((x4.setCell ⟨w.heap.size + 1 + 1 + 1 + 1, 0, none⟩ (.int .i64 1)).setCell ⟨w.heap.size + 1 + 1 + 1 + 1, 1, none⟩ (.int .i64 2)).setCell ⟨w.heap.size + 1 + 1 + 1 + 1, 2, none⟩ (.int .i64 cn)).setCell ⟨w.heap.size + 1 + 1 + 1 + 1, 3, none⟩ (.int .u32 sm)) ∧ (∀ {room L : Nat} {fl : FL}, _ → HG ((((x4.setCell ⟨w.heap.size + 1 + 1 + 1 + 1, 0, none⟩ (.int .i64 1)).setCell ⟨w.heap.size + 1 + 1 + 1 + 1, 1, none⟩ (.int .i64 2)).setCell ⟨w.heap.size + 1 + 1 + 1 + 1, 2, none⟩ (.int .i64 cn)).setCell ⟨w.heap.size + 1 + 1 + 1 + 1, 3, none⟩ (.int .u32 sm)) base p m room fl L) at he
        have HQ5 := hid (And.intro he.1 (he.2 HQ4.out.2.1))
        clear he yA c10 f10
        generalize (((x4.setCell ⟨w.heap.size + 1 + 1 + 1 + 1, 0, none⟩ (.int .i64 1)).setCell ⟨w.heap.size + 1 + 1 + 1 + 1, 1, none⟩ (.int .i64 2)).setCell ⟨w.heap.size + 1 + 1 + 1 + 1, 2, none⟩ (.int .i64 cn)).setCell ⟨w.heap.size + 1 + 1 + 1 + 1, 3, none⟩ (.int .u32 sm) = x5 at *
        exact bodyPost_ret (v := .tuple #[slotV 1 2 cn sm, .int .i64 0]) (by simp [results, Tryz.results63, go_sem, hk4, slotV]) rfl ⟨cn, sm, rfl, HCN3.out, hsm2, HQ5.out.2, HQ5.out.1⟩
end Go.Proofs.YtmcllcepoiakeaaGreat
