import Derived.Test.YtgkabcaodnofnaaGreatKC
import Derived.Deep.CutRange
set_option linter.unusedSimpArgs false
set_option linter.unusedVariables false
namespace Go.Md
theorem two_pow6 {cl : Nat} (h : cl ≤ 6) : 1 ≤ 2 ^ cl ∧ 2 ^ cl ≤ 64 := by
  have : cl = 0 ∨ cl = 1 ∨ cl = 2 ∨ cl = 3 ∨ cl = 4 ∨ cl = 5 ∨ cl = 6 := by omega
  rcases this with rfl | rfl | rfl | rfl | rfl | rfl | rfl <;> simp
theorem lay_step {f : Nat → Bs} (hf : ∀ s, (f s).length = 16) {a pos k c : Nat} (h1 : a ≤ pos) (h2 : pos + k ≤ a + c) :
    splice (secs f a (pos - a) ++ zer (16 * (a + c - pos))) ((pos - a) * 16) (secs f pos k) = secs f a (pos + k - a) ++ zer (16 * (a + c - (pos + k))) := by
  have hl : (secs f a (pos - a)).length = (pos - a) * 16 := by rw [secs_len hf]; omega
  have hk : (secs f pos k).length = 16 * k := secs_len hf k pos
  rw [← hl, splice_mid _ _ _ (by rw [hk, zer_len]; omega), hk, zer_drop, show pos + k - a = (pos - a) + k by omega, secs_add, show a + (pos - a) = pos by omega]
  congr 2; omega
theorem lay_end {f : Nat → Bs} {a pos c : Nat} (h2 : a ≤ pos) (hp : pos ≤ a + c) (hz : ∀ s, pos ≤ s → s < a + c → f s = zer 16) : secs f a (pos - a) ++ zer (16 * (a + c - pos)) = secs f a c := by
  rw [← secs_zer (f := f) (a + c - pos) pos (fun s h3 h4 => hz s h3 (by omega))]
  have := secs_add f (pos - a) a (a + c - pos)
  rw [show a + (pos - a) = pos by omega, show pos - a + (a + c - pos) = c by omega] at this
  exact this.symm
end Go.Md
namespace Go.Proofs.YtgkabcaodnofnaaGreat
open Go.RowKit Go.Mx Go.Md
set_option linter.unusedVariables false
set_option linter.unusedSimpArgs false
theorem ownB_sh {w : World} {base : Nat} {e : TypeId} {v : Value} {l : Bs} (h : OwnB w base e v l) : ∃ a n c, v = .slice a n c := by
  rcases h.shape with ⟨rfl, _⟩ | ⟨g, c, rfl, _⟩ <;> exact ⟨_, _, _, rfl⟩
theorem OwnB.full {w : World} {base g n : Nat} {e : TypeId} {bs : Bs} (h : OwnB w base e (.slice (some ⟨g, 0, none⟩) n n) bs) : w.heap[g]? = some (.cells (bs.map u8).toArray e (0, 0)) := by
  rcases h.2 with ⟨hv, _⟩ | ⟨g', cap, cur, hv, hb, hg, hn, hm, hs, ht⟩
  · cases hv
  · simp only [Value.slice.injEq, Option.some.injEq, Addr.mk.injEq] at hv
    obtain ⟨⟨rfl, _⟩, h1, h2⟩ := hv
    rw [hg]
    congr 2
    apply Array.ext'
    have : cur.toList.length = n := by rw [Array.length_toList, hs]; omega
    rw [← ht, List.take_of_length_le (by rw [this, h1]; omega)]
theorem OwnB.ofFull {w : World} {base g n : Nat} {e : TypeId} {bs : Bs} (h : w.heap[g]? = some (.cells (bs.map u8).toArray e (0, 0))) (hn : n = bs.length) (hb : base ≤ g) (hm : n ≤ maxLen) : OwnB w base e (.slice (some ⟨g, 0, none⟩) n n) bs := by
  subst hn
  refine ⟨by simp, .inr ⟨g, _, _, rfl, hb, h, Nat.le_refl _, hm, by simp, by simp [List.take_of_length_le]⟩⟩
theorem slice_from (g n lo : Nat) (h : lo < n) : ∀ w' (k : IntKind), (Instr.slice 23 (.slice (some ⟨g, 0, none⟩) n n) (some (.int k (lo : Int))) none none).run Tryz.prog w' = .ok (.slice (some ⟨g, lo, none⟩) (n - lo) (n - lo)) w' := by
  intro w' k
  have ht : Tryz.prog.underlying 23 = some (.slice 5) := Tryz.underlying23
  have ht' : Tryz.prog.underlying 23 = some (.slice (Tryz.prog.elem 23)) := by rw [ht]; simp [Program.elem, ht]
  have hel : Tryz.prog.elem 23 = 5 := by simp [Program.elem, ht]
  rw [run_slice_l (l := (lo : Int)) (ht := ht') (h0 := by omega) (h1 := by omega), hel, size5']
  simp only [Result.andThen, sliced, Int.toNat_natCast]
  rw [if_neg (by omega)]
  simp [Addr.add]
  exact fun h => h.symm
set_option maxRecDepth 100000 in
set_option maxHeartbeats 1000000 in
theorem sho_any (d : Nat) (HU : UndP d) : ShoP d := by
  intro w base mb am S xs i ib b2 om size nc own ol a c hm hA hic hom hok hcl hbk hd hsz ha hc
  obtain ⟨hW1, hW2⟩ := two_pow6 hcl
  obtain ⟨f, hf⟩ : ∃ f, f = secIn S d i size own := ⟨_, rfl⟩
  have hfl : ∀ s, (f s).length = 16 := fun s => by rw [hf]; exact secIn_len (fun n i h => ⟨_, (hA.oks n i h).own⟩) d i size own ⟨_, hok⟩ s
  rw [← hf]
  obtain ⟨W, hW⟩ : ∃ W : Nat, W = 2 ^ i.cl := ⟨_, rfl⟩
  rw [← hW] at hW1 hW2
  obtain ⟨K, hK⟩ : ∃ K : Nat, K = min c (size - a) := ⟨_, rfl⟩
  have hc0 := hic.c0
  have HSP : Hid (∀ w' : World, Calls Tryz.prog 64 #[.int .i64 a, .int .i64 K, .int .i64 i.cl] w' fun e w'' => ∃ v, e = .returned (.tuple #[v, .int .i64 0]) ∧ OwnG w'' w'.heap.size 116 3 v ((pcs W a (a + K)).map (prow W)) ∧ Below w'.heap.size w' w'') := hid fun w' => by rw [hW]; exact split_any a K i.cl w' hcl ha (by omega)
  have hKb : K ≤ 4096 := by omega
  have hKc : K ≤ c := by omega
  have hKs : K ≠ 0 → a + K ≤ size := by omega
  have HK := hid hK
  clear hK
  have H0 := hid (And.intro hm (And.intro hA (And.intro hic (And.intro hom hd))))
  have HF := hid (And.intro hf (And.intro hfl hW))
  clear hm hA hom hd hf hfl hW
  have hmul : IntKind.i64.wrap ((c : Int) * 16) = ((c * 16 : Nat) : Int) := by rw [IntWalk.i64_in _ (by omega)]; omega
  go_enter Tryz.func27, Tryz.ntmps27
  go_wp2_with (at_make; refine make_bytes _ rfl _ _ 23 5 rfl Tryz.underlying23 info5 w.heap.size _ _ _ _ (c * 16) rfl rfl ?_ ?_ ?_ ?_ ?_)
  · omega
  · omega
  · omega
  · exact Nat.le_refl _
  intro v w1 ho hb hv
  subst hv
  have hc1 := (H0.out.2.2.1.below hb).c0
  have hblk := OwnB.full ho
  have H1 := hid (And.intro hb hblk)
  clear hic hc0 ho hb hblk hmul
  go_upto_region 2 with (fail)
  go_cut [14] from 15 (fun s14 wx => OwnG wx w1.heap.size 116 3 s14 ((pcs W a (a + K)).map (prow W)) ∧ Below w1.heap.size w1 wx)
  case first =>
    have q1 : IntKind.i64.wrap ((size : Int) - (a : Int)) = (size : Int) - (a : Int) := by rw [IntWalk.i64_in _ (by omega)]
    go_wp2_with fail
    · rename_i h1; have h2 := h; have hK := HK.out; rw [if_pos h2] at h1; have hs := HSP.out w1; rw [show (K : Int) = (size : Int) - (a : Int) by omega] at hs; clear hK; refine hs.mono ?_; rintro e w2 ⟨v2, rfl, ho2, hb2⟩; obtain ⟨xa, xn, xc, rfl⟩ := ownG_sh ho2; go_wp2_with fail; go_meet; case rel => exact ⟨ho2, hb2⟩
    · rename_i h1; have h2 := h; have hK := HK.out; rw [if_neg (by omega)] at h1; have hs := HSP.out w1; rw [show (K : Int) = (c : Int) by omega] at hs; clear hK; refine hs.mono ?_; rintro e w2 ⟨v2, rfl, ho2, hb2⟩; obtain ⟨xa, xn, xc, rfl⟩ := ownG_sh ho2; go_wp2_with fail; go_meet; case rel => exact ⟨ho2, hb2⟩
    · rename_i h1; have h2 := h; have hK := HK.out; rw [if_pos h2] at h1; have hs := HSP.out w1; rw [show (K : Int) = (0 : Int) by omega] at hs; clear hK; refine hs.mono ?_; rintro e w2 ⟨v2, rfl, ho2, hb2⟩; obtain ⟨xa, xn, xc, rfl⟩ := ownG_sh ho2; go_wp2_with fail; go_meet; case rel => exact ⟨ho2, hb2⟩
    · rename_i h1; have h2 := h; have hK := HK.out; rw [if_neg (by omega)] at h1; have hs := HSP.out w1; rw [show (K : Int) = (0 : Int) by omega] at hs; clear hK; refine hs.mono ?_; rintro e w2 ⟨v2, rfl, ho2, hb2⟩; obtain ⟨xa, xn, xc, rfl⟩ := ownG_sh ho2; go_wp2_with fail; go_meet; case rel => exact ⟨ho2, hb2⟩
  case rest =>
    obtain ⟨ho2, hbc⟩ := hcut
    obtain ⟨oa, vn, vc, rfl⟩ := ownG_sh ho2
    have hlen := SlG.len (P := Tryz.prog) (ty := 3) ho2.slG Tryz.underlying112 wc
    rw [List.length_map] at hlen
    obtain ⟨stop, hstop⟩ : ∃ x, x = a + K := ⟨_, rfl⟩
    rw [← hstop] at ho2 hlen
    obtain ⟨N, hN⟩ : ∃ N, N = (pcs W a stop).length := ⟨_, rfl⟩
    rw [← hN] at hlen
    have hblk0 := (hbc.block _ (blk_lt H1.out.2)).trans H1.out.2
    have hbt := H1.out.1.trans (hbc.mono H1.out.1.size)
    have hlt1 : w.heap.size < w1.heap.size := blk_lt H1.out.2
    have hst1 : stop ≤ a + c := by omega
    have hst2 : a ≤ stop := by omega
    have hst3 : stop ≤ size ∨ stop = a := by omega
    have H2 := hid (And.intro hblk0 (And.intro hbt (And.intro hlt1 (And.intro hN (And.intro ho2 hstop)))))
    clear ho2 hbc HSP hc1 hblk0 hbt hN hstop
    go_wp2_with fail
    go_loopw [16, 42] (fun s16 s42 wr => ∃ j pos F : Nat, s42 = .int .i64 j ∧ s16 = .int .i64 F ∧ F = (pos - a) * 16 ∧ a ≤ pos ∧ pos ≤ stop ∧ j ≤ N ∧ (pcs W a stop).drop j = pcs W pos stop ∧ wr.heap[w.heap.size]? = some (.cells ((secs f a (pos - a) ++ zer (16 * (a + c - pos))).map u8).toArray 5 (0, 0)) ∧ Below w.heap.size w wr ∧ OwnG wr w1.heap.size 116 3 (.slice oa vn vc) ((pcs W a stop).map (prow W))) (fun _ s42 _ => N - (intOf s42).toNat)
    case atStart => exact ⟨0, a, 0, rfl, rfl, by omega, by omega, by omega, by omega, rfl, by simp only [Nat.sub_self, secs, List.nil_append]; rw [show 16 * (a + c - a) = c * 16 by omega]; exact H2.out.1, H2.out.2.1, H2.out.2.2.2.2.1⟩
    case round =>
      obtain ⟨j, pos, F, rfl, rfl, hFe, hp1, hp2, hjN, hdr, hblk, hbl, hop⟩ := hrel
      have hNl := H2.out.2.2.2.1
      by_cases hlt : pos < stop
      · have hst := pcs_step (wide := W) (by omega) hlt
        obtain ⟨k, hk⟩ : ∃ k, k = min (W - pos % W) (stop - pos) := ⟨_, rfl⟩
        rw [← hk] at hst
        have hmW : pos % W < W := Nat.mod_lt _ (by omega)
        have hk1 : 1 ≤ k ∧ pos + k ≤ stop ∧ pos % W + k ≤ W := by omega
        have hj : j < N := by
          rcases Nat.lt_or_ge j N with h | h
          · exact h
          · rw [List.drop_eq_nil_of_le (by omega), hst] at hdr; cases hdr
        have hget : (pcs W a stop)[j]? = some (pos, k) := by
          have := congrArg (fun l => l[0]?) (hdr.trans hst)
          simpa using this
        have hdr2 : (pcs W a stop).drop (j + 1) = pcs W (pos + k) stop := by
          have := congrArg List.tail (hdr.trans hst)
          simpa using this
        obtain ⟨Q, hQ⟩ : ∃ Q, Q = pos / W := ⟨_, rfl⟩
        obtain ⟨R, hR⟩ : ∃ R, R = pos % W := ⟨_, rfl⟩
        have hQb : Q ≤ 8192 := by have := Nat.div_le_self pos W; omega
        have hrow : prow W (pos, k) = [.int .i64 Q, .int .i64 R, .int .i64 k] := by rw [hQ, hR]
        have hjl : j < ((pcs W a stop).map (prow W)).length := by rw [List.length_map]; omega
        have hgd : ((pcs W a stop).map (prow W)).getD j [] = [.int .i64 Q, .int .i64 R, .int .i64 k] := by rw [List.getD_eq_getElem?_getD, List.getElem?_map, hget, ← hrow]; rfl
        obtain ⟨wA, hwA⟩ : ∃ x, x = wr.alloc (.cells #[.int .i64 Q, .int .i64 R, .int .i64 k] 116) := ⟨_, rfl⟩
        have hbA : Below wr.heap.size wr wA := by rw [hwA]; exact (Below.refl _ _).alloc (Nat.le_refl _) _
        have hqA : wA.heap[wr.heap.size]? = some (.cells #[.int .i64 Q, .int .i64 R, .int .i64 k] 116 (0, 0)) := by rw [hwA]; exact alloc_new wr _
        have hbwA := hbl.trans (hbA.mono hbl.size)
        rcases hop.shape with ⟨_, he⟩ | ⟨g, cc, he, hg, _⟩
        · rw [he] at hjl; simp at hjl
        rw [List.length_map, ← hNl] at he
        simp only [Value.slice.injEq] at he
        obtain ⟨rfl, rfl, rfl⟩ := he
        have hjm : j < 9223372036854775807 := by have h1 := hop.parts; have h2 := h1.1; have h3 := h1.2.2.1; have h4 := h1.2.2.2.1; unfold maxLen at h4; rw [List.length_map, ← hNl] at h2 h3; omega
        have hia := hop.addr (P := Tryz.prog) Tryz.underlying112 size116 j hjl
        have hra := hop.rangeAt j hjl
        rw [hgd] at hra
        have c0 : wr.cell? ⟨g, j * 3, none⟩ = some (.int .i64 Q) := hra 0 _ rfl
        have c1 := hra 1 _ rfl
        have c2 := hra 2 _ rfl
        obtain ⟨o, ho⟩ : ∃ o, o = j * 3 := ⟨_, rfl⟩
        rw [← ho] at hia c0 c1 c2
        have hF : F < c * 16 := by omega
        have hsf := slice_from w.heap.size (c * 16) (F) hF
        have hom := H0.out.2.2.2.1.below hbwA
        have hl1 : (secs f pos k).length ≤ c * 16 - F := by rw [secs_len HF.out.2.1]; omega
        have hl2 : F + (secs f pos k).length ≤ (secs f a (pos - a) ++ zer (16 * (a + c - pos))).length := by rw [List.length_append, secs_len HF.out.2.1, secs_len HF.out.2.1, zer_len]; omega
        have hblkA := (hbA.block _ (blk_lt hblk)).trans hblk
        have hqa : ∀ t u, (#[Value.int .i64 Q, .int .i64 R, .int .i64 k] : Array Value)[t]? = some u → wA.cell? ⟨wr.heap.size, t, none⟩ = some u := fun t u hu => by simp only [World.cell?, hqA]; simpa using hu
        have a0 : wA.cell? ⟨wr.heap.size, 0, none⟩ = some (.int .i64 Q) := hqa 0 _ rfl
        have a1 : wA.cell? ⟨wr.heap.size, 1, none⟩ = some (.int .i64 R) := hqa 1 _ rfl
        have a2 : wA.cell? ⟨wr.heap.size, 2, none⟩ = some (.int .i64 k) := hqa 2 _ rfl
        have hk16 : IntKind.i64.wrap ((k : Int) * 16) = ((k * 16 : Nat) : Int) := by rw [IntWalk.i64_in _ (by omega)]; omega
        have hR16 : IntKind.i64.wrap ((R : Int) * 16) = ((R * 16 : Nat) : Int) := by rw [IntWalk.i64_in _ (by omega)]; omega
        rcases hom.at Q (by omega) with ⟨hno, hlk⟩ | ⟨bs, v, hso, hov, hlk⟩
        · have HE := hid (And.intro hblkA (And.intro hl1 hl2))
          have HP := hid (And.intro hbwA (And.intro (hop.below hbA (Nat.le_refl _)) (And.intro hdr2 (And.intro hwA (And.intro (blk_lt hqA) (Nat.ne_of_gt (blk_lt hblk)))))))
          have hst9 := hk1.2.1
          have hk9 := hk1.1
          have hk8 : k ≤ 64 := by omega
          have hR8 : R ≤ 64 := by omega
          have HFE := hid hFe
          have hpos : Q * W + R = pos := by rw [hQ, hR]; have := Nat.div_add_mod pos W; rw [Nat.mul_comm] at this; exact this
          obtain ⟨QW, hQW⟩ : ∃ z, z = Q * W := ⟨_, rfl⟩
          rw [← hQW] at hpos
          have hsum : IntKind.i64.wrap ((QW : Int) + (R : Int)) = (pos : Int) := by rw [IntWalk.i64_in _ (by omega)]; omega
          have hpw : IntKind.i64.wrap ((Q : Int) * 2 ^ i.cl) = (QW : Int) := by
            have e : ((2 : Int) ^ i.cl) = (W : Int) := by rw [HF.out.2.2]; simp
            rw [e]
            have : ((Q : Int) * (W : Int)) = (QW : Int) := by rw [hQW]; push_cast; rfl
            rw [this]
            clear e this
            exact IntWalk.i64_in _ (by omega)
          have hpw := hid hpw
          have hpn : secs f pos k = secs (secOf S d i.back) pos k := by
            rw [HF.out.1]
            have h1 := HF.out.2.2
            rw [h1] at hQ hR hk1
            exact piece_none (by rw [← hQ]; exact hno) hk1.2.2 (by omega)
          have HPN := hid hpn
          rw [hwA] at hlk a0 a1
          have F0 : ∀ w', Below wA.heap.size wA w' → w'.cell? ⟨ib, 0, none⟩ = some (.int .i64 i.cl) := fun w' h => ((H0.out.2.2.1.below (HP.out.1)).below h).c0
          have F2 : ∀ w', Below wA.heap.size wA w' → w'.cell? ⟨ib, 2, none⟩ = some (str i.back) := fun w' h => ((H0.out.2.2.1.below (HP.out.1)).below h).c2
          have G0 : ∀ w', Below wA.heap.size wA w' → w'.cell? ⟨wr.heap.size, 0, none⟩ = some (.int .i64 Q) := fun w' h => (World.cell?_of_block (h.block _ HP.out.2.2.2.2.1)).trans (hqa 0 _ rfl)
          have G1 : ∀ w', Below wA.heap.size wA w' → w'.cell? ⟨wr.heap.size, 1, none⟩ = some (.int .i64 R) := fun w' h => (World.cell?_of_block (h.block _ HP.out.2.2.2.2.1)).trans (hqa 1 _ rfl)
          have G2 : ∀ w', Below wA.heap.size wA w' → w'.cell? ⟨wr.heap.size, 2, none⟩ = some (.int .i64 k) := fun w' h => (World.cell?_of_block (h.block _ HP.out.2.2.2.2.1)).trans (hqa 2 _ rfl)
          have HF02 := hid (And.intro hpw.out (And.intro hsum (And.intro F0 (And.intro F2 (And.intro G0 (And.intro G1 G2))))))
          clear hpw hsum F0 F2 G0 G1 G2 hpos hsf hF
          clear hpn hblkA hl1 hl2 hbwA hop hdr2 hdr hst hno hom hqa hqA hwA hrow hgd hget hblk hbl hQ hR hk hmW hk1 hra ho hbA hlen hjl hNl hFe a2 hQW
          go_upto_region 10 with (fail)
          rw [← HP.out.2.2.2.1]
          clear a0 a1 hlk c0 c1 c2 hia hR16 hk16
          have hp4 : pos ≤ 4096 := by omega
          have hk4 : k ≤ 4096 := by omega
          obtain ⟨hpw, hsum, F0, F2, G0, G1, G2⟩ := HF02.out
          clear HF02
          go_region_held (fun w' => Below wA.heap.size wA w') (first | exact (Below.refl _ _).drew | assumption | exact Below.drew (by assumption)) (first
            | (go_at_call 65; refine (HU _ base mb am S xs i.back pos k ((H0.out.1.below HP.out.1).below (by assumption)) ((H0.out.2.1.below HP.out.1).below (by assumption)) H0.out.2.2.2.2 hbk hp4 hk4).mono ?_; rintro e w5 ⟨v5, rfl, ho5f, hb5c⟩; have ho5 := ho5f.o; have hb5 : Below wA.heap.size wA w5 := Below.trans (by assumption) (hb5c.mono (Below.size (by assumption)))))
          clear hpw hsum F0 F2 G0 G1
          have d2 := G2 _ hb5
          have hs5 : (secs (secOf S d i.back) pos k).length = k * 16 := by rw [← HPN.out, secs_len HF.out.2.1]; omega
          obtain ⟨ya, yn, yc, rfl⟩ := ownB_sh ho5
          obtain ⟨pv, hpv, hpr⟩ := ho5.slB.part (P := Tryz.prog) Tryz.underlying23 size5' 0 (k * 16) (by omega) (by omega)
          rw [List.drop_zero, List.take_of_length_le (by omega), ← HPN.out] at hpv
          have HW := hid (And.intro hpv (And.intro (HP.out.2.1.below hb5 (Nat.le_refl _)) (And.intro (HP.out.1.trans (hb5.mono HP.out.1.size)) (And.intro (Nat.lt_of_lt_of_le HP.out.2.2.2.2.1 hb5.size) ((hb5.block _ (blk_lt HE.out.1)).trans HE.out.1)))))
          push_cast at hpr
          have hF : F < c * 16 := by rw [HFE.out]; omega
          have hsf := slice_from w.heap.size (c * 16) F hF
          have hs3 : IntKind.i64.wrap ((k : Int) * 16) = (k : Int) * 16 := by rw [IntWalk.i64_in _ (by omega)]
          clear G2 hpv ho5 ho5f hb5 hb5c hs5
          go_upto_region 11 with (fail)
          have HE1 : Hid (∀ X : World, (X = w5 ∨ X = w5.drew) → SlB X w5.heap.size pv (secs f pos k) ∧ X.heap[w.heap.size]? = some (.cells ((secs f a (pos - a) ++ zer (16 * (a + c - pos))).map u8).toArray 5 (0, 0))) := hid fun X hX => by
            rcases hX with rfl | rfl
            · exact ⟨HW.out.1, HW.out.2.2.2.2⟩
            · exact ⟨HW.out.1.below (Below.refl _ _).drew (Nat.le_refl _), HW.out.2.2.2.2⟩
          go_region_law (first
            | (refine step_copy_b (by rfl) (.tmp 78) (.tmp 86) 23 23 (by rfl) 5 Tryz.underlying23 size5 w.heap.size F (c * 16 - F) (c * 16 - F) pv (secs f pos k) (secs f a (pos - a) ++ zer (16 * (a + c - pos))) w5.heap.size 5 (by rfl) (by rfl) (HE1.out _ (by first | exact Or.inl rfl | exact Or.inr rfl)).1 (HE1.out _ (by first | exact Or.inl rfl | exact Or.inr rfl)).2 HE.out.2.1 HE.out.2.2 ?_; intro w7 hg7 hk7 hb7))
          all_goals
            replace hk7 := (Kept.drew _ _).trans hk7
            have hop9 := HW.out.2.1
            have b2' : w7.cell? ⟨wr.heap.size, 2, none⟩ = some (.int .i64 k) := (hk7.cell HW.out.2.2.2.1 HP.out.2.2.2.2.2).trans d2
            have hrel9 : w7.heap[w.heap.size]? = some (.cells ((secs f a (pos + k - a) ++ zer (16 * (a + c - (pos + k)))).map u8).toArray 5 (0, 0)) := by
              have := hg7.out
              rw [HFE.out, lay_step HF.out.2.1 hp1 (by omega)] at this
              exact this
            have hb9 : Below w.heap.size w w7 := hb7 _ _ HW.out.2.2.1.drew (Nat.le_refl _)
            have ho9 : OwnG w7 w1.heap.size 116 3 (.slice (some ⟨g, 0, none⟩) vn vc) ((pcs W a stop).map (prow W)) := hop9.kept hk7 fun q hq => by have h1 := H2.out.2.2.1; have : w1.heap.size ≤ q := hop9.ge q hq; omega
            have HZ := hid (And.intro hrel9 (And.intro hb9 ho9))
            clear hrel9 hb9 ho9 d2 hg7 hk7 hb7
            go_wp2_with fail
            exact ⟨⟨j + 1, pos + k, F + k * 16, by go_num, by go_num, by rw [HFE.out]; omega, by omega, hst9, hj, HP.out.2.2.1, HZ.out.1, HZ.out.2.1, HZ.out.2.2⟩, by simp [intOf]; omega⟩
        · obtain ⟨va, vn', vc', rfl⟩ : ∃ x y z, v = .slice x y z := ownB_sh hov
          have hbsl : bs.length = 16 * W := by rw [HF.out.2.2]; exact (hok _ _ hso).2
          obtain ⟨pv, hpv, hpr⟩ := hov.slB.part (P := Tryz.prog) Tryz.underlying23 size5' (R * 16) (R * 16 + k * 16) (by omega) (by omega)
          have hs1 : IntKind.i64.wrap (((R * 16 : Nat) : Int) + ((k * 16 : Nat) : Int)) = ((R * 16 + k * 16 : Nat) : Int) := by rw [IntWalk.i64_in _ (by omega)]; omega
          have hpc : (bs.take (R * 16 + k * 16)).drop (R * 16) = secs f pos k := by
            rw [HF.out.1]
            have h1 := HF.out.2.2
            rw [h1] at hQ hR hk1 hbsl
            rw [piece_own (by rw [← hQ]; exact hso) hbsl hk1.2.2 (by omega), ← hR, List.drop_take, show R * 16 + k * 16 - R * 16 = k * 16 by omega]
          rw [hpc] at hpv
          have HE := hid (And.intro hpv (And.intro hblkA (And.intro hl1 hl2)))
          have HP := hid (And.intro hbwA (And.intro (hop.below hbA (Nat.le_refl _)) (And.intro hdr2 (And.intro hwA (And.intro (blk_lt hqA) (Nat.ne_of_gt (blk_lt hblk)))))))
          have hst9 := hk1.2.1
          have HFE := hid hFe
          clear hFe
          have hk9 := hk1.1
          have hk8 : k ≤ 64 := by omega
          have hR8 : R ≤ 64 := by omega
          rw [hwA] at hlk a0 a1 a2
          clear hpc hpv hblkA hl1 hl2 hbwA hop hdr2 hdr hst hso hov hbsl hom hqa hqA hwA hrow hgd hget hblk hbl hQ hR hk hmW hk1 hra ho hbA hlen hjl hNl
          go_upto_region 11 with (fail)
          rw [← HP.out.2.2.2.1] at a2
          rw [← HP.out.2.2.2.1]
          push_cast at hpr
          clear a0 a1 hlk c0 c1 c2 hia hR16
          have HE1 : Hid (∀ X : World, (X = wA ∨ X = wA.drew) → SlB X wA.heap.size pv (secs f pos k) ∧ X.heap[w.heap.size]? = some (.cells ((secs f a (pos - a) ++ zer (16 * (a + c - pos))).map u8).toArray 5 (0, 0))) := hid fun X hX => by
            rcases hX with rfl | rfl
            · exact ⟨HE.out.1, HE.out.2.1⟩
            · exact ⟨HE.out.1.below (Below.refl _ _).drew (Nat.le_refl _), HE.out.2.1⟩
          have hs2 : IntKind.i64.wrap ((R : Int) * 16 + (k : Int) * 16) = (R : Int) * 16 + (k : Int) * 16 := by rw [IntWalk.i64_in _ (by omega)]
          have hs3 : IntKind.i64.wrap ((k : Int) * 16) = (k : Int) * 16 := by rw [IntWalk.i64_in _ (by omega)]
          clear hs1 hk16
          go_region_law (first
            | (refine step_copy_b (by rfl) (.tmp 78) (.tmp 86) 23 23 (by rfl) 5 Tryz.underlying23 size5 w.heap.size (F) (c * 16 - F) (c * 16 - F) pv (secs f pos k) (secs f a (pos - a) ++ zer (16 * (a + c - pos))) wA.heap.size 5 (by rfl) (by rfl) (HE1.out _ (by first | exact Or.inl rfl | exact Or.inr rfl)).1 (HE1.out _ (by first | exact Or.inl rfl | exact Or.inr rfl)).2 HE.out.2.2.1 HE.out.2.2.2 ?_; intro w7 hg7 hk7 hb7))
          all_goals
            replace hk7 := (Kept.drew _ _).trans hk7
            have hop9 := HP.out.2.1
            have b2' : w7.cell? ⟨wr.heap.size, 2, none⟩ = some (.int .i64 k) := (hk7.cell HP.out.2.2.2.2.1 HP.out.2.2.2.2.2).trans a2
            have hrel9 : w7.heap[w.heap.size]? = some (.cells ((secs f a (pos + k - a) ++ zer (16 * (a + c - (pos + k)))).map u8).toArray 5 (0, 0)) := by
              have := hg7.out
              rw [HFE.out, lay_step HF.out.2.1 hp1 (by omega)] at this
              exact this
            have hb9 : Below w.heap.size w w7 := hb7 _ _ HP.out.1.drew (Nat.le_refl _)
            have ho9 : OwnG w7 w1.heap.size 116 3 (.slice (some ⟨g, 0, none⟩) vn vc) ((pcs W a stop).map (prow W)) := hop9.kept hk7 fun q hq => by have h1 := H2.out.2.2.1; have : w1.heap.size ≤ q := hop9.ge q hq; omega
            have HZ := hid (And.intro hrel9 (And.intro hb9 ho9))
            clear hrel9 hb9 ho9 a2 hg7 hk7 hb7
            go_wp2_with fail
            exact ⟨⟨j + 1, pos + k, F + k * 16, by go_num, by go_num, by rw [HFE.out]; omega, by omega, hst9, hj, HP.out.2.2.1, HZ.out.1, HZ.out.2.1, HZ.out.2.2⟩, by simp [intOf]; omega⟩
      · obtain rfl : pos = stop := by omega
        have hz : ∀ s, pos ≤ s → s < a + c → f s = zer 16 := fun s h1 h2 => by
          rw [HF.out.1]
          unfold secIn
          rw [if_neg (by have := HK.out; have := H2.out.2.2.2.2.2; omega)]
        have hj : ¬ j < N := by
          intro h
          have h1 := congrArg List.length hdr
          rw [pcs_end (Nat.le_refl _), List.length_drop] at h1
          simp at h1
          omega
        have hj2 : j = N := by omega
        rw [lay_end hp1 hst1 hz] at hblk
        have hB := OwnB.ofFull (base := w.heap.size) (n := c * 16) hblk (by rw [secs_len HF.out.2.1]; omega) (Nat.le_refl _) (by unfold maxLen; omega)
        have hF9 : FullB wr w.heap.size (.slice (some ⟨w.heap.size, 0, none⟩) (c * 16) (c * 16)) (secs f a c) := ⟨hB, _, by rw [secs_len HF.out.2.1, Nat.mul_comm]⟩
        have HX := hid (And.intro hF9 hbl)
        clear hB hbl hblk hop hdr hz hlen hNl hF9
        go_wp2_with fail
        go_ret
        exact ⟨_, rfl, HX.out.1, HX.out.2⟩
theorem und_all : ∀ d, UndP d
  | 0 => und_any 0 fun _ h => by omega
  | d + 1 => und_any (d + 1) fun d' h => by
    obtain rfl : d' = d := by omega
    exact sho_any d' (und_all d')
theorem sho_all (d : Nat) : ShoP d := sho_any d (und_all d)
end Go.Proofs.YtgkabcaodnofnaaGreat
