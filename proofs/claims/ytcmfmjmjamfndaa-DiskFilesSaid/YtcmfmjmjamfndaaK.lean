import Derived.Test.YtcmfmjmjamfndaaI
import Derived.Test.YtcmfmjmjamfndaaJ2
import Derived.Test.YtcmfmjmjamfndaaJ3
namespace Go.Proofs.Ytcmfmjmjamfndaa
open Go.RowKit Go.Mx Go.Dk
set_option linter.unusedSimpArgs false
set_option linter.unusedVariables false
section
variable {w w' : World} {base p : Nat} {d : DM} {fs : List FR} {m : Nat} {lv : Value} {x : Int} {V : Nat → Bool → Prop}
def fits (d : DM) (l k n : Nat) : Prop := k + n ≤ l ∨ k + n + Dk.used d.files ≤ d.room + l
def WRes (base p : Nat) (d : DM) (fs : List FR) (m : Nat) (lv : Value) (x : Int) (f : FR) (k : Nat) (ss : List Sec) (e : Ending) (w' : World) : Prop :=
  (fits d f.fm.now.length k ss.length ∧ e = .returned (.int .i64 (if (Dk.many d f.fm.name k ss).2 then 0 else 8)) ∧ ∃ fs' lv' x', DK w' base p (Dk.many d f.fm.name k ss).1 fs' m lv' x' (fun _ _ => True)) ∨
       (¬ fits d f.fm.now.length k ss.length ∧ e = .returned (.int .i64 7) ∧ DK w' base p d fs m lv x (fun _ _ => True))
theorem flatten_mid : ∀ (ss : List Sec) (i : Nat), (∀ s ∈ ss, s.length = 16) → i < ss.length → (ss.flatten.drop (i * 16)).take 16 = ss.getD i []
  | [], i, _, hi => by simp at hi
  | s :: ss, 0, h, _ => by
    have h1 : s.length = 16 := h s (by simp)
    rw [List.flatten_cons, Nat.zero_mul, List.drop_zero, List.take_append_of_le_length (by omega), List.take_of_length_le (by omega)]; rfl
  | s :: ss, i + 1, h, hi => by
    have h1 : s.length = 16 := h s (by simp)
    have ih := flatten_mid ss i (fun x hx => h x (by simp [hx])) (by simpa using hi)
    rw [List.flatten_cons, List.drop_append, List.drop_of_length_le (by omega), List.nil_append, h1, show (i + 1) * 16 - 16 = i * 16 by omega, ih]; simp
theorem one_len (d : DM) (nm : List UInt8) (k : Nat) (s : Sec) : (Dk.one d nm k s).1.log.length ≤ d.log.length + 1 ∧ (Dk.one d nm k s).1.left ≤ d.left ∧ (Dk.one d nm k s).1.off = (d.off || decide (d.left = 1)) ∧ (Dk.one d nm k s).2 = !decide (d.left = 1) := by
  unfold Dk.one; split
  · rename_i h; simp [h]
  · rename_i h; simp [h]
set_option maxRecDepth 100000 in
set_option maxHeartbeats 1000000 in
theorem write_any (h : DK w base p d fs m lv x (fun _ _ => True)) (hs : Small d) (hoff : d.off = false) {i0 : Nat} {f : FR} (hi : fs[i0]? = some f) (hnl : f.fm.name.length ≤ maxLen) (k : Nat) (ss : List Sec) (bv : Value) (hst : ∀ w', Fr base w w' → SlB w' w'.heap.size bv ss.flatten)
    (hss : ∀ s ∈ ss, s.length = 16) (hk : k + ss.length ≤ 65536) (hn : 1 ≤ ss.length) (hur : Dk.used d.files ≤ d.room) (hroom : d.room ≤ 1048576) (hleft : d.left ≤ 9223372036854775807) (hll : d.log.length + ss.length ≤ 1000000) :
    Calls Try.prog 14 #[dp p, nmv f.fm.name, .int .i64 k, bv] w fun e w' => Fr base w w' ∧ WRes base p d fs m lv x f k ss e w' := by
  have HH := hid (has_yes h f.fm.name hnl hoff (h.lookAt hi))
  have hfl : ss.flatten.length = ss.length * 16 := by
    have : ∀ m : List Sec, (∀ s ∈ m, s.length = 16) → m.flatten.length = m.length * 16 := by
      intro m; induction m with
      | nil => simp
      | cons s m ih => intro hm; rw [List.flatten_cons, List.length_append, hm s (by simp), ih fun x hx => hm x (by simp [hx]), List.length_cons]; omega
    exact this ss hss
  have hb0 := hst w (Fr.refl _ _)
  have hblen := fun w' => hb0.len (P := Try.prog) (ty := 3) Try.underlying22 w'
  obtain ⟨ba, bn, bc, hbv⟩ := slB_shape hb0
  subst hbv
  rw [hfl] at hblen
  obtain ⟨N, hN⟩ : ∃ N, N = ss.length := ⟨_, rfl⟩
  rw [← hN] at hblen hk hn hll hfl
  have q1 : ((N * 16 : Nat) : Int) / 16 = (N : Int) := by omega
  have q2 : ((N * 16 : Nat) : Int) % 16 = 0 := by omega
  have t1 : decide ((k : Int) < 0) = false := by simp
  have t2 : ((N : Int) == 0) = false := by rw [beq_eq_false_iff_ne]; omega
  have t3 : decide ((65536 : Int) < (k : Int)) = false := by simp; omega
  have w1 : IntKind.i64.wrap (65536 - (k : Int)) = 65536 - k := IntWalk.i64_in _ (by omega)
  have t4 : decide ((65536 : Int) - (k : Int) < (N : Int)) = false := by simp; omega
  have n3 : ¬ (65536 < k) := by omega
  have n4 : ¬ ((65536 : Int) - (k : Int) < (N : Int)) := by omega
  have n2 : ¬ (N = 0) := by omega
  have hokf := hs.now _ (dk_mem h hi)
  have M0 : ∀ w', Below w.heap.size w w' → w'.cell? ⟨f.fb, 0, none⟩ = some f.nv := fun w' hb => (hb.cell (p := ⟨f.fb, 0, none⟩) (blk_lt (h.fc i0 f hi).1)).trans (h.fcells hi).1
  have M1 : ∀ w', Below w.heap.size w w' → w'.cell? ⟨p, 0, none⟩ = some (.int .i64 d.room) := fun w' hb => (hb.cell (p := ⟨p, 0, none⟩) h.plt).trans h.cells.1
  have hown' : OwnG w base 71 16 f.nv (f.fm.now.map srow) := h.ow i0 f true hi trivial
  have hlen := fun w' => secs_len hown' w' (ty := 3)
  obtain ⟨oa, nn, c, hv⟩ := h.sh i0 f true hi
  have hnv : f.nv = .slice oa nn c := hv
  rw [hnv] at M0 hlen
  have HU : Hid (∀ w', Below w.heap.size w w' → Calls Try.prog 20 #[dp p] w' fun e w'' => e = .returned (.int .i64 (Dk.used d.files)) ∧ Below w.heap.size w w'') :=
    hid fun w' hb => (used_any (h.below hb) (fun _ => trivial) (by omega)).mono fun e w'' hh => ⟨hh.1, hb.trans (hh.2.mono hb.size)⟩
  obtain ⟨L, hL⟩ : ∃ L, L = f.fm.now.length := ⟨_, rfl⟩
  obtain ⟨U, hU⟩ : ∃ U, U = Dk.used d.files := ⟨_, rfl⟩
  rw [← hL] at hlen
  rw [← hU] at HU hur
  have hL1 : L ≤ 65536 := by rw [hL]; exact hokf.1
  have wA : IntKind.i64.wrap ((k : Int) + (N : Int)) = (k : Int) + N := IntWalk.i64_in _ (by omega)
  have wB : IntKind.i64.wrap ((k : Int) + (N : Int) - (L : Int)) = (k : Int) + N - L := IntWalk.i64_in _ (by omega)
  have wC : IntKind.i64.wrap ((d.room : Int) - (U : Int)) = (d.room : Int) - U := IntWalk.i64_in _ (by omega)
  obtain ⟨E, hE⟩ : ∃ E : Int, E = max ((k : Int) + N - L) 0 := ⟨_, rfl⟩
  have hmax := fun w' => run_max0 (P := Try.prog) w' #[3, 3] 3 ((k : Int) + N - L) E hE.symm
  obtain ⟨B, hB, hBf⟩ : ∃ B : Bool, decide ((d.room : Int) - (U : Int) < E) = B ∧ (B = false ↔ fits d f.fm.now.length k N) := by
    refine ⟨_, rfl, ?_⟩
    unfold fits
    rw [← hL, ← hU, decide_eq_false_iff_not]
    omega
  have H0 := hid (And.intro h (And.intro hi hs))
  have HST := hid hst
  have HM := hid (And.intro hss (And.intro hN hfl))
  have HNV := hid (And.intro hnv (And.intro hL (And.intro hU hBf)))
  clear h hi hs hst hss hN hb0 hfl hown' hv hnv hL hU hE hokf hBf
  go_enter Try.func14, Try.ntmps14
  go_wp2_with fail
  refine HH.out.mono ?_
  rintro e w1 ⟨rfl, rfl⟩
  go_wp2_with fail
  go_region_held3 (fun w' => Below w.heap.size w w') (first | exact (Below.refl _ _).drew | assumption | exact Below.drew (by assumption))
    (first | (go_at_call 20; refine (HU.out _ (by assumption)).mono ?_; rintro e w9 ⟨rfl, hb9⟩))
  all_goals
    have HW := hid (And.intro (H0.out.1.below hb9) (Fr.of_below hb9 H0.out.1.base_le))
    clear M0 M1 hmax wA wB wC HU hb9
    cases B
    rotate_left
    · have hnf := hid (show ¬ fits d f.fm.now.length k N from fun hf => by have := HNV.out.2.2.2.2 hf; cases this)
      go_wp2_with fail
      go_ret
      exact ⟨HW.out.2, .inr ⟨by rw [← HM.out.2.1]; exact hnf.out, rfl, HW.out.1⟩⟩
    · have hfi := hid (HNV.out.2.2.2.1 rfl)
      go_wp2_with fail
      go_loopw [65] (fun s65 wr => ∃ (i : Nat) (D : DM) (fs' : List FR) (lv' : Value) (x' : Int) (f' : FR), s65 = .int .i64 i ∧ i ≤ N ∧ DK wr base p D fs' m lv' x' (fun _ _ => True) ∧ fs'[i0]? = some f' ∧ f'.fb = f.fb ∧ f'.fm.name = f.fm.name ∧ SecsOk f'.fm.now ∧ Fr base w wr ∧
        D.log.length ≤ d.log.length + i ∧ D.left ≤ d.left ∧ Hid (Dk.many d f.fm.name k ss = Dk.many D f.fm.name (k + i) (ss.drop i))) (fun s65 _ => N - (intOf s65).toNat)
      case atStart =>
        exact ⟨0, d, fs, lv, x, f, rfl, by omega, HW.out.1, H0.out.2.1, rfl, rfl, H0.out.2.2.now _ (dk_mem H0.out.1 H0.out.2.1), HW.out.2, by omega, by omega, hid (by simp)⟩
      case round =>
        obtain ⟨i, D, fs', lv', x', f', rfl, hiN, hD, hi', hfb, hfn, hok, hFr, hlog, hlf, HMM⟩ := hrel
        by_cases hlt : i < N
        · have HSL := hid (fun w' (h : Fr base wr w') => (HST.out w' (hFr.trans h)).cut (i * 16) (ss.flatten.length) (by rw [HM.out.2.2]; omega) (Nat.le_refl _))
          obtain ⟨sv, hsv⟩ : ∃ sv, sv = sliced ba (i * 16) ss.flatten.length bc 1 := ⟨_, rfl⟩
          have hbn : bn = N * 16 := by
            obtain ⟨_, _, h9, _⟩ := HST.out wr hFr
            simp only [Value.slice.injEq] at h9
            rw [h9.2.1, HM.out.2.2]
          have hcut : ∀ w' (kk : IntKind), (Instr.slice 22 (.slice ba bn bc) (some (.int kk ((i : Int) * 16))) none none).run Try.prog w' = .ok sv w' := fun w' kk => by
            have ht' : Try.prog.underlying 22 = some (.slice (Try.prog.elem 22)) := by rw [Try.underlying22]; simp [Program.elem, Try.underlying22]
            have hel : Try.prog.elem 22 = 5 := by simp [Program.elem, Try.underlying22]
            rw [run_slice_l (l := ((i : Int) * 16)) (ht := ht') (h0 := by omega) (h1 := by rw [hbn]; omega), hel, show (sizeOf 5).run Try.prog w' = .ok 1 w' by kernel_rfl, hsv, HM.out.2.2, ← hbn]
            rw [show ((i : Int) * 16).toNat = i * 16 by omega]; rfl
          have hw1 : IntKind.i64.wrap ((k : Int) + (i : Int)) = ((k + i : Nat) : Int) := by rw [IntWalk.i64_in _ (by omega)]; simp
          have hw2 : IntKind.i64.wrap ((i : Int) * 16) = (i : Int) * 16 := IntWalk.i64_in _ (by omega)
          have tlt : decide ((i : Int) < (N : Int)) = true := by simp; omega
          have hdr : (ss.flatten.drop (i * 16)).take 16 = ss.getD i [] := flatten_mid ss i HM.out.1 (by rw [← HM.out.2.1]; exact hlt)
          have hmm : ss.drop i = ss.getD i [] :: ss.drop (i + 1) := by
            have hi9 : i < ss.length := by rw [← HM.out.2.1]; exact hlt
            rw [List.drop_eq_getElem_cons hi9, List.getD_eq_getElem?_getD, List.getElem?_eq_getElem hi9]; rfl
          have HONE := hid (one_any hD hi' (k + i) sv (ss.flatten.drop (i * 16)) (fun w' h => by
            have := HSL.out w' h
            rw [List.take_length] at this
            rw [hsv]; exact this) (by rw [List.length_drop, HM.out.2.2]; omega) (by omega) hok (by omega) (by omega))
          rw [hfb, hfn, hdr] at HONE
          have hol := one_len D f.fm.name (k + i) (ss.getD i [])
          have HMO := hid (And.intro HMM.out (And.intro hmm (And.intro hol hFr)))
          obtain ⟨tk, htk⟩ : ∃ t, t = k + i := ⟨_, rfl⟩
          have hs16 : (ss.getD i []).length = 16 := by
            rw [List.getD_eq_getElem?_getD, List.getElem?_eq_getElem (by rw [← HM.out.2.1]; exact hlt)]; exact HM.out.1 _ (List.getElem_mem _)
          have hput := put_ok hok (k + i) (by omega) _ hs16
          have hko : k + (i + 1) = k + i + 1 := by omega
          have HPU := hid (And.intro hput (And.intro hok hko))
          have HFB := hid (And.intro hfb hfn)
          obtain ⟨sc, hsc⟩ : ∃ s, s = ss.getD i [] := ⟨_, rfl⟩
          rw [← hsc] at HONE HMO HPU
          by_cases h1 : D.left = 1
          · rw [if_pos h1, if_pos h1] at HONE
            clear hbn hsv hdr hmm hol HMM hD hi' hFr HSL hput hok hko hfb hfn hsc hs16
            go_wp2_with fail
            refine HONE.out.mono ?_
            rintro e w1 ⟨rfl, hP, hFr1⟩
            have HP := hid (And.intro hP hFr1)
            clear hP hFr1
            go_wp2_with fail
            go_ret
            have hm9 : Dk.many d f.fm.name k ss = ((Dk.one D f.fm.name (k + i) sc).1, false) := by
              rw [HMO.out.1, HMO.out.2.1]
              have h2 := HMO.out.2.2.1.2.2.2
              simp only [Dk.many]
              generalize Dk.one D f.fm.name (k + i) sc = r at h2 ⊢
              obtain ⟨r1, r2⟩ := r
              simp only at h2
              subst h2
              simp [h1]
            obtain ⟨fs2, lv2, x2, f2, hD2, _⟩ := HP.out.1
            refine ⟨HMO.out.2.2.2.trans HP.out.2, .inl ⟨by rw [← HM.out.2.1]; exact hfi.out, by rw [hm9]; rfl, ?_⟩⟩
            rw [hm9]; exact ⟨_, _, _, hD2⟩
          · rw [if_neg h1, if_neg h1] at HONE
            clear hbn hsv hdr hmm hol HMM hD hi' hFr HSL hput hok hko hfb hfn hsc hs16
            go_wp2_with fail
            refine HONE.out.mono ?_
            rintro e w1 ⟨rfl, hP, hFr1⟩
            have HP := hid (And.intro hP hFr1)
            clear hP hFr1
            go_wp2_with fail
            go_roundw
            case rel =>
              obtain ⟨fs2, lv2, x2, f2, hD2, hi2, hb2, hn2, hnow2⟩ := HP.out.1
              have hol := HMO.out.2.2.1
              refine ⟨i + 1, _, fs2, lv2, x2, f2, by go_num, by omega, hD2, hi2, hb2, hn2, by rw [hnow2]; exact HPU.out.1, HMO.out.2.2.2.trans HP.out.2, by have := hol.1; omega, by have := hol.2.1; omega, hid ?_⟩
              rw [HMO.out.1, HMO.out.2.1, HPU.out.2.2]
              have h2 := hol.2.2.2
              conv => lhs; unfold Dk.many
              generalize Dk.one D f.fm.name (k + i) sc = r at h2 ⊢
              obtain ⟨r1, r2⟩ := r
              simp only at h2
              subst h2
              simp [h1]
            case measure => simp [intOf]; omega
        · obtain rfl : i = N := by omega
          have hm1 : Dk.many d f.fm.name k ss = (D, true) := by rw [HMM.out, List.drop_of_length_le (by rw [← HM.out.2.1]; exact Nat.le_refl _)]; rfl
          have HF := hid (And.intro hm1 (And.intro hD hFr))
          clear hm1 hD hFr HMM hi' hfb hfn hok
          go_wp2_with fail
          go_ret
          refine ⟨HF.out.2.2, .inl ⟨by rw [← HM.out.2.1]; exact hfi.out, by rw [HF.out.1]; rfl, ?_⟩⟩
          rw [HF.out.1]; exact ⟨_, _, _, HF.out.2.1⟩
end
end Go.Proofs.Ytcmfmjmjamfndaa
