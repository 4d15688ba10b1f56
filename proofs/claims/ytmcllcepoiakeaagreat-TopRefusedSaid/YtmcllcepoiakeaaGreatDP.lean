import Derived.Test.YtmcllcepoiakeaaGreatDI
import Derived.Test.YtmcllcepoiakeaaGreatDJ3
set_option linter.unusedSimpArgs false
set_option linter.unusedVariables false
namespace Go.Proofs.YtmcllcepoiakeaaGreat.Dx
open Go.RowKit Go.Mx Go.Mp Go.Dk
section
variable {w w' : World} {base p : Nat} {d : DM} {fs : List FR} {m : Nat} {lv : Value} {x : Int} {V : Nat → Bool → Prop}
def fits (d : DM) (l k n : Nat) : Prop := k + n ≤ l ∨ k + n + Dk.used d.files ≤ d.room + l
def WRes (base p : Nat) (d : DM) (fs : List FR) (m : Nat) (lv : Value) (x : Int) (f : FR) (k : Nat) (ss : List Sec) (e : Ending) (w' : World) : Prop :=
  (fits d f.fm.now.length k ss.length ∧ e = .returned (.int .i64 (if (Dk.many d f.fm.name k ss).2 then 0 else 8)) ∧ ∃ fs' lv' x', DK w' base p (Dk.many d f.fm.name k ss).1 fs' m lv' x' (fun _ _ => True)) ∨
       (¬ fits d f.fm.now.length k ss.length ∧ e = .returned (.int .i64 7) ∧ DK w' base p d fs m lv x (fun _ _ => True))
theorem flatten_mid : ∀ (ss : List Sec) (i : Nat), (∀ s ∈ ss, s.length = 16) → i < ss.length → (ss.flatten.drop (i * 16)).take 16 = ss.getD i []
  | [], i, _, hi => by simp at hi
  | s :: ss, 0, h, _ => by
    have h1 : s.length = 16 := h s (by simp)
    rw [List.flatten_cons, Nat.zero_mul, List.drop_zero, List.take_append_of_le_length (by omega), List.take_of_length_le (by omega)]; rfl
  | s :: ss, i + 1, h, hi => by
    have h1 : s.length = 16 := h s (by simp)
    have ih := flatten_mid ss i (fun x hx => h x (by simp [hx])) (by simpa using hi)
    rw [List.flatten_cons, List.drop_append, List.drop_of_length_le (by omega), List.nil_append, h1, show (i + 1) * 16 - 16 = i * 16 by omega, ih]; simp
theorem one_len (d : DM) (nm : List UInt8) (k : Nat) (s : Sec) : (Dk.one d nm k s).1.log.length ≤ d.log.length + 1 ∧ (Dk.one d nm k s).1.left ≤ d.left ∧ (Dk.one d nm k s).1.off = (d.off || decide (d.left = 1)) ∧ (Dk.one d nm k s).2 = !decide (d.left = 1) := by
  unfold Dk.one; split
  · rename_i h; simp [h]
  · rename_i h; simp [h]
set_option maxRecDepth 100000 in
set_option maxHeartbeats 1000000 in
theorem write_any (h : DK w base p d fs m lv x (fun _ _ => True)) (hs : Small d) (hoff : d.off = false) {i0 : Nat} {f : FR} (hi : fs[i0]? = some f) (hnl : f.fm.name.length ≤ maxLen) (k : Nat) (ss : List Sec) (bv : Value) (hst : ∀ w', Fr base m w w' → SlB w' w'.heap.size bv ss.flatten)
    (hss : ∀ s ∈ ss, s.length = 16) (hk : k + ss.length ≤ 65536) (hn : 1 ≤ ss.length) (hur : Dk.used d.files ≤ d.room) (hroom : d.room ≤ 1048576) (hleft : d.left ≤ 9223372036854775807) (hll : d.log.length + ss.length ≤ 1000000) :
    Calls Tryz.prog 127 #[dp p, nmv f.fm.name, .int .i64 k, bv] w fun e w' => Fr base m w w' ∧ WRes base p d fs m lv x f k ss e w' := by
  have HH := hid (has_yes h f.fm.name hnl hoff (h.lookAt hi))
  have hfl : ss.flatten.length = ss.length * 16 := by
    have : ∀ m : List Sec, (∀ s ∈ m, s.length = 16) → m.flatten.length = m.length * 16 := by
      intro m; induction m with
      | nil => simp
      | cons s m ih => intro hm; rw [List.flatten_cons, List.length_append, hm s (by simp), ih fun x hx => hm x (by simp [hx]), List.length_cons]; omega
    exact this ss hss
  have hb0 := hst w (Fr.refl _ _ _)
  have hblen := fun w' => hb0.len (P := Tryz.prog) (ty := 3) Tryz.underlying26 w'
  obtain ⟨ba, bn, bc, hbv⟩ := slB_shape hb0
  subst hbv
  rw [hfl] at hblen
  obtain ⟨N, hN⟩ : ∃ N, N = ss.length := ⟨_, rfl⟩
  rw [← hN] at hblen hk hn hll hfl
  have q1 : ((N * 16 : Nat) : Int) / 16 = (N : Int) := by omega
  have q2 : ((N * 16 : Nat) : Int) % 16 = 0 := by omega
  have t1 : decide ((k : Int) < 0) = false := by simp
  have t2 : ((N : Int) == 0) = false := by rw [beq_eq_false_iff_ne]; omega
  have t3 : decide ((65536 : Int) < (k : Int)) = false := by simp; omega
  have w1 : IntKind.i64.wrap (65536 - (k : Int)) = 65536 - k := IntWalk.i64_in _ (by omega)
  have t4 : decide ((65536 : Int) - (k : Int) < (N : Int)) = false := by simp; omega
  have n3 : ¬ (65536 < k) := by omega
  have n4 : ¬ ((65536 : Int) - (k : Int) < (N : Int)) := by omega
  have n2 : ¬ (N = 0) := by omega
  have hokf := hs.now _ (dk_mem h hi)
  have M0 : ∀ w', Below w.heap.size w w' → w'.cell? ⟨f.fb, 0, none⟩ = some f.nv := fun w' hb => (hb.cell (p := ⟨f.fb, 0, none⟩) (blk_lt (h.fc i0 f hi).1)).trans (h.fcells hi).1
  have M1 : ∀ w', Below w.heap.size w w' → w'.cell? ⟨p, 0, none⟩ = some (.int .i64 d.room) := fun w' hb => (hb.cell (p := ⟨p, 0, none⟩) h.plt).trans h.cells.1
  have hown' : OwnG w base 131 16 f.nv (f.fm.now.map srow) := h.ow i0 f true hi trivial
  have hlen := fun w' => secs_len hown' w' (ty := 3)
  obtain ⟨oa, nn, c, hv⟩ := h.sh i0 f true hi
  have hnv : f.nv = .slice oa nn c := hv
  rw [hnv] at M0 hlen
  have HU : Hid (∀ w', Below w.heap.size w w' → Calls Tryz.prog 6 #[dp p] w' fun e w'' => e = .returned (.int .i64 (Dk.used d.files)) ∧ Below w.heap.size w w'') :=
    hid fun w' hb => (used_any (h.below hb) (fun _ => trivial) (by omega)).mono fun e w'' hh => ⟨hh.1, hb.trans (hh.2.mono hb.size)⟩
  obtain ⟨L, hL⟩ : ∃ L, L = f.fm.now.length := ⟨_, rfl⟩
  obtain ⟨U, hU⟩ : ∃ U, U = Dk.used d.files := ⟨_, rfl⟩
  rw [← hL] at hlen
  rw [← hU] at HU hur
  have hL1 : L ≤ 65536 := by rw [hL]; exact hokf.1
  have wA : IntKind.i64.wrap ((k : Int) + (N : Int)) = (k : Int) + N := IntWalk.i64_in _ (by omega)
  have wB : IntKind.i64.wrap ((k : Int) + (N : Int) - (L : Int)) = (k : Int) + N - L := IntWalk.i64_in _ (by omega)
  have wC : IntKind.i64.wrap ((d.room : Int) - (U : Int)) = (d.room : Int) - U := IntWalk.i64_in _ (by omega)
  obtain ⟨E, hE⟩ : ∃ E : Int, E = max ((k : Int) + N - L) 0 := ⟨_, rfl⟩
  have hmax := fun w' => run_max0 (P := Tryz.prog) w' #[3, 3] 3 ((k : Int) + N - L) E hE.symm
  obtain ⟨B, hB, hBf⟩ : ∃ B : Bool, decide ((d.room : Int) - (U : Int) < E) = B ∧ (B = false ↔ fits d f.fm.now.length k N) := by
    refine ⟨_, rfl, ?_⟩
    unfold fits
    rw [← hL, ← hU, decide_eq_false_iff_not]
    omega
  have H0 := hid (And.intro h (And.intro hi hs))
  have HST := hid hst
  have HM := hid (And.intro hss (And.intro hN hfl))
  have HNV := hid (And.intro hnv (And.intro hL (And.intro hU hBf)))
  clear h hi hs hst hss hN hb0 hfl hown' hv hnv hL hU hE hokf hBf
  go_enter Tryz.func127, Tryz.ntmps127
  go_wp2_with fail
  refine HH.out.mono ?_
  rintro e w1 ⟨rfl, rfl⟩
  go_wp2_with fail
  go_region_held3 (fun w' => Below w.heap.size w w') (first | exact (Below.refl _ _).drew | assumption | exact Below.drew (by assumption))
    (first | (go_at_call 6; refine (HU.out _ (by assumption)).mono ?_; rintro e w9 ⟨rfl, hb9⟩))
  all_goals
    have HW := hid (And.intro (H0.out.1.below hb9) (Fr.of_below (m := m) hb9 H0.out.1.base_le))
    clear M0 M1 hmax wA wB wC HU hb9
    cases B
    rotate_left
    · have hnf := hid (show ¬ fits d f.fm.now.length k N from fun hf => by have := HNV.out.2.2.2.2 hf; cases this)
      go_wp2_with fail
      go_ret
      exact ⟨HW.out.2, .inr ⟨by rw [← HM.out.2.1]; exact hnf.out, rfl, HW.out.1⟩⟩
    · have hfi := hid (HNV.out.2.2.2.1 rfl)
      go_wp2_with fail
      go_loopw [65] (fun s65 wr => ∃ (i : Nat) (D : DM) (fs' : List FR) (lv' : Value) (x' : Int) (f' : FR), s65 = .int .i64 i ∧ i ≤ N ∧ DK wr base p D fs' m lv' x' (fun _ _ => True) ∧ fs'[i0]? = some f' ∧ f'.fb = f.fb ∧ f'.fm.name = f.fm.name ∧ SecsOk f'.fm.now ∧ Fr base m w wr ∧
        D.log.length ≤ d.log.length + i ∧ D.left ≤ d.left ∧ Hid (Dk.many d f.fm.name k ss = Dk.many D f.fm.name (k + i) (ss.drop i))) (fun s65 _ => N - (intOf s65).toNat)
      case atStart =>
        exact ⟨0, d, fs, lv, x, f, rfl, by omega, HW.out.1, H0.out.2.1, rfl, rfl, H0.out.2.2.now _ (dk_mem H0.out.1 H0.out.2.1), HW.out.2, by omega, by omega, hid (by simp)⟩
      case round =>
        obtain ⟨i, D, fs', lv', x', f', rfl, hiN, hD, hi', hfb, hfn, hok, hFr, hlog, hlf, HMM⟩ := hrel
        by_cases hlt : i < N
        · have HSL := hid (fun w' (h : Fr base m wr w') => (HST.out w' (hFr.trans h)).cut (i * 16) (ss.flatten.length) (by rw [HM.out.2.2]; omega) (Nat.le_refl _))
          obtain ⟨sv, hsv⟩ : ∃ sv, sv = sliced ba (i * 16) ss.flatten.length bc 1 := ⟨_, rfl⟩
          have hbn : bn = N * 16 := by
            obtain ⟨_, _, h9, _⟩ := HST.out wr hFr
            simp only [Value.slice.injEq] at h9
            rw [h9.2.1, HM.out.2.2]
          have hcut : ∀ w' (kk : IntKind), (Instr.slice 26 (.slice ba bn bc) (some (.int kk ((i : Int) * 16))) none none).run Tryz.prog w' = .ok sv w' := fun w' kk => by
            have ht' : Tryz.prog.underlying 26 = some (.slice (Tryz.prog.elem 26)) := by rw [Tryz.underlying26]; simp [Program.elem, Tryz.underlying26]
            have hel : Tryz.prog.elem 26 = 5 := by simp [Program.elem, Tryz.underlying26]
            rw [run_slice_l (l := ((i : Int) * 16)) (ht := ht') (h0 := by omega) (h1 := by rw [hbn]; omega), hel, show (sizeOf 5).run Tryz.prog w' = .ok 1 w' by kernel_rfl, hsv, HM.out.2.2, ← hbn]
            rw [show ((i : Int) * 16).toNat = i * 16 by omega]; rfl
          have hw1 : IntKind.i64.wrap ((k : Int) + (i : Int)) = ((k + i : Nat) : Int) := by rw [IntWalk.i64_in _ (by omega)]; simp
          have hw2 : IntKind.i64.wrap ((i : Int) * 16) = (i : Int) * 16 := IntWalk.i64_in _ (by omega)
          have tlt : decide ((i : Int) < (N : Int)) = true := by simp; omega
          have hdr : (ss.flatten.drop (i * 16)).take 16 = ss.getD i [] := flatten_mid ss i HM.out.1 (by rw [← HM.out.2.1]; exact hlt)
          have hmm : ss.drop i = ss.getD i [] :: ss.drop (i + 1) := by
            have hi9 : i < ss.length := by rw [← HM.out.2.1]; exact hlt
            rw [List.drop_eq_getElem_cons hi9, List.getD_eq_getElem?_getD, List.getElem?_eq_getElem hi9]; rfl
          have HONE := hid (one_any hD hi' (k + i) sv (ss.flatten.drop (i * 16)) (fun w' h => by
            have := HSL.out w' h
            rw [List.take_length] at this
            rw [hsv]; exact this) (by rw [List.length_drop, HM.out.2.2]; omega) (by omega) hok (by omega) (by omega))
          rw [hfb, hfn, hdr] at HONE
          have hol := one_len D f.fm.name (k + i) (ss.getD i [])
          have HMO := hid (And.intro HMM.out (And.intro hmm (And.intro hol hFr)))
          obtain ⟨tk, htk⟩ : ∃ t, t = k + i := ⟨_, rfl⟩
          have hs16 : (ss.getD i []).length = 16 := by
            rw [List.getD_eq_getElem?_getD, List.getElem?_eq_getElem (by rw [← HM.out.2.1]; exact hlt)]; exact HM.out.1 _ (List.getElem_mem _)
          have hput := put_ok hok (k + i) (by omega) _ hs16
          have hko : k + (i + 1) = k + i + 1 := by omega
          have HPU := hid (And.intro hput (And.intro hok hko))
          have HFB := hid (And.intro hfb hfn)
          obtain ⟨sc, hsc⟩ : ∃ s, s = ss.getD i [] := ⟨_, rfl⟩
          rw [← hsc] at HONE HMO HPU
          by_cases h1 : D.left = 1
          · rw [if_pos h1, if_pos h1] at HONE
            clear hbn hsv hdr hmm hol HMM hD hi' hFr HSL hput hok hko hfb hfn hsc hs16
            go_wp2_with fail
            refine HONE.out.mono ?_
            rintro e w1 ⟨rfl, hP, hFr1⟩
            have HP := hid (And.intro hP hFr1)
            clear hP hFr1
            go_wp2_with fail
            go_ret
            have hm9 : Dk.many d f.fm.name k ss = ((Dk.one D f.fm.name (k + i) sc).1, false) := by
              rw [HMO.out.1, HMO.out.2.1]
              have h2 := HMO.out.2.2.1.2.2.2
              simp only [Dk.many]
              generalize Dk.one D f.fm.name (k + i) sc = r at h2 ⊢
              obtain ⟨r1, r2⟩ := r
              simp only at h2
              subst h2
              simp [h1]
            obtain ⟨fs2, lv2, x2, f2, hD2, _⟩ := HP.out.1
            refine ⟨HMO.out.2.2.2.trans HP.out.2, .inl ⟨by rw [← HM.out.2.1]; exact hfi.out, by rw [hm9]; rfl, ?_⟩⟩
            rw [hm9]; exact ⟨_, _, _, hD2⟩
          · rw [if_neg h1, if_neg h1] at HONE
            clear hbn hsv hdr hmm hol HMM hD hi' hFr HSL hput hok hko hfb hfn hsc hs16
            go_wp2_with fail
            refine HONE.out.mono ?_
            rintro e w1 ⟨rfl, hP, hFr1⟩
            have HP := hid (And.intro hP hFr1)
            clear hP hFr1
            go_wp2_with fail
            go_roundw
            case rel =>
              obtain ⟨fs2, lv2, x2, f2, hD2, hi2, hb2, hn2, hnow2⟩ := HP.out.1
              have hol := HMO.out.2.2.1
              refine ⟨i + 1, _, fs2, lv2, x2, f2, by go_num, by omega, hD2, hi2, hb2, hn2, by rw [hnow2]; exact HPU.out.1, HMO.out.2.2.2.trans HP.out.2, by have := hol.1; omega, by have := hol.2.1; omega, hid ?_⟩
              rw [HMO.out.1, HMO.out.2.1, HPU.out.2.2]
              have h2 := hol.2.2.2
              conv => lhs; unfold Dk.many
              generalize Dk.one D f.fm.name (k + i) sc = r at h2 ⊢
              obtain ⟨r1, r2⟩ := r
              simp only at h2
              subst h2
              simp [h1]
            case measure => simp [intOf]; omega
        · obtain rfl : i = N := by omega
          have hm1 : Dk.many d f.fm.name k ss = (D, true) := by rw [HMM.out, List.drop_of_length_le (by rw [← HM.out.2.1]; exact Nat.le_refl _)]; rfl
          have HF := hid (And.intro hm1 (And.intro hD hFr))
          clear hm1 hD hFr HMM hi' hfb hfn hok
          go_wp2_with fail
          go_ret
          refine ⟨HF.out.2.2, .inl ⟨by rw [← HM.out.2.1]; exact hfi.out, by rw [HF.out.1]; rfl, ?_⟩⟩
          rw [HF.out.1]; exact ⟨_, _, _, HF.out.2.1⟩
end
abbrev FL := List (List UInt8 × Nat)
def flOf (fs : List FM) : FL := fs.map fun f => (f.name, f.now.length)
/-- a disk of which the files' names and lengths are told -/
structure G (room : Nat) (fl : FL) (L : Nat) (d : DM) : Prop where
  room : d.room = room
  left : d.left = 0
  off : d.off = false
  fl : flOf d.files = fl
  small : Small d
  len : d.log.length ≤ L
/-- a disk in memory, of which all is told -/
def HD (w : World) (base p m : Nat) (d : DM) : Prop := ∃ fs lv x, DK w base p d fs m lv x (fun _ _ => True)
def HG (w : World) (base p m room : Nat) (fl : FL) (L : Nat) : Prop := ∃ d fs lv x, DK w base p d fs m lv x (fun _ _ => True) ∧ G room fl L d
theorem HG.hd {w : World} {base p m room L : Nat} {fl : FL} (h : HG w base p m room fl L) : ∃ d, HD w base p m d ∧ G room fl L d := by
  obtain ⟨d, fs, lv, x, h, g⟩ := h; exact ⟨d, ⟨fs, lv, x, h⟩, g⟩
theorem HD.hg {w : World} {base p m room L : Nat} {fl : FL} {d : DM} (h : HD w base p m d) (g : G room fl L d) : HG w base p m room fl L := by
  obtain ⟨fs, lv, x, h⟩ := h; exact ⟨d, fs, lv, x, h, g⟩
theorem HD.below {w w' : World} {base p m : Nat} {d : DM} (h : HD w base p m d) (hb : Below w.heap.size w w') : HD w' base p m d := by
  obtain ⟨fs, lv, x, h⟩ := h; exact ⟨fs, lv, x, h.below hb⟩
theorem HG.below {w w' : World} {base p m room L : Nat} {fl : FL} (h : HG w base p m room fl L) (hb : Below w.heap.size w w') : HG w' base p m room fl L := by
  obtain ⟨d, fs, lv, x, h, g⟩ := h; exact ⟨d, fs, lv, x, h.below hb, g⟩
theorem HG.base_le {w : World} {base p m room L : Nat} {fl : FL} (h : HG w base p m room fl L) : base ≤ w.heap.size := by
  obtain ⟨d, fs, lv, x, h, g⟩ := h; exact h.base_le
/-- blocks that are none of this disk's -/
theorem HG.facts {w : World} {base p m room L : Nat} {fl : FL} (h : HG w base p m room fl L) : (∃ c, w.heap[p]? = some (.cells c 64 (0, 0))) ∧ (∃ es c, w.heap[m]? = some (.map es c)) ∧ base ≤ p ∧ base ≤ m ∧ p < w.heap.size ∧ m < w.heap.size := by
  obtain ⟨d, fs, lv, x, h, g⟩ := h
  exact ⟨⟨_, h.dk⟩, h.mp.isMap, h.hp, h.hm, h.plt, h.mp.lt⟩
theorem used_fl (fs : List FM) : used fs = ((flOf fs).map (·.2)).sum := by
  unfold used flOf; rw [List.map_map]; rfl
theorem names_fl (fs : List FM) : fs.map (·.name) = (flOf fs).map (·.1) := by
  unfold flOf; rw [List.map_map]; rfl
theorem setF_none (nm : List UInt8) (g : FM → FM) : ∀ (fs : List FM), nm ∉ fs.map (·.name) → setF fs nm g = fs
  | [], _ => rfl
  | f :: fs, h => by
    rw [List.map_cons, List.mem_cons, not_or] at h
    have ih := setF_none nm g fs h.2
    unfold setF at ih ⊢
    rw [List.map_cons, ih]
    have : (f.name == nm) = false := by rw [beq_eq_false_iff_ne]; exact fun e => h.1 e.symm
    rw [this]; rfl
theorem setF_fl (k : Nat) (s : Sec) (nm : List UInt8) (l : Nat) : ∀ (fs : List FM) (i : Nat), (fs.map (·.name)).Nodup → (flOf fs)[i]? = some (nm, l) →
    flOf (setF fs nm fun f => { f with now := put f.now k s }) = (flOf fs).set i (nm, max l (k + 1))
  | [], i, _, hi => by simp [flOf] at hi
  | f :: fs, 0, hn, hi => by
    simp [flOf] at hi
    obtain ⟨rfl, rfl⟩ := hi
    rw [List.map_cons, List.nodup_cons] at hn
    have h1 := setF_none f.name (fun f => { f with now := put f.now k s }) fs hn.1
    unfold setF at h1 ⊢
    rw [List.map_cons, h1]
    simp [flOf, put_len]
  | f :: fs, i + 1, hn, hi => by
    rw [List.map_cons, List.nodup_cons] at hn
    have hi' : (flOf fs)[i]? = some (nm, l) := by simpa [flOf] using hi
    have ih := setF_fl k s nm l fs i hn.2 hi'
    have hne : (f.name == nm) = false := by
      rw [beq_eq_false_iff_ne]
      rintro rfl
      refine hn.1 ?_
      rw [names_fl]
      exact List.mem_map.2 ⟨_, List.mem_of_getElem? hi', rfl⟩
    unfold setF at ih ⊢
    rw [List.map_cons, hne]
    unfold flOf at ih ⊢
    simp only [List.map_cons, List.set_cons_succ, ih]
    rfl
theorem G.nodup {room L : Nat} {fl : FL} {d : DM} (g : G room fl L d) (hn : (fl.map (·.1)).Nodup) : (d.files.map (·.name)).Nodup := by rw [names_fl, g.fl]; exact hn
theorem G.one {room L : Nat} {fl : FL} {d : DM} (g : G room fl L d) (hn : (fl.map (·.1)).Nodup) {i : Nat} {nm : List UInt8} {l : Nat} (hi : fl[i]? = some (nm, l)) (k : Nat) (hk : k < 65536) (s : Sec) (hs : s.length = 16) (hL : L + 1 ≤ 1000000) :
    G room (fl.set i (nm, max l (k + 1))) (L + 1) (Dk.one d nm k s).1 ∧ (Dk.one d nm k s).2 = true := by
  have h1 : Dk.one d nm k s = ({ d with left := d.left - 1, files := setF d.files nm fun f => { f with now := put f.now k s }, log := d.log ++ [⟨nm, k, s⟩] }, true) := by
    unfold Dk.one; rw [if_neg (by have := g.left; omega)]
  rw [h1]
  refine ⟨⟨g.room, by show d.left - 1 = 0; have := g.left; omega, g.off, ?_, ⟨?_, ?_, ?_, ?_⟩, ?_⟩, rfl⟩
  · rw [← g.fl]
    exact setF_fl k s nm l d.files i (g.nodup hn) (by rw [g.fl]; exact hi)
  · intro r hr
    rcases List.mem_append.1 hr with hr | hr
    · exact g.small.log r hr
    · simp at hr; subst hr; exact hs
  · show (d.log ++ _).length ≤ _
    have := g.len; simp; omega
  · intro f hf
    obtain ⟨f0, h0, rfl | rfl⟩ := setF_mem hf
    · exact g.small.now _ h0
    · exact put_ok (g.small.now _ h0) k hk s hs
  · intro f hf
    obtain ⟨f0, h0, rfl | rfl⟩ := setF_mem hf
    · exact g.small.kept _ h0
    · exact g.small.kept f0 h0
  · show (d.log ++ _).length ≤ _
    have := g.len; simp; omega
theorem set_at {α : Type} {l : List α} {i : Nat} {y : α} (h : l[i]? = some y) (z : α) : (l.set i z)[i]? = some z := by
  rw [List.getElem?_set_self (List.getElem?_eq_some_iff.1 h).1]
theorem set_names {fl : FL} {i : Nat} {nm : List UInt8} {l : Nat} (hi : fl[i]? = some (nm, l)) (l' : Nat) : (fl.set i (nm, l')).map (·.1) = fl.map (·.1) := by
  rw [List.map_set]
  apply List.ext_getElem?
  intro j
  rw [List.getElem?_set]
  split
  · rename_i e
    subst e
    rw [List.getElem?_map, hi]
    rw [List.length_map, if_pos (List.getElem?_eq_some_iff.1 hi).1]; rfl
  · rfl
theorem G.many {room : Nat} {nm : List UInt8} {i : Nat} : ∀ (ss : List Sec) (fl : FL) (L l : Nat) (d : DM) (k : Nat), G room fl L d → (fl.map (·.1)).Nodup → fl[i]? = some (nm, l) → k + ss.length ≤ 65536 → (∀ s ∈ ss, s.length = 16) → L + ss.length ≤ 1000000 →
    ∃ l', (l' = if ss = [] then l else max l (k + ss.length)) ∧ G room (fl.set i (nm, l')) (L + ss.length) (Dk.many d nm k ss).1 ∧ (Dk.many d nm k ss).2 = true
  | [], fl, L, l, d, k, g, hn, hi, _, _, _ => by
    refine ⟨l, by simp, ?_, rfl⟩
    rw [show fl.set i (nm, l) = fl from by
      apply List.ext_getElem?
      intro j
      rw [List.getElem?_set]
      split
      · rename_i e; subst e; rw [if_pos (List.getElem?_eq_some_iff.1 hi).1, hi]
      · rfl]
    exact g
  | s :: ss, fl, L, l, d, k, g, hn, hi, hk, hs, hL => by
    have h1 := g.one hn hi k (by simp at hk; omega) s (hs s (by simp)) (by simp at hL; omega)
    obtain ⟨l', hl', g', hb⟩ := G.many ss (fl.set i (nm, max l (k + 1))) (L + 1) (max l (k + 1)) (Dk.one d nm k s).1 (k + 1) h1.1 (by rw [set_names hi]; exact hn) (set_at hi _) (by simp at hk ⊢; omega) (fun x hx => hs x (by simp [hx])) (by simp at hL ⊢; omega)
    have e : Dk.many d nm k (s :: ss) = Dk.many (Dk.one d nm k s).1 nm (k + 1) ss := by
      have h2 := h1.2
      conv => lhs; unfold Dk.many
      generalize Dk.one d nm k s = r at h2 ⊢
      obtain ⟨r1, r2⟩ := r
      simp only at h2
      subst h2; rfl
    rw [e]
    refine ⟨l', ?_, ?_, hb⟩
    · rw [hl', if_neg (show ¬ s :: ss = [] by simp), List.length_cons]
      split
      · rename_i e; rw [e, List.length_nil]
      · omega
    · rw [List.set_set] at g'
      rw [List.length_cons, show L + (ss.length + 1) = L + 1 + ss.length by omega]; exact g'
section
variable {w w' : World} {base p m room L : Nat} {fl : FL}
theorem HG.empty {lv : Value} {x : Int} (h : DK w base p ⟨room, [], [], 0, false⟩ [] m lv x (fun _ _ => True)) : HG w base p m room [] 0 :=
  ⟨_, _, _, _, h, ⟨rfl, rfl, rfl, rfl, ⟨by simp, by simp, by simp, by simp⟩, by simp⟩⟩
theorem HG.nodup (h : HG w base p m room fl L) : (fl.map (·.1)).Nodup := by
  obtain ⟨d, fs, lv, x, h, g⟩ := h
  have := h.mp.nodup
  rw [plOf_names] at this
  have e : fl.map (·.1) = fs.map (·.fm.name) := by
    rw [← g.fl, ← names_fl, h.files, List.map_map]; rfl
  rw [e]; exact this
theorem HG.at {d : DM} {fs : List FR} {lv : Value} {x : Int} {V : Nat → Bool → Prop} (h : DK w base p d fs m lv x V) (g : G room fl L d) {i : Nat} {nm : List UInt8} {l : Nat} (hi : fl[i]? = some (nm, l)) :
    ∃ f, fs[i]? = some f ∧ f.fm.name = nm ∧ f.fm.now.length = l := by
  have e : fl = fs.map fun f => (f.fm.name, f.fm.now.length) := by
    rw [← g.fl, h.files, flOf, List.map_map]; rfl
  rw [e, List.getElem?_map] at hi
  cases hf : fs[i]? with
  | none => rw [hf] at hi; cases hi
  | some f => rw [hf] at hi; simp at hi; exact ⟨f, rfl, hi.1, hi.2⟩
theorem HG.lens {d : DM} {fs : List FR} {lv : Value} {x : Int} {V : Nat → Bool → Prop} (h : DK w base p d fs m lv x V) (g : G room fl L d) : fs.length = fl.length := by
  rw [← g.fl, h.files]; simp [flOf]
theorem create_G (h : HG w base p m room fl L) (nm : List UInt8) (hn1 : 1 ≤ nm.length) (hn2 : nm.length ≤ 16) (hno : nm ∉ fl.map (·.1)) (hfl : fl.length < 32) :
    Calls Tryz.prog 66 #[dp p, nmv nm] w fun e w' => e = .returned (.int .i64 0) ∧ HG w' base p m room (fl ++ [(nm, 0)]) L ∧ Fr base m w w' := by
  obtain ⟨d, fs, lv, x, h, g⟩ := h
  refine (create_new h g.small g.off nm hn1 hn2 ?_ (by rw [HG.lens h g]; exact hfl)).mono fun e w' ⟨he, ⟨b, lv', hd⟩, hf⟩ => ⟨he, ⟨_, _, _, _, hd, ?_⟩, hf⟩
  · rw [Mp.look_none, plOf_names]
    have e : fl.map (·.1) = fs.map (·.fm.name) := by rw [← g.fl, ← names_fl, h.files, List.map_map]; rfl
    rw [← e]; exact hno
  · have hlf : (Dk.forget d.log nm 0).length ≤ d.log.length := List.length_filter_le _ _
    refine ⟨g.room, g.left, g.off, ?_, ⟨?_, ?_, ?_, ?_⟩, ?_⟩
    · rw [← g.fl]; simp [flOf]
    · intro r hr; exact g.small.log r (List.mem_filter.1 hr).1
    · have := g.small.llen; show (Dk.forget d.log nm 0).length ≤ _; omega
    · intro f hf
      rcases List.mem_append.1 hf with hf | hf
      · exact g.small.now f hf
      · simp at hf; subst hf; exact ⟨by simp, by simp⟩
    · intro f hf
      rcases List.mem_append.1 hf with hf | hf
      · exact g.small.kept f hf
      · simp at hf; subst hf; exact ⟨by simp, by simp⟩
    · have := g.len; show (Dk.forget d.log nm 0).length ≤ _; omega
theorem used_G (h : HG w base p m room fl L) (hu : (fl.map (·.2)).sum ≤ 1000000000) : Calls Tryz.prog 6 #[dp p] w fun e w' => e = .returned (.int .i64 ((fl.map (·.2)).sum : Nat)) ∧ HG w' base p m room fl L ∧ Below w.heap.size w w' := by
  obtain ⟨d, fs, lv, x, h, g⟩ := h
  have hs : Dk.used d.files = (fl.map (·.2)).sum := by rw [used_fl, g.fl]
  have := used_any h (fun _ => trivial) (by rw [hs]; exact hu)
  rw [hs] at this
  exact this.mono fun e w' ⟨he, hb⟩ => ⟨he, ⟨_, _, _, _, h.below hb, g⟩, hb⟩
theorem size_G (h : HG w base p m room fl L) {i : Nat} {nm : List UInt8} {l : Nat} (hi : fl[i]? = some (nm, l)) (hnl : nm.length ≤ maxLen) :
    Calls Tryz.prog 42 #[dp p, nmv nm] w fun e w' => e = .returned (.tuple #[.int .i64 l, .int .i64 0]) ∧ w = w' := by
  obtain ⟨d, fs, lv, x, h, g⟩ := h
  obtain ⟨f, hf, rfl, rfl⟩ := HG.at h g hi
  have := size_any h (fun _ => trivial) f.fm.name hnl
  have e : sizeM d f.fm.name = ((f.fm.now.length : Int), 0) := by
    unfold sizeM
    rcases h.who f.fm.name with ⟨hl, _⟩ | ⟨j, f', hj, hjn, _, hfd⟩
    · rw [h.lookAt hf] at hl; cases hl
    · rw [hfd]
      have hnd := h.mp.nodup
      rw [plOf_names] at hnd
      obtain rfl := nodup_at hnd hj hf hjn
      rw [hf] at hj
      cases hj
      rfl
  rw [e] at this
  exact this
/-- sectors are written -/
theorem write_L (h : HG w base p m room fl L) {i : Nat} {nm : List UInt8} {l : Nat} (hi : fl[i]? = some (nm, l)) (hnl : nm.length ≤ maxLen) (k : Nat) (ss : List Sec) (bv : Value) (hst : ∀ w', Fr base m w w' → SlB w' w'.heap.size bv ss.flatten)
    (hss : ∀ s ∈ ss, s.length = 16) (hk : k + ss.length ≤ 65536) (hn : 1 ≤ ss.length) (hur : (fl.map (·.2)).sum ≤ room) (hroom : room ≤ 1048576) (hL : L + ss.length ≤ 1000000) (hfit : k + ss.length + (fl.map (·.2)).sum ≤ room + l) :
    Calls Tryz.prog 127 #[dp p, nmv nm, .int .i64 k, bv] w fun e w' => Fr base m w w' ∧ e = .returned (.int .i64 0) ∧ HG w' base p m room (fl.set i (nm, max l (k + ss.length))) (L + ss.length) := by
  have hnd := h.nodup
  obtain ⟨d, fs, lv, x, h, g⟩ := h
  obtain ⟨f, hf, rfl, rfl⟩ := HG.at h g hi
  have hu : Dk.used d.files = (fl.map (·.2)).sum := by rw [used_fl, g.fl]
  refine (write_any h g.small g.off hf hnl k ss bv hst hss hk hn (by rw [hu, g.room]; exact hur) (by rw [g.room]; exact hroom) (by rw [g.left]; omega) (by have := g.len; omega)).mono fun e w' ⟨hfr, hr⟩ => ⟨hfr, ?_⟩
  unfold WRes fits at hr
  rw [hu, g.room] at hr
  rcases hr with ⟨h1, he, fs', lv', x', hd⟩ | ⟨h1, he, hd⟩
  · obtain ⟨l', hl', hg', hb⟩ := G.many ss fl L f.fm.now.length d k g hnd hi hk hss hL
    rw [hb] at he
    rw [if_neg (by rintro rfl; simp at hn)] at hl'
    rw [hl'] at hg'
    exact ⟨he, _, _, _, _, hd, hg'⟩
  · exact absurd (.inr hfit) h1
theorem flush_G (h : HG w base p m room fl L) {i : Nat} {nm : List UInt8} {l : Nat} (hi : fl[i]? = some (nm, l)) (hnl : nm.length ≤ maxLen) :
    Calls Tryz.prog 129 #[dp p, nmv nm] w fun e w' => e = .returned (.int .i64 0) ∧ HG w' base p m room fl L ∧ Fr base m w w' := by
  obtain ⟨d, fs, lv, x, h, g⟩ := h
  obtain ⟨f, hf, rfl, rfl⟩ := HG.at h g hi
  refine (flush_any h g.small hf g.off hnl).mono fun e w' ⟨he, ⟨fs', lv', hd⟩, hfr⟩ => ⟨he, ⟨_, _, _, _, hd, ?_⟩, hfr⟩
  have hlf : (Dk.forget d.log f.fm.name 0).length ≤ d.log.length := List.length_filter_le _ _
  refine ⟨g.room, g.left, g.off, ?_, ⟨?_, ?_, ?_, ?_⟩, ?_⟩
  · rw [← g.fl]
    unfold flOf setF
    rw [List.map_map]
    apply List.map_congr_left
    intro y _
    simp only [Function.comp]
    split <;> rfl
  · intro r hr; exact g.small.log r (List.mem_filter.1 hr).1
  · have := g.small.llen; show (Dk.forget d.log f.fm.name 0).length ≤ _; omega
  · intro y hy
    obtain ⟨y0, h0, rfl | rfl⟩ := setF_mem hy
    · exact g.small.now _ h0
    · exact g.small.now y0 h0
  · intro y hy
    obtain ⟨y0, h0, rfl | rfl⟩ := setF_mem hy
    · exact g.small.kept _ h0
    · exact g.small.now y0 h0
  · have := g.len; show (Dk.forget d.log f.fm.name 0).length ≤ _; omega
/-- nothing is read of a file that is there -/
theorem read0_G (h : HG w base p m room fl L) {i : Nat} {nm : List UInt8} {l : Nat} (hi : fl[i]? = some (nm, l)) (hnl : nm.length ≤ maxLen) :
    Calls Tryz.prog 26 #[dp p, nmv nm, .int .i64 0, .int .i64 0] w fun e w' => ∃ v, e = .returned (.tuple #[v, .int .i64 0]) ∧ OwnB w' w.heap.size 5 v [] ∧ Below w.heap.size w w' := by
  obtain ⟨d, fs, lv, x, h, g⟩ := h
  obtain ⟨f, hf, rfl, rfl⟩ := HG.at h g hi
  have := read_any h g.small g.off hf hnl 0 0 (Nat.zero_le _)
  have e : secs f.fm.now 0 0 = [] := by simp [secs]
  rw [e] at this
  exact this
theorem read_no (h : HG w base p m room fl L) (nm : List UInt8) (hn : nm.length ≤ maxLen) (hno : nm ∉ fl.map (·.1)) :
    Calls Tryz.prog 26 #[dp p, nmv nm, .int .i64 0, .int .i64 0] w fun e w' => e = .returned (.tuple #[.slice none 0 0, .int .i64 4]) ∧ w = w' := by
  obtain ⟨d, fs, lv, x, h, g⟩ := h
  have he : hasE d nm = 4 := by
    unfold hasE
    rw [g.off]
    rcases h.who nm with ⟨_, hf⟩ | ⟨i, f, hi, hfn, _, _⟩
    · rw [hf]; rfl
    · exfalso; apply hno
      rw [← g.fl, ← names_fl, h.files, List.map_map]
      exact List.mem_map.2 ⟨f, List.mem_of_getElem? hi, hfn⟩
  have HH := hid (has_no h nm hn (by rw [he]; decide))
  rw [he] at HH
  clear h g he hno hn
  go_enter Tryz.func26, Tryz.ntmps26
  go_wp2_with fail
  refine HH.out.mono ?_
  rintro e w1 ⟨rfl, rfl⟩
  go_wp2
  go_ret2
  exact ⟨rfl, rfl⟩
end
end Go.Proofs.YtmcllcepoiakeaaGreat.Dx
