import Derived.Test.YtcmfmjmjamfndaaK
namespace Go.Dk
def lowF (g : FM) : FM := { g with now := g.kept }
def keepF (g : FM) : FM := { g with kept := g.now }
/-- the files of which those that are no longer to come are turned -/
def turned (φ : FM → FM) (left : List UInt8 → Bool) (l : List FM) : List FM := l.map fun g => if left g.name then g else φ g
theorem turned_step (φ : FM → FM) (hφ : ∀ g, (φ g).name = g.name) (left : List UInt8 → Bool) (l : List FM) (s : List UInt8) (hl : left s = true) : setF (turned φ left l) s φ = turned φ (fun t => left t && !(t == s)) l := by
  unfold setF turned
  rw [List.map_map]
  apply List.map_congr_left
  intro g _
  simp only [Function.comp]
  by_cases e : g.name = s
  · simp [e, hl]
  · by_cases hg : left g.name = true
    · simp [hg, e]
    · simp [hg, hφ, e]
theorem turned_all (φ : FM → FM) (left : List UInt8 → Bool) (l : List FM) (h : ∀ g ∈ l, left g.name = true) : turned φ left l = l := by
  unfold turned; conv => rhs; rw [← List.map_id l]
  apply List.map_congr_left; intro g hg; rw [h g hg]; rfl
theorem turned_none (φ : FM → FM) (left : List UInt8 → Bool) (l : List FM) (h : ∀ s, left s = false) : turned φ left l = l.map φ := by
  unfold turned; apply List.map_congr_left; intro g hg; rw [h]; rfl
theorem turned_at (φ : FM → FM) (left : List UInt8 → Bool) (l : List FM) (i : Nat) (g : FM) (h : (turned φ left l)[i]? = some g) (hφ : ∀ g, (φ g).name = g.name) (hl : left g.name = true) : l[i]? = some g := by
  unfold turned at h
  rw [List.getElem?_map] at h
  cases hh : l[i]? with
  | none => rw [hh] at h; cases h
  | some y =>
    rw [hh] at h
    simp only [Option.map_some, Option.some.injEq] at h
    by_cases hy : left y.name = true
    · rw [if_pos hy] at h; rw [h]
    · rw [if_neg hy] at h
      rw [← h, hφ] at hl; exact absurd hl hy
theorem turned_names (φ : FM → FM) (hφ : ∀ g, (φ g).name = g.name) (left : List UInt8 → Bool) (l : List FM) : (turned φ left l).map (·.name) = l.map (·.name) := by
  unfold turned; rw [List.map_map]; apply List.map_congr_left; intro g _; simp only [Function.comp]; split
  · rfl
  · exact hφ g
end Go.Dk
namespace Go.Proofs.Ytcmfmjmjamfndaa
open Go.RowKit Go.Mx Go.Dk Go.Maps
set_option linter.unusedSimpArgs false
set_option linter.unusedVariables false
section
variable {w w' : World} {base p : Nat} {d : DM} {fs : List FR} {m : Nat} {lv : Value} {x : Int} {V : Nat → Bool → Prop}
theorem look_at' {fs : List FR} {nm : List UInt8} {b : Nat} (h : Mx.look (plOf fs) nm = some b) : ∃ (i : Nat) (f : FR), fs[i]? = some f ∧ f.fm.name = nm ∧ f.fb = b := look_at h
theorem plOf_set {fs : List FR} {i : Nat} {f F : FR} (hi : fs[i]? = some f) (hn : F.fm.name = f.fm.name) (hb : F.fb = f.fb) : plOf (fs.set i F) = plOf fs := by
  unfold plOf
  apply List.ext_getElem?
  intro j
  rw [List.getElem?_map, List.getElem?_map, set_get fs i j F f hi]
  by_cases e : j = i
  · subst e; rw [if_pos rfl, hi]; simp [hn, hb]
  · rw [if_neg e]
theorem pl_at {fs fs' : List FR} (h : plOf fs' = plOf fs) {i : Nat} {f' : FR} (hi : fs'[i]? = some f') : ∃ f, fs[i]? = some f ∧ f.fm.name = f'.fm.name ∧ f.fb = f'.fb := by
  have h1 : (plOf fs')[i]? = some (f'.fm.name, f'.fb) := by unfold plOf; rw [List.getElem?_map, hi]; rfl
  rw [h] at h1
  unfold plOf at h1
  rw [List.getElem?_map] at h1
  cases hh : fs[i]? with
  | none => rw [hh] at h1; cases h1
  | some f => rw [hh] at h1; simp at h1; exact ⟨f, rfl, h1.1, h1.2⟩
def nmI (fs : List FR) (i : Nat) : List UInt8 := match fs[i]? with | some f => f.fm.name | none => []
theorem nmI_at {fs : List FR} {i : Nat} {f : FR} (h : fs[i]? = some f) : nmI fs i = f.fm.name := by unfold nmI; rw [h]
theorem DK.weaken' (h : DK w base p d fs m lv x V) {V' : Nat → Bool → Prop} (hv : ∀ i f b, fs[i]? = some f → V' i b → V i b) : DK w base p d fs m lv x V' :=
  { h with ow := fun i f b hi h' => h.ow i f b hi (hv _ _ _ hi h'), as_ := fun i j a b f g hi hj ha hb => h.as_ i j a b f g hi hj (hv _ _ _ hi ha) (hv _ _ _ hj hb) }
/-- the picks of a crash -/
def Picks (w : World) (v : Value) (l : List Bool) : Prop := SlG w w.heap.size 1 v (l.map fun b => [.bool b])
def pk (picks : List Bool) (l : List RM) (j : Nat) : List RM := (List.range j).filterMap fun i => if picks.getD i false then l[i]? else none
theorem pk_succ (picks : List Bool) (l : List RM) (j : Nat) : pk picks l (j + 1) = pk picks l j ++ (if picks.getD j false then (l[j]?).toList else []) := by
  unfold pk
  rw [List.range_succ, List.filterMap_append]
  congr 1
  by_cases hp : picks.getD j false = true
  · rw [if_pos hp]
    cases hl : l[j]? with
    | none => simp only [List.filterMap_cons, List.filterMap_nil, if_pos hp, hl]; rfl
    | some r => simp only [List.filterMap_cons, List.filterMap_nil, if_pos hp, hl]; rfl
  · rw [if_neg hp]
    simp only [List.filterMap_cons, List.filterMap_nil, if_neg hp]
theorem Below.drewN_refl (w : World) (n : Nat) : Below w.heap.size w (w.drewN n) := below_drewN (Below.refl _ _) n
theorem play_ok {l : List FM} {r : RM} (h : ∀ g ∈ l, SecsOk g.now) (h1 : r.at_ < 65536) (h2 : r.b.length = 16) : ∀ g ∈ Dk.play l r, SecsOk g.now := by
  intro g hg
  obtain ⟨g0, h0, e⟩ := setF_mem hg
  rcases e with rfl | rfl
  · exact h _ h0
  · exact put_ok (h _ h0) _ h1 _ h2
theorem play_names (l : List FM) (r : RM) : (Dk.play l r).map (·.name) = l.map (·.name) := setF_names _ _ _ fun _ => rfl
def Vt : Nat → Bool → Prop := fun _ b => b = true
set_option maxRecDepth 100000 in
set_option maxHeartbeats 1000000 in
theorem crash_any (h : DK w base p d fs m lv x (fun _ _ => True)) (hs : Small d) (pv : Value) (picks : List Bool) (hp : ∀ w', Fr base w w' → Picks w' pv picks) (hpl : picks.length ≤ 1000000000)
    (hlog : ∀ r ∈ d.log, r.at_ < 65536 ∧ r.name.length ≤ maxLen ∧ r.name ∈ d.files.map (·.name)) :
    Calls Try.prog 18 #[dp p, pv] w fun e w' => e = .returned (.tuple #[]) ∧ (∃ fs' lv', DK w' base p (Dk.crash d picks) fs' m lv' x (fun _ _ => True) ∧ plOf fs' = plOf fs) ∧ Fr base w w' := by
  have c1 := h.cells.2.1
  have hmp := h.mp
  have H := hid h
  have HS := hid (And.intro hs (And.intro hp hlog))
  have hdl := hs.llen
  have HB := hid h.base_le
  clear h hs hp hlog
  go_enter Try.func18, Try.ntmps18
  go_wp2_with (first
    | (at_range; refine range_pm _ rfl _ rfl Try.underlying9 Try.underlying51 rfl hmp ?_; intro w0 hrg0 hg0 hs0)
    | go_in)
  go_frame
  go_loopw [5] (fun _ wr => ∃ (left : List UInt8 → Bool) (cnt : Nat) (fs' : List FR), RG Try.prog 9 wr m w.heap.size (plOf fs) left cnt ∧ plOf fs' = plOf fs ∧ DK wr base p { d with files := turned lowF left d.files } fs' m lv x (fun i b => b = true ∨ left (nmI fs i) = true) ∧ Fr base w wr ∧ w.heap.size < wr.heap.size) (fun _ wr => wr.rangeLeft m w.heap.size)
  case atStart =>
    have hb0 : Below w.heap.size w w0 := (Below.refl w.heap.size w).grown hg0 (Nat.le_refl _) (by simp)
    refine ⟨_, _, fs, hrg0, rfl, ?_, Fr.of_below hb0 HB.out, by omega⟩
    have e : turned lowF (fun s => (Mx.look (plOf fs) s).isSome) d.files = d.files := turned_all _ _ _ fun g hg => by
      rw [H.out.files] at hg
      obtain ⟨f, hf, rfl⟩ := List.mem_map.1 hg
      exact look_mem hf
    rw [e]
    exact (H.out.below hb0).weaken fun _ _ _ => trivial
  case round =>
    obtain ⟨left, cnt, fs', hrg, hpl', hD, hFr, hsz⟩ := hrel
    clear hrg0 hg0 hs0 c1
    go_wp2_with (first
      | (at_next; refine next_pm _ rfl _ rfl Try.underlying9 w.heap.size _ _ rfl hrg ?_ ?_)
      | go_in)
    · intro hl0
      rw [turned_none _ _ _ hl0] at hD
      have hD := hD.weaken (V' := Vt) fun _ _ h => .inl h
      have hlg := hD.lg
      obtain ⟨la, ln, lc, hlv⟩ := hlg.sliceOf
      have hllen := fun w' => hlg.slG.len (P := Try.prog) Try.underlying52 (ty := 3) w'
      rw [List.length_map, hlv] at hllen
      have hllen : ∀ w', (Builtin.len_ #[52] 3 #[.slice la ln lc]).run Try.prog w' = .ok (.int .i64 d.log.length) w' := hllen
      have c2 := hD.cells.2.2.1
      rw [hlv] at c2
      have HD := hid (And.intro hD (And.intro hpl' (And.intro hFr hlv)))
      clear hD hlg hrg hpl' hFr hlv hl0
      go_wp2_with fail
      go_loopw [34] (fun s34 wr => ∃ (j : Nat) (fs2 : List FR), s34 = .int .i64 j ∧ j ≤ d.log.length ∧ DK wr base p { d with files := (pk picks d.log j).foldl Dk.play (d.files.map lowF) } fs2 m lv x Vt ∧ plOf fs2 = plOf fs ∧ Fr base w wr ∧
        Hid ((∀ g ∈ (pk picks d.log j).foldl Dk.play (d.files.map lowF), SecsOk g.now) ∧ ((pk picks d.log j).foldl Dk.play (d.files.map lowF)).map (·.name) = d.files.map (·.name))) (fun s34 _ => d.log.length - (intOf s34).toNat)
      case atStart =>
        refine ⟨0, fs', rfl, by omega, HD.out.1, HD.out.2.1, HD.out.2.2.1, hid ⟨?_, ?_⟩⟩
        · intro g hg
          obtain ⟨g0, h0, rfl⟩ := List.mem_map.1 hg
          exact HS.out.1.kept g0 h0
        · show (d.files.map lowF).map _ = _
          rw [List.map_map]; rfl
      case round =>
        obtain ⟨j, fs2, rfl, hj, hD, hpl2, hFr, HOK⟩ := hrel
        clear c2
        by_cases hlt : j < d.log.length
        · have hmem : d.log.getD j default ∈ d.log := by rw [List.getD_eq_getElem?_getD, List.getElem?_eq_getElem hlt]; exact List.getElem_mem _
          have hr16 := HS.out.1.log _ hmem
          have hrl := HS.out.2.2 _ hmem
          have hlv := HD.out.2.2.2
          have hlg := hD.lg
          have hpks := pk_succ picks d.log j
          rw [List.getElem?_eq_getElem hlt, show (some d.log[j]).toList = [d.log.getD j default] by rw [List.getD_eq_getElem?_getD, List.getElem?_eq_getElem hlt]; rfl] at hpks
          obtain ⟨g9, cp9, hvg, hg91, hg92⟩ : ∃ g cp, lv = .slice (some ⟨g, 0, none⟩) (d.log.map lrow).length cp ∧ base ≤ g ∧ g < wr.heap.size := by
            rcases hlg.shape with ⟨_, h0⟩ | h0
            · have := congrArg List.length h0; simp at this; rw [this] at hlt; simp at hlt
            · exact h0
          rw [hlv] at hvg
          simp only [Value.slice.injEq] at hvg
          obtain ⟨rfl, hvg2, rfl⟩ := hvg
          have hlg' : OwnG wr base 73 18 (.slice (some ⟨g9, 0, none⟩) ln lc) (d.log.map lrow) := by rw [← hlv]; exact hlg
          have hjl : j < (d.log.map lrow).length := by simpa using hlt
          have hia := hlg'.addr (P := Try.prog) Try.underlying52 size73 j hjl
          have hrg : wr.rangeAt g9 (j * 18) (lrow (d.log.getD j default)) := by
            have := hlg'.rangeAt j hjl
            rwa [show (d.log.map lrow).getD j [] = lrow (d.log.getD j default) by simp [List.getD_eq_getElem?_getD, List.getElem?_map, List.getElem?_eq_getElem hlt]] at this
          obtain ⟨r, hr⟩ : ∃ r, r = d.log.getD j default := ⟨_, rfl⟩
          rw [← hr] at hrg hr16 hrl hpks
          have hsz : (Try.prog.info? 73).map (·.size) = some (lrow r).length := by rw [lrow_len r hr16]; kernel_rfl
          have hsz2 : (lrow r).length = 18 := lrow_len r hr16
          have hone := lrow_one r
          have hal : Below wr.heap.size wr (wr.alloc (.cells (lrow r).toArray 73)) := (Below.refl _ _).alloc (Nat.le_refl _) _
          have hq7 := alloc_new wr (.cells (lrow r).toArray 73)
          have hFA := hFr.trans (Fr.of_below hal hD.base_le)
          have hDA := hD.below hal
          have hPi := HS.out.2.1 _ hFA
          have hplen := fun w' => hPi.len (P := Try.prog) Try.underlying23 (ty := 3) w'
          rw [List.length_map] at hplen
          have HW := hid (And.intro hDA (And.intro hFA (And.intro hpl2 hPi)))
          have HPK := hid (And.intro hpks (And.intro hr16 hrl))
          have e7 : (wr.alloc (.cells (lrow r).toArray 73)).cell? ⟨wr.heap.size, 0, none⟩ = some (nmv r.name) := row_cells wr (lrow r) 73 0 _ rfl
          have e8 : (wr.alloc (.cells (lrow r).toArray 73)).cell? ⟨wr.heap.size, 1, none⟩ = some (.int .i64 r.at_) := row_cells wr (lrow r) 73 1 _ rfl
          obtain ⟨X, hX⟩ : ∃ X, X = lrow r := ⟨_, rfl⟩
          rw [← hX] at hrg hsz hsz2 hone hal hq7 HW e7 e8
          have HQ7 := hid (And.intro hq7 hX)
          clear hr hpks hr16 hrl hlg hlg' hlv hvg2 hjl hD hFr hpl2 hDA hFA hPi hX hq7 hg91 hg92 hmem
          obtain ⟨pa, pn, pc, rfl⟩ : ∃ oa n c, pv = .slice oa n c := by obtain ⟨oa, c, rfl, _⟩ := HW.out.2.2.2; exact ⟨_, _, _, rfl⟩
          by_cases hjp : j < picks.length
          rotate_left
          · have tp : decide ((picks.length : Int) ≤ (j : Int)) = true := by simp; omega
            have hnp : picks.getD j false = false := by rw [List.getD_eq_getElem?_getD, List.getElem?_eq_none (by omega)]; rfl
            have HNP := hid hnp
            clear hnp
            go_wp2_with (first
              | (refine wpList_load_mid rfl 73 _ rfl g9 (j * 18) rfl X _ hrg Try.underlying73 rfl hsz ?_)
              | (refine wpList_store_new wr rfl 73 _ _ rfl _ 73 X rfl rfl hsz2 hsz hone ?_))
            go_roundw
            case rel =>
              have e9 : pk picks d.log (j + 1) = pk picks d.log j := by rw [HPK.out.1, HNP.out]; simp
              refine ⟨j + 1, fs2, by go_num, by omega, ?_, HW.out.2.2.1, HW.out.2.1, ?_⟩
              · rw [e9]; exact HW.out.1
              · rw [e9]; exact HOK
            case measure => simp [intOf]; omega
          · have tp : decide ((picks.length : Int) ≤ (j : Int)) = false := by simp; omega
            obtain ⟨pb, po, hpb, hpia, hpc⟩ := HW.out.2.2.2.addr (P := Try.prog) Try.underlying23 (fun w => show (sizeOf 4).run Try.prog w = .ok 1 w by kernel_rfl) j (by simpa using hjp)
            have hpc0 : (wr.alloc (.cells X.toArray 73)).cell? ⟨pb, po, none⟩ = some (.bool (picks.getD j false)) := hpc 0 _ (by simp [List.getD_eq_getElem?_getD, List.getElem?_map, List.getElem?_eq_getElem hjp])
            cases hpj : picks.getD j false
            · rw [hpj] at hpc0
              have HNP := hid hpj
              clear hpj hpc
              go_wp2_with (first
                | (refine wpList_load_mid rfl 73 _ rfl g9 (j * 18) rfl X _ hrg Try.underlying73 rfl hsz ?_)
                | (refine wpList_store_new wr rfl 73 _ _ rfl _ 73 X rfl rfl hsz2 hsz hone ?_))
              go_roundw
              case rel =>
                have e9 : pk picks d.log (j + 1) = pk picks d.log j := by rw [HPK.out.1, HNP.out]; simp
                refine ⟨j + 1, fs2, by go_num, by omega, ?_, HW.out.2.2.1, HW.out.2.1, ?_⟩
                · rw [e9]; exact HW.out.1
                · rw [e9]; exact HOK
              case measure => simp [intOf]; omega
            · rw [hpj] at hpc0
              have HNP := hid hpj
              -- the file
              obtain ⟨i, f, hi, hfn, hlkf⟩ : ∃ (i : Nat) (f : FR), fs2[i]? = some f ∧ f.fm.name = r.name ∧ Mx.look (plOf fs2) r.name = some f.fb := by
                rcases HW.out.1.who r.name with ⟨hl, _⟩ | ⟨i, f, h1, h2, h3, _⟩
                · rw [look_none, plOf_names] at hl
                  have hn9 : fs2.map (·.fm.name) = d.files.map (·.name) := by
                    have := HOK.out.2
                    have h8 : (pk picks d.log j).foldl Dk.play (d.files.map lowF) = fs2.map (·.fm) := HW.out.1.files
                    rw [← this, h8, List.map_map]; rfl
                  rw [hn9] at hl
                  exact absurd HPK.out.2.2.2.2 hl
                · exact ⟨i, f, h1, h2, h3⟩
              have hlkr := fun n => (HW.out.1.below (Below.drewN_refl (wr.alloc (.cells X.toArray 73)) n)).look r.name HPK.out.2.2.2.1
              rw [hlkf] at hlkr
              have hlkr' : ∀ n, (Instr.lookup 51 (.map (some m)) (nmv r.name) false).run Try.prog ((wr.alloc (.cells X.toArray 73)).drewN n) = .ok (.pointer (some ⟨f.fb, 0, none⟩)) ((wr.alloc (.cells X.toArray 73)).drewN n) := hlkr
              have c1A := HW.out.1.cells.2.1
              have HFI := hid (And.intro hi hfn)
              clear hpj hpc hlkr hlkf hi hfn
              go_wp2_with (first
                | (refine wpList_load_mid rfl 73 _ rfl g9 (j * 18) rfl X _ hrg Try.underlying73 rfl hsz ?_)
                | (refine wpList_store_new wr rfl 73 _ _ rfl _ 73 X rfl rfl hsz2 hsz hone ?_))
              go_quiet (fail)
              have hbq := Below.drewN_refl (wr.alloc (.cells X.toArray 73)) nq
              have hDB := HW.out.1.below hbq
              have hFB := HW.out.2.1.trans (Fr.of_below hbq HW.out.1.base_le)
              have hq7 := (hbq.block _ (blk_lt HQ7.out.1)).trans HQ7.out.1
              obtain ⟨wB, hwB⟩ : ∃ w, w = (wr.alloc (.cells X.toArray 73)).drewN nq := ⟨_, rfl⟩
              rw [← hwB] at hDB hFB hq7
              rw [← hwB]
              have hilt : i < fs2.length := (List.getElem?_eq_some_iff.1 HFI.out.1).1
              have hmemf : f.fm ∈ (pk picks d.log j).foldl Dk.play (d.files.map lowF) := by
                have h8 : (pk picks d.log j).foldl Dk.play (d.files.map lowF) = fs2.map (·.fm) := HW.out.1.files
                rw [h8]; exact List.mem_map.2 ⟨f, List.mem_of_getElem? HFI.out.1, rfl⟩
              have hnow := HOK.out.1 _ hmemf
              have hL0 := hnow.1
              have hk := HPK.out.2.2.1
              obtain ⟨k, hkk⟩ : ∃ k, k = r.at_ := ⟨_, rfl⟩
              rw [← hkk] at hk e8
              have HKK := hid hkk
              have HB2 := hid (And.intro hDB (And.intro hFB hq7))
              clear e7 c1A hlkr' hbq hwB hkk hDB hFB hq7 hrg hia hpia hpc0 hpb e8 hal hmemf
              obtain ⟨wO, hwO⟩ : ∃ w, w = wr := ⟨_, rfl⟩
              subst hwO
              go_wp2_with fail
              go_loopw [64] (fun _ wr9 => ∃ (n : Nat) (F : FR), f.fm.now.length ≤ n ∧ n ≤ max f.fm.now.length (k + 1) ∧ DK wr9 base p { d with files := (fs2.set i F).map (·.fm) } (fs2.set i F) m lv x Vt ∧ F.fb = f.fb ∧ F.fm = { f.fm with now := grow f.fm.now n } ∧
                Fr base w wr9 ∧ wr9.heap[wO.heap.size]? = some (.cells X.toArray 73 (0, 0)) ∧ base ≤ wr9.heap.size) (fun _ wr9 => k + 1 - lenAt wr9 f.fb)
              case atStart =>
                refine ⟨f.fm.now.length, f, Nat.le_refl _, by omega, ?_, rfl, by rw [grow_self _ _ (Nat.le_refl _)], HB2.out.2.1, HB2.out.2.2, HB2.out.1.base_le⟩
                rw [set_self fs2 i f HFI.out.1]
                have e := HB2.out.1.files
                have h5 := HB2.out.1
                rw [← e]
                exact h5
              case round =>
                obtain ⟨n, F, hn0, hn1, hD, hFb, hFm, hFr, hq, hb⟩ := hrel
                have hi' : (fs2.set i F)[i]? = some F := List.getElem?_set_self hilt
                have hnow' : F.fm.now = grow f.fm.now n := by rw [hFm]
                have hgl : F.fm.now.length = n := by rw [hnow', grow_len]; omega
                obtain ⟨e0, e1, ez⟩ := hD.fcells hi'
                have hown := hD.ow i F true hi' rfl
                obtain ⟨oa, nn, c, hv⟩ := hD.sh i F true hi'
                have hnv : F.nv = .slice oa nn c := hv
                have hown' : OwnG wr base 71 16 F.nv (F.fm.now.map srow) := hown
                have hlen := fun w' => secs_len hown' w' (ty := 3)
                rw [hgl, hnv] at hlen
                rw [hFb, hnv] at e0
                rw [hFb] at ez
                have hez := ez 0
                have hfb := (hD.fc i F hi').1
                rw [hFb] at hfb
                have hnn : nn = n := by
                  obtain ⟨_, _, h9, _⟩ := hown'.slG
                  rw [hnv] at h9
                  simp only [Value.slice.injEq] at h9
                  rw [h9.2.1]; simp; exact hgl
                have e8 : wr.cell? ⟨wO.heap.size, 1, none⟩ = some (.int .i64 k) := by
                  simp only [World.cell?, hq]; rw [HQ7.out.2]; simp [lrow, HKK.out]
                by_cases hle : n ≤ k
                · have tle : decide ((n : Int) ≤ (k : Int)) = true := by simp; omega
                  have HO := hid (And.intro hD (And.intro hown' (And.intro hFr (And.intro hb hq))))
                  have HFQ := hid (And.intro hFb (And.intro hFm hnow'))
                  have HNN := hid (And.intro hnn hgl)
                  have HNV := hid hnv
                  have HFB := hid hfb
                  clear hnn hgl hD hown hown' hFr hq hFm hnow' hfb e1 ez hv hnv hb
                  go_wp2_with fail
                  go_quiet (fail)
                  obtain ⟨wB, hwB⟩ : ∃ w, w = wr.drewN nq := ⟨_, rfl⟩
                  have hbq := Below.drewN_refl wr nq
                  rw [← hwB] at hbq
                  rw [← hwB]
                  have hDB := HO.out.1.below hbq
                  have hownB := HO.out.2.1.below hbq (Nat.le_refl _)
                  have hfbB := (hbq.block _ (blk_lt HFB.out)).trans HFB.out
                  have hqB := (hbq.block _ (blk_lt HO.out.2.2.2.2)).trans HO.out.2.2.2.2
                  have hal : Below wB.heap.size wB (wB.alloc (.cells zsec.cells 71)) := (Below.refl _ _).alloc (Nat.le_refl _) _
                  have hownA := hownB.below hal (Nat.le_refl _)
                  have hcell : ∀ j u, (srow zs)[j]? = some u → (wB.alloc (.cells zsec.cells 71)).cell? ⟨wB.heap.size, j, none⟩ = some u := fun j u hj => row_cells wB (srow zs) 71 j u hj
                  have hgn : ∀ w1, (wB.alloc (.cells zsec.cells 71)).grownBy w1 (Value.slice oa nn c).ownBlock → w1.cell? ⟨f.fb, 0, none⟩ = some (.slice oa nn c) ∧ w1.frozen? ⟨f.fb, 0, none⟩ = false := fun w1 hg => by
                    have hgg : (wB.alloc (.cells zsec.cells 71)).grownBy w1 F.nv.ownBlock := by rw [HNV.out]; exact hg
                    have := (hgg.block _ (by have := hal.size; have := blk_lt hfbB; omega) (fun e => hownB.not hfbB (by decide) e.symm)).trans ((hal.block _ (blk_lt hfbB)).trans hfbB)
                    refine ⟨?_, ?_⟩
                    · simp [World.cell?, this, HNV.out]
                    · simp [World.frozen?, this]
                  have HGN := hid hgn
                  have hl1 : (F.fm.now.map srow).length + 1 ≤ 140737488355328 := by rw [List.length_map, HNN.out.2]; omega
                  have hl2 : ((F.fm.now.map srow).length + 1) * 16 ≤ 140737488355328 := by rw [List.length_map, HNN.out.2]; omega
                  have hbA : base ≤ (wB.alloc (.cells zsec.cells 71)).heap.size := by have := hal.size; have := hDB.base_le; omega
                  have hzo := srow_one zs
                  have e0B : wB.cell? ⟨f.fb, 0, none⟩ = some (.slice oa nn c) := by simp [World.cell?, hfbB, HNV.out]
                  rw [HNV.out] at hownA
                  have HB9 := hid (And.intro hDB (And.intro hownB (And.intro hfbB (And.intro hqB (And.intro hal hbq)))))
                  clear hgn hDB hownB hfbB hqB hwB hal hbq e0
                  go_wp2_with (at_builtin; refine append_gn _ rfl _ _ 63 71 zsec 16 16 rfl Try.underlying63 Try.info71 rfl (by decide) base _ (F.fm.now.map srow) rfl hownA wB.heap.size _ (srow zs) rfl rfl hcell hzo hl2 hl1 hbA ?_; intro v' w1 ho1 hg1 hb1 hbk1; obtain ⟨oa', n', c', rfl⟩ := ho1.sliceOf; obtain ⟨hgc, hgf⟩ := HGN.out w1 hg1)
                  go_roundw
                  case rel =>
                    have hi2 : (fs2.set i F)[i]? = some F := List.getElem?_set_self hilt
                    have hDB := HB9.out.1
                    have hal := HB9.out.2.2.2.2.1
                    have hg1' : (wB.alloc (.cells zsec.cells 71)).grownBy w1 F.nv.ownBlock := by rw [HNV.out]; exact hg1
                    have hkp : Kept wB w1 (fun q => F.nv.ownBlock ≠ some q) := (Kept.of_below hal fun _ h _ => h).trans (Kept.grown hg1' fun k' hk' hN => hN hk')
                    have hbl : Below base wB w1 := (hal.mono hDB.base_le).trans hb1
                    have ho1' : OwnG w1 base 71 16 (.slice oa' n' c') ((grow f.fm.now (n + 1)).map srow) := by
                      rw [← grow_snoc f.fm.now (n + 1) n hn0 (by omega), List.map_append, ← HFQ.out.2.2]; exact ho1
                    have hnew := DK.newSl hDB hi2 true Vt (fun j b hjb hv => hv) hkp (fun q hq => hq rfl) hbl (.slice oa' n' c') (grow f.fm.now (n + 1)) (fun _ => ho1')
                      (fun _ q hq => by
                        rcases hbk1 q hq with h | h
                        · exact .inl ⟨true, rfl, by show F.nv.ownBlock = _; rw [HNV.out]; exact h⟩
                        · exact .inr (Nat.le_trans hal.size h))
                      (fun _ hvf => by cases hvf) ⟨_, _, _, rfl⟩
                    rw [List.set_set, HFQ.out.1] at hnew
                    have hFrB : Fr base w wB := HO.out.2.2.1.trans (Fr.of_below HB9.out.2.2.2.2.2 HO.out.1.base_le)
                    refine ⟨n + 1, _, by omega, by omega, hnew.1, HFQ.out.1, ?_, hFrB.trans hnew.2, ?_, by have h9 := hnew.1.base_le; exact h9⟩
                    · show ({ F.fm with now := _ } : FM) = _
                      rw [HFQ.out.2.1]
                    · have h1 := hkp.block _ (blk_lt HB9.out.2.2.2.1) (HB9.out.2.1.not HB9.out.2.2.2.1 (by decide))
                      have hfq : wO.heap.size ≠ f.fb := blk_ne HB9.out.2.2.2.1 HB9.out.2.2.1 (by decide)
                      rw [Below.heap_setCell w1 ⟨f.fb, 0, none⟩ _ _ hfq]
                      exact h1.trans HB9.out.2.2.2.1
                  case measure =>
                    have e2 : lenAt wr f.fb = n := by
                      have h9 : wr.cell? ⟨f.fb, 0, none⟩ = some (.slice oa nn c) := by simp [World.cell?, HFB.out, HNV.out]
                      rw [lenAt_of h9, HNN.out.1]
                    have e3 : lenAt (w1.setCell ⟨f.fb, 0, none⟩ (.slice oa' n' c')) f.fb = n + 1 := by
                      rw [lenAt_of (cs_same hgc)]
                      obtain ⟨_, _, h9, _⟩ := ho1.slG
                      simp only [Value.slice.injEq] at h9
                      rw [h9.2.1]; simp; exact HNN.out.2
                    rw [e2, e3]; omega
                · have tle : decide ((n : Int) ≤ (k : Int)) = false := by simp; omega
                  obtain ⟨g, cp, hvg, hbg, hglt⟩ : ∃ g cp, F.nv = .slice (some ⟨g, 0, none⟩) (F.fm.now.map srow).length cp ∧ base ≤ g ∧ g < wr.heap.size := by
                    rcases hown'.shape with ⟨_, h0⟩ | h0
                    · have := congrArg List.length h0; simp at this; rw [this] at hgl; simp at hgl; omega
                    · exact h0
                  rw [hnv] at hvg
                  simp only [Value.slice.injEq] at hvg
                  obtain ⟨rfl, hvg2, rfl⟩ := hvg
                  subst hnn
                  have hs16 := HPK.out.2.1
                  obtain ⟨s, hs⟩ : ∃ s, s = r.b := ⟨_, rfl⟩
                  rw [← hs] at hs16
                  have hkl : k < (F.fm.now.map srow).length := by simp; omega
                  have hS16 : (srow s).length = 16 := by rw [srow_len, hs16]
                  have hpu : F.fm.now.set k s = put f.fm.now k s := by rw [hnow', grow_exit _ _ k hn0 hn1 hle]; rfl
                  have hsz71 : (Try.prog.info? 71).map (·.size) = some (srow s).length := by rw [hS16]; kernel_rfl
                  have hone7 := srow_one s
                  have hFown : OwnG wr base 71 16 (.slice (some ⟨g, 0, none⟩) nn c) (F.fm.now.map srow) := by rw [← hnv]; exact hown'
                  have hia := hFown.addr (P := Try.prog) Try.underlying63 size71 k hkl
                  have HE := hid (And.intro hD (And.intro hFown (And.intro hFr (And.intro hq (And.intro hi' hfb)))))
                  have HF3 := hid (And.intro hFb (And.intro hFm (And.intro hpu (And.intro hnv (And.intro hs hkl)))))
                  clear hD hown hown' hFr hq hFm hFb hnow' hfb e1 ez hv hnv hb hgl hvg2 hpu hFown hs hkl hi' hs16
                  go_wp2_with fail
                  go_quiet (fail)
                  obtain ⟨wB, hwB⟩ : ∃ w, w = wr.drewN nq := ⟨_, rfl⟩
                  have hbq := Below.drewN_refl wr nq
                  rw [← hwB] at hbq
                  rw [← hwB]
                  have hDB := HE.out.1.below hbq
                  have hFrB := HE.out.2.2.1.trans (Fr.of_below hbq HE.out.1.base_le)
                  have hownB := HE.out.2.1.below hbq (Nat.le_refl _)
                  have hqB := (hbq.block _ (blk_lt HE.out.2.2.2.1)).trans HE.out.2.2.2.1
                  have hfbB := (hbq.block _ (blk_lt HE.out.2.2.2.2.2)).trans HE.out.2.2.2.2.2
                  have hth : (World.drew wB).there g (k * 16) (srow s).length := by rw [hS16]; exact hownB.there _ _ (by have h5 := hownB.parts.2.2.1; have := HF3.out.2.2.2.2.2; omega)
                  have hrg : (World.drew wB).rangeAt wO.heap.size 2 (srow s) := fun j u hu => by
                    have hq2 : (World.drew wB).heap[wO.heap.size]? = some (.cells X.toArray 73 (0, 0)) := hqB
                    simp only [World.cell?, hq2]
                    rw [HQ7.out.2]
                    have e : (lrow r).toArray[2 + j]? = (srow r.b)[j]? := by
                      simp only [List.getElem?_toArray, lrow]
                      rw [show 2 + j = j + 1 + 1 by omega, List.getElem?_cons_succ, List.getElem?_cons_succ]
                    rw [← HF3.out.2.2.2.2.1] at e
                    rw [← hu, ← e]; rfl
                  have e0B : wB.cell? ⟨f.fb, 0, none⟩ = some (.slice (some ⟨g, 0, none⟩) nn c) := by simp [World.cell?, hfbB, HF3.out.2.2.2.1]
                  have e8B : wB.cell? ⟨wO.heap.size, 1, none⟩ = some (.int .i64 k) := by
                    simp only [World.cell?, hqB]; rw [HQ7.out.2]; simp [lrow, HKK.out]
                  have HB9 := hid (And.intro hDB (And.intro hownB (And.intro hFrB (And.intro hfbB hbq))))
                  clear hDB hownB hFrB hfbB hqB hwB hbq e0 e8 hlen hez tle
                  obtain ⟨Y, hY⟩ : ∃ Y, Y = srow s := ⟨_, rfl⟩
                  rw [← hY] at hsz71 hone7 hth hrg hS16
                  have HY := hid hY
                  clear hY
                  go_wp2_with fail
                  refine wp_region_still_tail 9 (by kernel_rfl) (by kernel_rfl) ?_
                  simp only [List.take_succ_cons, List.take_zero, List.drop_succ_cons, List.drop_zero]
                  repeat (first | (refine wpStill_load_mid rfl 71 _ rfl wO.heap.size 2 rfl Y _ hrg Try.underlying71 rfl hsz71 ?_) | still_step)
                  refine wpStill_nil ?_
                  change wpList _ _ _ _ _ (World.drew _)
                  refine wpList_store_list rfl 71 _ _ rfl g (k * 16) Y rfl rfl hth hsz71 hone7 ?_
                  have hbg2 : base ≤ g := hbg
                  have hkset : Kept wB ((World.drew wB).setCells g (k * 16) Y) (fun q => F.nv.ownBlock ≠ some q) := (Kept.drew wB _).trans (Kept.setCells _ g (k * 16) Y fun hN => hN (by rw [HF3.out.2.2.2.1]; rfl))
                  have hbset : Below base wB ((World.drew wB).setCells g (k * 16) Y) := Mx.Below.setCells Y ((Below.refl base wB).drew) hbg
                  have hown3 : OwnG ((World.drew wB).setCells g (k * 16) Y) base 71 16 (.slice (some ⟨g, 0, none⟩) nn c) ((put f.fm.now k s).map srow) := by
                    have h3 : OwnG (World.drew wB) base 71 16 (.slice (some ⟨g, 0, none⟩) nn c) (F.fm.now.map srow) := HB9.out.2.1
                    have := h3.setAt k Y HF3.out.2.2.2.2.2 hS16
                    rw [HY.out, ← List.map_set, HF3.out.2.2.1] at this
                    rw [HY.out]; exact this
                  have hi2 : (fs2.set i F)[i]? = some F := HE.out.2.2.2.2.1
                  have hnew := DK.newSl HB9.out.1 hi2 true Vt (fun _ _ _ h => h) hkset (fun q hq => hq rfl) hbset (.slice (some ⟨g, 0, none⟩) nn c) (put f.fm.now k s) (fun _ => hown3)
                    (fun _ q hq => .inl ⟨true, rfl, by show F.nv.ownBlock = _; rw [HF3.out.2.2.2.1]; exact hq⟩) (fun _ hvf => by cases hvf) ⟨_, _, _, rfl⟩
                  have hfb6 : ((World.drew wB).setCells g (k * 16) Y).heap[f.fb]? = some (.cells #[F.nv, F.kv] 65 (0, 0)) := (hkset.block _ (blk_lt HB9.out.2.2.2.1) (fun e => by
                    rw [HF3.out.2.2.2.1] at e
                    exact HB9.out.2.1.not HB9.out.2.2.2.1 (by decide) e)).trans HB9.out.2.2.2.1
                  have hc6 : ((World.drew wB).setCells g (k * 16) Y).cell? ⟨f.fb, 0, none⟩ = some (.slice (some ⟨g, 0, none⟩) nn c) := by simp [World.cell?, hfb6, HF3.out.2.2.2.1]
                  rw [List.set_set, HF3.out.1] at hnew
                  have hnew1 := hnew.1
                  have hnew2 := hnew.2
                  rw [show offB true = 0 from rfl, setCell_self hc6] at hnew1 hnew2
                  have hFF : (upF F true (.slice (some ⟨g, 0, none⟩) nn c) (put f.fm.now k s)).fm = { f.fm with now := put f.fm.now k s } := by
                    show ({ F.fm with now := _ } : FM) = _
                    rw [HF3.out.2.1]
                  obtain ⟨F2, hF2⟩ : ∃ F2, F2 = upF F true (.slice (some ⟨g, 0, none⟩) nn c) (put f.fm.now k s) := ⟨_, rfl⟩
                  have hF2b : F2.fb = f.fb := by rw [hF2, (upF_fb _ _ _ _).1, HF3.out.1]
                  rw [← hF2] at hnew1 hFF
                  obtain ⟨w6, hw6⟩ : ∃ w6, w6 = (World.drew wB).setCells g (k * 16) Y := ⟨_, rfl⟩
                  rw [← hw6] at hnew1 hnew2
                  rw [← hw6]
                  have HN := hid (And.intro hnew1 (And.intro (HB9.out.2.2.1.trans hnew2) (And.intro hFF hF2b)))
                  clear hkset hbset hown3 hnew hfb6 hc6 hnew1 hnew2 hFF hF2 hw6 hF2b hth hrg e0B e8B
                  go_wp2_with fail
                  go_roundw
                  case rel =>
                    have e9 : pk picks d.log (j + 1) = pk picks d.log j ++ [r] := by rw [HPK.out.1, HNP.out]; rfl
                    have eS := setF_at HW.out.1 HFI.out.1 F2 (fun g => { g with now := put g.now r.at_ r.b }) (by rw [HN.out.2.2.1, HKK.out, HF3.out.2.2.2.2.1])
                    rw [HFI.out.2] at eS
                    refine ⟨j + 1, fs2.set i F2, by go_num, by omega, ?_, ?_, HN.out.2.1, ?_⟩
                    · rw [e9, List.foldl_append]
                      have h1 := HN.out.1
                      rw [eS] at h1
                      exact h1
                    · rw [plOf_set (F := F2) HFI.out.1 (by rw [HN.out.2.2.1]) HN.out.2.2.2]; exact HW.out.2.2.1
                    · rw [e9, List.foldl_append]
                      exact hid ⟨play_ok HOK.out.1 HPK.out.2.2.1 HPK.out.2.1, (play_names _ _).trans HOK.out.2⟩
                  case measure => simp [intOf]; omega
        · obtain rfl : j = d.log.length := by omega
          have hpk : pk picks d.log d.log.length = Dk.picked picks d.log := rfl
          rw [hpk] at hD HOK
          obtain ⟨wO, hwO⟩ : ∃ w, w = wr := ⟨_, rfl⟩
          subst hwO
          have c1B := hD.cells.2.1
          have hmp2 := hD.mp
          obtain ⟨G, hG⟩ : ∃ G, G = (Dk.picked picks d.log).foldl Dk.play (d.files.map lowF) := ⟨_, rfl⟩
          rw [← hG] at hD HOK
          have HG := hid hG
          have H2 := hid (And.intro hD (And.intro hpl2 hFr))
          clear hD hpl2 hFr hG hpk
          go_wp2_with (first
            | (at_range; refine range_pm _ rfl _ rfl Try.underlying9 Try.underlying51 rfl hmp2 ?_; intro w0 hrg0 hg0 hs0)
            | go_in)
          try go_frame
          go_loopw [10] (fun _ wr => ∃ (left : List UInt8 → Bool) (cnt : Nat) (fs3 : List FR), RG Try.prog 9 wr m wO.heap.size (plOf fs2) left cnt ∧ plOf fs3 = plOf fs2 ∧ DK wr base p { d with files := turned keepF left G } fs3 m lv x (fun i b => b = true ∨ left (nmI fs2 i) = false) ∧ Fr base w wr ∧ wO.heap.size < wr.heap.size) (fun _ wr => wr.rangeLeft m wO.heap.size)
          case atStart =>
            have hb0 : Below wO.heap.size wO w0 := (Below.refl wO.heap.size wO).grown hg0 (Nat.le_refl _) (by simp)
            refine ⟨_, _, fs2, hrg0, rfl, ?_, H2.out.2.2.trans (Fr.of_below hb0 H2.out.1.base_le), by omega⟩
            have hGf : G = fs2.map (·.fm) := H2.out.1.files
            have e : turned keepF (fun s => (Mx.look (plOf fs2) s).isSome) G = G := turned_all _ _ _ fun g hg => by
              rw [hGf] at hg
              obtain ⟨f, hf, rfl⟩ := List.mem_map.1 hg
              exact look_mem hf
            rw [e]
            refine (H2.out.1.below hb0).weaken' fun i f b hi hv => ?_
            rcases hv with hv | hv
            · exact hv
            · rw [nmI_at hi, look_mem (List.mem_of_getElem? hi)] at hv; cases hv
          case round =>
            obtain ⟨left, cnt, fs3, hrg, hpl3, hD, hFr, hsz⟩ := hrel
            clear hrg0 hg0 hs0 c1B
            go_wp2_with (first
              | (at_next; refine next_pm _ rfl _ rfl Try.underlying9 wO.heap.size _ _ rfl hrg ?_ ?_)
              | go_in)
            · intro hl0
              rw [turned_none _ _ _ hl0] at hD
              have hD := hD.weaken (V' := fun _ _ => True) fun i b _ => .inr (hl0 _)
              have e2 := hD.cells.2.2.1
              have h1 := (hD.newLog (w' := wr) ⟨Nat.le_refl _, fun _ _ _ => rfl⟩ (Below.refl _ _) (.slice none 0 0) [] (OwnG.nil _ _ _ _))
              have h2 : DK ((wr.setCell ⟨p, 2, none⟩ (.slice none 0 0)).setCell ⟨p, 3, none⟩ (.int .i64 0)) base p _ fs3 m _ x _ := h1.1.setLeft 0
              have f2 : Fr base _ ((wr.setCell ⟨p, 2, none⟩ (.slice none 0 0)).setCell ⟨p, 3, none⟩ (.int .i64 0)) := h1.1.frP 3 (.int .i64 0)
              have h3 := h2.setOff false
              have f3 := h2.frP 4 (.bool false)
              have z1 := hD.fz 2
              have g3 := h1.1.cells.2.2.2.1
              have z2 := h1.1.fz 3
              have g4 := h2.cells.2.2.2.2.1
              have z3 := h2.fz 4
              have HE := hid (And.intro h3 (And.intro (hFr.trans (h1.2.trans (f2.trans f3))) (hpl3.trans H2.out.2.1)))
              clear hD h1 h2 f2 h3 f3 hrg hFr hpl3
              go_wp2_with fail
              go_end0
              refine ⟨rfl, ⟨fs3, ⟨.slice none 0 0, ?_⟩, HE.out.2.2⟩, HE.out.2.1⟩
              have e9 : Dk.crash d picks = { { { { d with files := G.map keepF } with log := [] } with left := 0 } with off := false } := by
                unfold Dk.crash; rw [HG.out]; rfl
              rw [e9]; exact HE.out.1
            · intro s b w1 cnt1 hlk hls hrg1 hlt hg1 hs1 hen
              rw [← hpl3] at hlk
              obtain ⟨i, f, hi, rfl, rfl⟩ := look_at hlk
              have hbo : base ≤ wO.heap.size := H2.out.1.base_le
              have hbr : Below base wr w1 := (Below.refl base wr).grown hg1 hD.base_le (fun k hk => by cases hk; exact hbo)
              obtain ⟨f0, hf0, hf0n, hf0b⟩ := pl_at hpl3 hi
              have hnm : nmI fs2 i = f.fm.name := by rw [nmI_at hf0, hf0n]
              have hkr : Kept wr w1 (fun q => q ≠ wO.heap.size) := Kept.grown hg1 fun k hk hN => by cases hk; exact hN rfl
              have hit := hrg.iter
              obtain ⟨ia, ib, ic, hit⟩ := hit
              have hncell : ∀ {q : Nat} {c : Array Value} {t : TypeId} {fr : Nat × Nat}, wr.heap[q]? = some (.cells c t fr) → q ≠ wO.heap.size := fun {q c t fr} hq e => by rw [e, hit] at hq; cases hq
              have hnown : ∀ {v : Value} {e : TypeId} {s : Nat} {rows : List (List Value)}, OwnG wr base e s v rows → v.ownBlock ≠ some wO.heap.size := fun {v e s rows} ho hv => ho.notMap hit (fun _ _ _ h => by cases h) hv
              have hmr : m ≠ wO.heap.size := fun e => by
                obtain ⟨_, _, hm9⟩ := hD.mp.isMap
                rw [e, hit] at hm9; cases hm9
              have hD1 : DK w1 base p { d with files := turned keepF left G } fs3 m lv x (fun i b => b = true ∨ left (nmI fs2 i) = false) :=
                hD.keep hkr (hncell hD.dk) hmr (fun k hk e => by subst e; exact hnown hD.lg hk) (fun j g hj => hncell (hD.fc j g hj).1) (fun j g b hj hv k hk e => by subst e; exact hnown (hD.ow j g b hj hv) hk)
              have hFr1 : Fr base wr w1 := ⟨hbr, hkr.imp fun q _ hq => by rintro rfl; exact not_foreign_map hit (fun _ _ _ h => by cases h) hq⟩
              obtain ⟨e0, e1, ez⟩ := hD1.fcells hi
              obtain ⟨na, nn, nc, hnv⟩ := hD1.sh i f true hi
              have hnv' : f.nv = .slice na nn nc := hnv
              rw [hnv'] at e0
              have hnow := hD1.ow i f true hi (.inl rfl)
              have hnow' : OwnG w1 base 71 16 f.nv (f.fm.now.map srow) := hnow
              rw [hnv'] at hnow'
              have hGi : G[i]? = some f.fm := by
                have h8 : turned keepF left G = fs3.map (·.fm) := hD.files
                refine turned_at keepF left G i f.fm ?_ (fun _ => rfl) hls
                rw [h8, List.getElem?_map, hi]; rfl
              have hok := HOK.out.1 _ (List.mem_of_getElem? hGi)
              have HC := hid (clone_any _ f.fm.now base w1 hnow' hok.1)
              have hts := turned_step keepF (fun _ => rfl) left G f.fm.name hls
              have hfm9 : f.fb ≠ m := fun e => by
                obtain ⟨_, _, hm9⟩ := hD.mp.isMap
                have := (hD.fc i f hi).1
                rw [e, hm9] at this; cases this
              have hsz1 : wO.heap.size < w1.heap.size := by have := hbr.size; omega
              have HN := hid (And.intro hD1 (And.intro hts (And.intro (hFr.trans hFr1) (And.intro hrg1 (And.intro hlt (And.intro hpl3 (And.intro hi hrg)))))))
              have hfbm := hid (And.intro (hncell (hD.fc i f hi).1) (And.intro hfm9 (And.intro hsz1 (And.intro hnm (And.intro hls hbo)))))
              clear hts hD hD1 hFr hFr1 hrg1 hrg hlt hg1 hnow hnow' hnv hnv' hbr hkr hit hncell hnown hpl3 hf0 hf0n hf0b hnm hls hlk hsz1 hfm9 hok hGi e1 ez
              go_wp2_with fail
              refine HC.out.mono ?_
              rintro e w2 ⟨v', rfl, ho1, hb1⟩
              obtain ⟨oa', n', c', rfl⟩ := ho1.sliceOf
              have hD2 := HN.out.1.below hb1
              have hfb1 := (HN.out.1.fc i f HN.out.2.2.2.2.2.2.1).1
              have hfb2 := (hb1.block _ (blk_lt hfb1)).trans hfb1
              have g1 : w2.cell? ⟨f.fb, 1, none⟩ = some f.kv := by simp [World.cell?, hfb2]
              have gz : w2.frozen? ⟨f.fb, 1, none⟩ = false := by simp [World.frozen?, hfb2]
              have hbe : base ≤ w1.heap.size := HN.out.1.base_le
              have hnew := DK.newSl HN.out.1 HN.out.2.2.2.2.2.2.1 false (fun j b => b = true ∨ left (nmI fs2 j) = false ∨ j = i) (fun j b hjb hv => by
                  rcases hv with hv | hv | hv
                  · exact .inl hv
                  · exact .inr hv
                  · rcases hjb with hj | hj
                    · exact absurd hv hj
                    · cases b
                      · exact absurd rfl hj
                      · exact .inl rfl) (N := fun _ => True) (.of_below hb1 fun _ h _ => h) (fun _ _ => trivial) (hb1.mono hbe) (.slice oa' n' c') f.fm.now (fun _ => ho1.any_base hbe)
                (fun _ q hq => .inr (ho1.ge q hq)) (fun _ _ q hq1 hq2 => by
                  have h1 := ho1.ge q hq1
                  have h2 := (HN.out.1.ow i f true HN.out.2.2.2.2.2.2.1 (.inl rfl)).lt q hq2
                  omega) ⟨_, _, _, rfl⟩
              have hset := setF_at HN.out.1 HN.out.2.2.2.2.2.2.1 (upF f false (.slice oa' n' c') f.fm.now) keepF rfl
              rw [hset, show (offB false) = 1 from rfl] at hnew
              have hnd := HN.out.1.nodup
              have hw' := hnew.1.weaken' (V' := fun j b => b = true ∨ (left (nmI fs2 j) && !(nmI fs2 j == f.fm.name)) = false) fun j g b hj hv => by
                rcases hv with hv | hv
                · exact .inl hv
                · right
                  cases hl : left (nmI fs2 j)
                  · exact .inl rfl
                  · right
                    rw [hl] at hv
                    simp at hv
                    have hpl9 : plOf (fs3.set i (upF f false (.slice oa' n' c') f.fm.now)) = plOf fs2 := by
                      rw [plOf_set (F := upF f false (.slice oa' n' c') f.fm.now) HN.out.2.2.2.2.2.2.1 rfl rfl]; exact HN.out.2.2.2.2.2.1
                    obtain ⟨g0, hg0, hg0n, _⟩ := pl_at hpl9 hj
                    obtain ⟨f0, hf0, hf0n, _⟩ := pl_at HN.out.2.2.2.2.2.1 HN.out.2.2.2.2.2.2.1
                    rw [nmI_at hg0] at hv
                    exact nodup_at (H2.out.1.nodup) hg0 hf0 (by rw [hv, hf0n])
              have HE := hid (And.intro hw' (And.intro hnew.2 (And.intro (Fr.of_below hb1 hbe) hb1)))
              clear hnew hset hw' hD2 ho1 hb1 hfb1 hfb2
              go_wp2_with fail
              go_roundw
              case rel =>
                have hrg2 := HN.out.2.2.2.1.blocks (w' := w2) (HE.out.2.2.2.block _ HN.out.1.mp.lt) (HE.out.2.2.2.block _ HN.out.2.2.2.1.lt)
                refine ⟨_, cnt1, fs3.set i (upF f false (.slice oa' n' c') f.fm.now), hrg2.blocks (Below.heap_setCell _ ⟨f.fb, 1, none⟩ _ _ (Ne.symm hfbm.out.2.1)) (Below.heap_setCell _ ⟨f.fb, 1, none⟩ _ _ (Ne.symm hfbm.out.1)), ?_, ?_, HN.out.2.2.1.trans HE.out.2.1, by have := hfbm.out.2.2.1; have := HE.out.2.2.2.size; simp; omega⟩
                · rw [plOf_set (F := upF f false (.slice oa' n' c') f.fm.now) HN.out.2.2.2.2.2.2.1 rfl rfl]; exact HN.out.2.2.2.2.2.1
                · rw [← HN.out.2.1]; exact HE.out.1
              case measure =>
                have hrg2 := HN.out.2.2.2.1.blocks (w' := w2) (HE.out.2.2.2.block _ HN.out.1.mp.lt) (HE.out.2.2.2.block _ HN.out.2.2.2.1.lt)
                have hr9 := hrg2.blocks (w' := w2.setCell ⟨f.fb, 1, none⟩ (.slice oa' n' c')) (Below.heap_setCell _ ⟨f.fb, 1, none⟩ _ _ (Ne.symm hfbm.out.2.1)) (Below.heap_setCell _ ⟨f.fb, 1, none⟩ _ _ (Ne.symm hfbm.out.1))
                rw [hr9.left_eq, HN.out.2.2.2.2.2.2.2.left_eq]
                exact HN.out.2.2.2.2.1
    · intro s b w1 cnt1 hlk hls hrg1 hlt hg1 hs1 hen
      rw [← hpl'] at hlk
      obtain ⟨i, f, hi, rfl, rfl⟩ := look_at hlk
      have hbr : Below base wr w1 := (Below.refl base wr).grown hg1 hD.base_le (fun k hk => by cases hk; exact HB.out)
      obtain ⟨f0, hf0, hf0n, hf0b⟩ := pl_at hpl' hi
      have hnm : nmI fs i = f.fm.name := by rw [nmI_at hf0, hf0n]
      have hkr : Kept wr w1 (fun q => q ≠ w.heap.size) := Kept.grown hg1 fun k hk hN => by cases hk; exact hN rfl
      -- the blocks of the disk are not the range's
      have hit := hrg.iter
      obtain ⟨ia, ib, ic, hit⟩ := hit
      have hncell : ∀ {q : Nat} {c : Array Value} {t : TypeId} {fr : Nat × Nat}, wr.heap[q]? = some (.cells c t fr) → q ≠ w.heap.size := fun {q c t fr} hq e => by rw [e, hit] at hq; cases hq
      have hnown : ∀ {v : Value} {e : TypeId} {s : Nat} {rows : List (List Value)}, OwnG wr base e s v rows → v.ownBlock ≠ some w.heap.size := fun {v e s rows} ho hv => ho.notMap hit (fun _ _ _ h => by cases h) hv
      have hmr : m ≠ w.heap.size := fun e => by
        obtain ⟨_, _, hm9⟩ := hD.mp.isMap
        rw [e, hit] at hm9; cases hm9
      have hD1 : DK w1 base p { d with files := turned lowF left d.files } fs' m lv x (fun i b => b = true ∨ left (nmI fs i) = true) :=
        hD.keep hkr (hncell hD.dk) hmr (fun k hk e => by subst e; exact hnown hD.lg hk) (fun j g hj => hncell (hD.fc j g hj).1) (fun j g b hj hv k hk e => by subst e; exact hnown (hD.ow j g b hj hv) hk)
      have hFr1 : Fr base wr w1 := ⟨hbr, hkr.imp fun q _ hq => by rintro rfl; exact not_foreign_map hit (fun _ _ _ h => by cases h) hq⟩
      obtain ⟨e0, e1, ez⟩ := hD1.fcells hi
      have hez := ez 0
      obtain ⟨ka, kn, kc, hkv⟩ := hD1.sh i f false hi
      have hkv' : f.kv = .slice ka kn kc := hkv
      rw [hkv'] at e1
      have hkow := hD1.ow i f false hi (.inr (by rw [hnm]; exact hls))
      have hkow' : OwnG w1 base 71 16 f.kv (f.fm.kept.map srow) := hkow
      rw [hkv'] at hkow'
      have hnew := DK.newSl hD1 hi true (fun j b => b = true ∨ (left (nmI fs j) && !(nmI fs j == f.fm.name)) = true) (fun j b hjb hv => by
          rcases hv with hv | hv
          · exact .inl hv
          · exact .inr (by simp at hv; exact hv.1)) (N := fun _ => True) ⟨Nat.le_refl _, fun _ _ _ => rfl⟩ (fun _ _ => trivial) (Below.refl base w1) (.slice ka kn kc) f.fm.kept (fun _ => hkow')
          (fun _ q hq => .inl ⟨false, .inr (by rw [hnm]; exact hls), by show f.kv.ownBlock = _; rw [hkv']; exact hq⟩)
          (fun _ hv => by rw [hnm] at hv; simp at hv) ⟨_, _, _, rfl⟩
      have hset := setF_at hD1 hi (upF f true (.slice ka kn kc) f.fm.kept) lowF rfl
      rw [hset, show (offB true) = 0 from rfl] at hnew
      have hts := turned_step lowF (fun _ => rfl) left d.files f.fm.name hls
      have HN := hid (And.intro hnew (And.intro hts (And.intro (hFr.trans hFr1) (And.intro hrg1 (And.intro hlt (And.intro hpl' (And.intro hi hrg)))))))
      have hsz1 : w.heap.size < w1.heap.size := by have := hbr.size; omega
      have hfm9 : f.fb ≠ m := fun e => by
        obtain ⟨_, _, hm9⟩ := hD.mp.isMap
        have := (hD.fc i f hi).1
        rw [e, hm9] at this; cases this
      have hfbm := hid (And.intro (hncell (hD.fc i f hi).1) (And.intro hfm9 hsz1))
      clear hnew hts hset hD hD1 hFr hFr1 hrg1 hrg hlt hg1 hkow hkow' hkv hkv' hbr hkr hit hncell hnown hpl' hf0 hf0n hf0b hnm hls hlk hsz1 hfm9
      go_wp2_with fail
      go_roundw
      case rel =>
        refine ⟨_, cnt1, fs'.set i (upF f true (.slice ka kn kc) f.fm.kept), HN.out.2.2.2.1.blocks (Below.heap_setCell _ ⟨f.fb, 0, none⟩ _ _ (Ne.symm hfbm.out.2.1)) (Below.heap_setCell _ ⟨f.fb, 0, none⟩ _ _ (Ne.symm hfbm.out.1)), ?_, ?_, HN.out.2.2.1.trans HN.out.1.2, by have := hfbm.out.2.2; simp; omega⟩
        · rw [plOf_set (F := upF f true (.slice ka kn kc) f.fm.kept) HN.out.2.2.2.2.2.2.1 rfl rfl]; exact HN.out.2.2.2.2.2.1
        · rw [← HN.out.2.1]; exact HN.out.1.1
      case measure =>
        have hr9 := HN.out.2.2.2.1.blocks (w' := w1.setCell ⟨f.fb, 0, none⟩ (.slice ka kn kc)) (Below.heap_setCell _ ⟨f.fb, 0, none⟩ _ _ (Ne.symm hfbm.out.2.1)) (Below.heap_setCell _ ⟨f.fb, 0, none⟩ _ _ (Ne.symm hfbm.out.1))
        rw [hr9.left_eq, HN.out.2.2.2.2.2.2.2.left_eq]
        exact HN.out.2.2.2.2.1
end
end Go.Proofs.Ytcmfmjmjamfndaa
