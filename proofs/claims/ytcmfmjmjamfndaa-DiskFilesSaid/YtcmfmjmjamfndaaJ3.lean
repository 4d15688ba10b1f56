import Derived.Test.YtcmfmjmjamfndaaJ
namespace Go.Proofs.Ytcmfmjmjamfndaa
open Go.RowKit Go.Mx Go.Dk
set_option linter.unusedSimpArgs false
set_option linter.unusedVariables false
section
variable {w w' : World} {base p : Nat} {d : DM} {fs : List FR} {m : Nat} {lv : Value} {x : Int} {V : Nat → Bool → Prop}
theorem DK.lookAt (h : DK w base p d fs m lv x V) {i : Nat} {f : FR} (hi : fs[i]? = some f) : Mx.look (plOf fs) f.fm.name = some f.fb := by
  rcases h.who f.fm.name with ⟨hl, _⟩ | ⟨j, g, hj, hgn, hl, _⟩
  · rw [look_none, plOf_names] at hl; exact absurd (List.mem_map.2 ⟨f, List.mem_of_getElem? hi, rfl⟩) hl
  · rw [hl]
    have : j = i := nodup_at (by have := h.mp.nodup; rwa [plOf_names] at this) hj hi hgn
    subst this; rw [hj] at hi; cases hi; rfl
def secs (l : List Sec) (a n : Nat) : List UInt8 := ((l.drop a).take n).flatten
theorem secs_succ (l : List Sec) (a j : Nat) (h : a + j < l.length) : secs l a (j + 1) = secs l a j ++ l.getD (a + j) [] := by
  unfold secs
  rw [List.take_add_one, List.getElem?_drop, List.getElem?_eq_getElem h, List.getD_eq_getElem?_getD, List.getElem?_eq_getElem h]
  simp
theorem secs_le (l : List Sec) (h : SecsOk l) (a j : Nat) : (secs l a j).length ≤ j * 16 := by
  unfold secs
  have : ∀ m : List Sec, (∀ s ∈ m, s.length = 16) → m.flatten.length = m.length * 16 := by
    intro m; induction m with
    | nil => simp
    | cons s m ih => intro hm; rw [List.flatten_cons, List.length_append, hm s (by simp), ih fun x hx => hm x (by simp [hx]), List.length_cons]; omega
  rw [this _ fun s hs => h.2 s (List.mem_of_mem_drop (List.mem_of_mem_take hs))]
  simp; omega
set_option maxRecDepth 100000 in
set_option maxHeartbeats 1000000 in
theorem read_any (h : DK w base p d fs m lv x (fun _ _ => True)) (hs : Small d) (hoff : d.off = false) {i : Nat} {f : FR} (hi : fs[i]? = some f) (hnl : f.fm.name.length ≤ maxLen) (a n : Nat) (han : a + n ≤ f.fm.now.length) :
    Calls Try.prog 19 #[dp p, nmv f.fm.name, .int .i64 a, .int .i64 n] w fun e w' => ∃ v, e = .returned (.tuple #[v, .int .i64 0]) ∧ OwnB w' w.heap.size 5 v (secs f.fm.now a n) ∧ Below w.heap.size w w' := by
  have HH := hid (has_yes h f.fm.name hnl hoff (h.lookAt hi))
  obtain ⟨e0, e1, ez⟩ := h.fcells hi
  have hown := h.ow i f true hi trivial
  obtain ⟨oa, nn, c, hv⟩ := h.sh i f true hi
  have hnv : f.nv = .slice oa nn c := hv
  have hown' : OwnG w base 71 16 f.nv (f.fm.now.map srow) := hown
  have hok := hs.now _ (dk_mem h hi)
  have hlen := fun w' => secs_len hown' w' (ty := 3)
  rw [hnv] at e0 hown' hlen
  obtain ⟨v', hsl, hcut⟩ := hown'.slG.part (P := Try.prog) Try.underlying63 size71 a (a + n) (by omega) (by simpa using han)
  have hcut' : ∀ w' (k k' : IntKind), (Instr.slice 63 (.slice oa nn c) (some (.int k (a : Int))) (some (.int k' ((a : Int) + (n : Int)))) none).run Try.prog w' = .ok v' w' := fun w' k k' => by
    have := hcut w' k k'
    rwa [show ((a + n : Nat) : Int) = (a : Int) + n by omega] at this
  have hlen2 := fun w' => hsl.len (P := Try.prog) (ty := 3) Try.underlying63 w'
  have hcl : (((f.fm.now.map srow).take (a + n)).drop a).length = n := by simp; omega
  rw [hcl] at hlen2
  have hwr : IntKind.i64.wrap ((a : Int) + (n : Int)) = (a : Int) + n := IntWalk.i64_in _ (by have := hok.1; omega)
  have hwr2 : IntKind.i64.wrap ((f.fm.now.length : Int) - (a : Int)) = (f.fm.now.length : Int) - a := IntWalk.i64_in _ (by have := hok.1; omega)
  have t1 : decide ((f.fm.now.length : Int) < (a : Int)) = false := by simp; omega
  have t2 : decide ((f.fm.now.length : Int) - (a : Int) < (n : Int)) = false := by simp; omega
  obtain ⟨va, vn, vc, hvs⟩ : ∃ oa n c, v' = .slice oa n c := by obtain ⟨oa, c, rfl, _⟩ := hsl; exact ⟨_, _, _, rfl⟩
  subst hvs
  have hrow : ∀ j, j < n → (((f.fm.now.map srow).take (a + n)).drop a).getD j [] = srow (f.fm.now.getD (a + j) []) := fun j hj => by
    rw [getD_cut _ _ _ _ _ (by omega)]
    simp [List.getD_eq_getElem?_getD, List.getElem?_map, List.getElem?_eq_getElem (by omega : a + j < f.fm.now.length)]
  have HSL := hid (And.intro hsl (And.intro hcl hrow))
  obtain ⟨L, hL⟩ : ∃ L, L = f.fm.now := ⟨_, rfl⟩
  rw [← hL] at han hok hlen hwr2 t1 t2 HSL
  have n1 : ¬ (L.length < a) := by omega
  have n2 : ¬ ((L.length : Int) - (a : Int) < (n : Int)) := by omega
  rw [← hL]
  have HOK := hid (And.intro han hok)
  have HB := hid h.base_le
  clear hsl hcl hrow hcut hL h hs hown hown' hnv hv hi e1 ez han hok
  go_enter Try.func19, Try.ntmps19
  go_wp2_with fail
  refine HH.out.mono ?_
  rintro e w1 ⟨rfl, rfl⟩
  go_wp2_with fail
  go_loopw [12, 56] (fun s12 s56 wr => ∃ (v : Value) (j : Nat), s12 = v ∧ s56 = .int .i64 j ∧ j ≤ n ∧ OwnB wr w.heap.size 5 v (secs L a j) ∧ Below w.heap.size w wr) (fun _ s56 _ => n - (intOf s56).toNat)
  case atStart => exact ⟨_, 0, rfl, rfl, by omega, OwnB.nil _ _ _, Below.refl _ _⟩
  case round =>
    obtain ⟨v, j, rfl, rfl, hj, ho, hbl⟩ := hrel
    by_cases hjn : j < n
    · obtain ⟨b, o, hb, hia, hrow⟩ := (HSL.out.1.below hbl (Nat.le_refl _)).addr (P := Try.prog) Try.underlying63 size71 j (by rw [HSL.out.2.1]; exact hjn)
      rw [HSL.out.2.2 j hjn] at hrow
      have hse : (L.getD (a + j) []).length = 16 := by
        have := HOK.out.1
        rw [List.getD_eq_getElem?_getD, List.getElem?_eq_getElem (by omega)]; exact HOK.out.2.2 _ (List.getElem_mem _)
      have HSU := hid (secs_succ L a j (by have := HOK.out.1; omega))
      have hsl := secs_le L HOK.out.2 a j
      have hL6 := HOK.out.2.1
      have hnL := HOK.out.1
      obtain ⟨sc, hsc⟩ : ∃ s, s = L.getD (a + j) [] := ⟨_, rfl⟩
      rw [← hsc] at hrow hse HSU
      have hrg : wr.rangeAt b o (srow sc) := hrow
      have hsz : (Try.prog.info? 71).map (·.size) = some (srow sc).length := by rw [srow_len, hse]; kernel_rfl
      have hsZ : (srow sc).length = zsec.cells.size := by rw [srow_len, hse]; rfl
      have hone := srow_one sc
      have hal : Below wr.heap.size wr (wr.alloc (.cells (srow sc).toArray 71)) := (Below.refl _ _).alloc (Nat.le_refl _) _
      have hslb : SlB (wr.alloc (.cells (srow sc).toArray 71)) (wr.heap.size + 1) (.slice (some ⟨wr.heap.size, 0, none⟩) 16 16) sc := by
        have := sl_lit wr sc 71 (by rw [hse]; decide)
        rw [hse] at this
        exact this
      have hoA := ho.below hal fun k hk => ho.lt k hk
      have hlA : (secs L a j).length + sc.length ≤ 140737488355328 := by omega
      have hBA : w.heap.size ≤ (wr.alloc (.cells (srow sc).toArray 71)).heap.size := by have := hbl.size; simp; omega
      have HBL := hid (And.intro hbl hal)
      obtain ⟨X, hX⟩ : ∃ X, X = srow sc := ⟨_, rfl⟩
      rw [← hX] at hrg hsz hsZ hone hslb hoA hBA HBL
      obtain ⟨T, hT⟩ : ∃ T, T = secs L a j := ⟨_, rfl⟩
      rw [← hT] at hoA HSU hlA hsl
      clear hrow hsc hX hT ho hbl hal
      go_wp2_with (first
        | (refine wpList_load_mid rfl 71 _ rfl b o rfl X _ hrg Try.underlying71 rfl hsz ?_)
        | (refine wpList_store_new wr rfl 71 _ _ rfl _ 71 X rfl rfl hsZ hsz hone ?_)
        | (at_builtin; refine append_sl _ rfl _ _ 22 5 rfl Try.underlying22 Try.info5 w.heap.size _ T rfl hoA _ sc _ rfl hslb hlA hBA ?_; intro v' w1 ho1 hb1))
      go_roundw
      case rel =>
        refine ⟨v', j + 1, rfl, by go_num, by omega, by rw [HSU.out]; exact ho1, ?_⟩
        exact HBL.out.1.trans ((HBL.out.2.mono HBL.out.1.size).trans hb1)
      case measure => simp [intOf]; omega
    · obtain rfl : j = n := by omega
      have HE := hid (And.intro ho hbl)
      clear ho hbl
      go_wp2_with fail
      go_ret2
      exact ⟨_, rfl, HE.out.1, HE.out.2⟩
end
end Go.Proofs.Ytcmfmjmjamfndaa
