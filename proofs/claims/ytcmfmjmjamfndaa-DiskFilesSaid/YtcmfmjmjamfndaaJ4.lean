import Derived.Test.YtcmfmjmjamfndaaJ3
import Derived.Test.YtcmfmjmjamfndaaI
namespace Go.Mx
open Go.RowKit
theorem OwnG.toAny {P : Program} {t e : TypeId} {w : World} {base s : Nat} {v : Value} {rows : List (List Value)} (h : OwnG w base e s v rows) (ht : P.underlying t = some (.slice e)) (hs : ∀ w, (sizeOf e).run P w = .ok s w) (k : Nat) (hk : k ≤ rows.length) :
    ∃ v', OwnG w base e s v' (rows.take k) ∧ (∃ oa n c, v' = .slice oa n c) ∧ ∀ w' (kk : IntKind), (Instr.slice t v none (some (.int kk (k : Int))) none).run P w' = .ok v' w' := by
  rcases h.shape with ⟨rfl, h0⟩ | ⟨g, c, hv, hg1, hg2⟩
  · subst h0
    obtain rfl : k = 0 := by simpa using hk
    refine ⟨.slice none 0 0, OwnG.nil _ _ _ _, ⟨_, _, _, rfl⟩, fun w' kk => ?_⟩
    have ht' : P.underlying t = some (.slice (P.elem t)) := by rw [ht]; simp [Program.elem, ht]
    have hel : P.elem t = e := by simp [Program.elem, ht]
    rw [run_slice_h (h := ((0 : Nat) : Int)) (ht := ht') (h0 := by omega) (h2 := by omega), hel, hs]
    rfl
  · subst hv
    exact ⟨_, h.prefix k hk, ⟨_, _, _, rfl⟩, h.to ht hs k hk⟩
theorem run_min2 {P : Program} (w : World) (ts : Array TypeId) (t : TypeId) (x y m : Int) (hm : m = min x y) : (Builtin.min_ ts t #[.int .i64 x, .int .i64 y]).run P w = .ok (.int .i64 m) w := by
  subst hm
  simp [Builtin.min_, Builtin.min2]
  repeat' split
  all_goals omega
end Go.Mx
namespace Go.Proofs.Ytcmfmjmjamfndaa
open Go.RowKit Go.Mx Go.Dk
set_option linter.unusedSimpArgs false
set_option linter.unusedVariables false
section
variable {w w' : World} {base p : Nat} {d : DM} {fs : List FR} {m : Nat} {lv : Value} {x : Int} {V : Nat → Bool → Prop}
def cutF (k : Nat) (g : FM) : FM := { g with now := g.now.take k, kept := g.kept.take k }
set_option maxRecDepth 100000 in
set_option maxHeartbeats 1000000 in
theorem cut_any (h : DK w base p d fs m lv x (fun _ _ => True)) (hs : Small d) {i : Nat} {f : FR} (hi : fs[i]? = some f) (hoff : d.off = false) (hnl : f.fm.name.length ≤ maxLen) (k : Nat) (hk : k ≤ f.fm.now.length) :
    Calls Try.prog 23 #[dp p, nmv f.fm.name, .int .i64 k] w fun e w' => e = .returned (.int .i64 0) ∧
      (∃ fs' lv', DK w' base p { d with files := setF d.files f.fm.name (cutF k), log := Dk.forget d.log f.fm.name k } fs' m lv' x (fun _ _ => True)) ∧ Fr base w w' := by
  have HH := hid (has_yes h f.fm.name hnl hoff (h.lookAt hi))
  obtain ⟨e0, e1, ez⟩ := h.fcells hi
  have hez0 := ez 0
  have hown : OwnG w base 71 16 f.nv (f.fm.now.map srow) := h.ow i f true hi trivial
  have hownk : OwnG w base 71 16 f.kv (f.fm.kept.map srow) := h.ow i f false hi trivial
  have hokn := hs.now _ (dk_mem h hi)
  have hokk := hs.kept _ (dk_mem h hi)
  obtain ⟨oa, nn, c, hv⟩ := h.sh i f true hi
  have hnv : f.nv = .slice oa nn c := hv
  obtain ⟨ka, kn, kc, hv2⟩ := h.sh i f false hi
  have hkv : f.kv = .slice ka kn kc := hv2
  have hlen := fun w' => secs_len hown w' (ty := 3)
  have hlenk := fun w' => secs_len hownk w' (ty := 3)
  obtain ⟨v1, ho1, ⟨a1, n1, c1, rfl⟩, hsl1⟩ := hown.toAny (P := Try.prog) Try.underlying63 size71 k (by simpa using hk)
  rw [← List.map_take] at ho1
  obtain ⟨q, hq⟩ : ∃ q, q = min k f.fm.kept.length := ⟨_, rfl⟩
  have hmin := fun w' => run_min2 (P := Try.prog) w' #[3, 3] 3 (k : Int) (f.fm.kept.length : Int) (q : Int) (by omega)
  obtain ⟨v2, ho2, ⟨a2, n2, c2, rfl⟩, hsl2⟩ := hownk.toAny (P := Try.prog) Try.underlying63 size71 q (by simp; omega)
  rw [← List.map_take] at ho2
  rw [hnv] at e0 hlen hsl1
  rw [hkv] at e1 hlenk hsl2
  have t1 : decide ((k : Int) < 0) = false := by simp
  have t2 : decide ((f.fm.now.length : Int) < (k : Int)) = false := by simp; omega
  have t3 : ¬ (f.fm.now.length < k) := by omega
  have HC := hid (clone_any _ _ _ w ho1 (by have := hokn.1; simp; omega))
  have hfb := (h.fc i f hi).1
  have H0 := hid (And.intro h (And.intro hi hs))
  have HB := hid h.base_le
  have HK := hid (And.intro ho2 (And.intro hq (And.intro hokk hkv)))
  clear h hs hown hownk ho1 ho2 hv hv2 hnv hkv hoff hnl hi hokn hokk hq hk
  go_enter Try.func23, Try.ntmps23
  go_wp2_with fail
  refine HH.out.mono ?_
  rintro e w1 ⟨rfl, rfl⟩
  go_wp2_with fail
  refine HC.out.mono ?_
  rintro e w1 ⟨v', rfl, ho1, hb1⟩
  obtain ⟨oa', n', c', rfl⟩ := ho1.sliceOf
  have hfb1 := (hb1.block _ (blk_lt hfb)).trans hfb
  have g0 : w1.cell? ⟨f.fb, 0, none⟩ = some f.nv := by simp [World.cell?, hfb1]
  have gz : w1.frozen? ⟨f.fb, 0, none⟩ = false := by simp [World.frozen?, hfb1]
  have hnew := DK.newSl H0.out.1 H0.out.2.1 true (fun _ _ => True) (fun _ _ _ _ => trivial) (N := fun _ => True) (.of_below hb1 fun _ h _ => h) (fun _ _ => trivial) (hb1.mono HB.out) (.slice oa' n' c') (f.fm.now.take k) (fun _ => ho1.any_base HB.out)
    (fun _ q hq => .inr (ho1.ge q hq)) (fun _ _ q hq1 hq2 => by
      have h1 := ho1.ge q hq1
      have h2 := (H0.out.1.ow i f false H0.out.2.1 trivial).lt q hq2
      omega) ⟨_, _, _, rfl⟩
  rw [show offB true = 0 from rfl] at hnew
  have hilt : i < fs.length := (List.getElem?_eq_some_iff.1 H0.out.2.1).1
  obtain ⟨F, hF⟩ : ∃ F, F = upF f true (.slice oa' n' c') (f.fm.now.take k) := ⟨_, rfl⟩
  have hFb : F.fb = f.fb := by rw [hF]; rfl
  have hFk : F.kv = f.kv ∧ F.fm = { f.fm with now := f.fm.now.take k } := by rw [hF]; exact ⟨rfl, rfl⟩
  rw [← hF] at hnew
  obtain ⟨w2, hw2⟩ : ∃ w2, w2 = w1.setCell ⟨f.fb, 0, none⟩ (.slice oa' n' c') := ⟨_, rfl⟩
  rw [← hw2] at hnew
  have hiF : (fs.set i F)[i]? = some F := List.getElem?_set_self hilt
  have hc2 := hnew.1.fcells hiF
  rw [hFb] at hc2
  have d1 := hc2.2.1
  rw [hFk.1, HK.out.2.2.2] at d1
  have hfb2 := (hnew.1.fc i F hiF).1
  rw [hFb] at hfb2
  have ho2 : OwnG w2 base 71 16 (.slice a2 n2 c2) ((f.fm.kept.take q).map srow) := by
    have hfbw1 := hfb1
    have k1 : Kept w w2 (fun b => b ≠ f.fb) := by
      rw [hw2]
      exact (Kept.of_below hb1 fun _ h _ => h).trans (Kept.set _ _ _ _ fun hn => hn rfl)
    exact HK.out.1.kept k1 fun b hb => by rintro rfl; exact HK.out.1.not hfb (by decide) hb
  have HC2 : Hid (Calls Try.prog 30 #[.slice a2 n2 c2] (World.drew w2) fun e w' => ∃ v', e = .returned v' ∧ (∃ oa n c, v' = .slice oa n c) ∧ w'.cell? ⟨f.fb, 1, none⟩ = some F.kv ∧ w'.frozen? ⟨f.fb, 1, none⟩ = false ∧ OwnG w' w2.heap.size 71 16 v' ((f.fm.kept.take q).map srow) ∧ Below w2.heap.size w2 w') :=
    hid ((clone_any _ _ _ (World.drew w2) (show OwnG (World.drew w2) base 71 16 (.slice a2 n2 c2) ((f.fm.kept.take q).map srow) from ho2) (by have := HK.out.2.2.1.1; simp; omega)).mono fun e w' ⟨v', he, ho, hb⟩ => by
      have hb' : Below w2.heap.size w2 w' := ((Below.refl w2.heap.size w2).drew).trans hb
      have hf := (hb'.block _ (blk_lt hfb2)).trans hfb2
      exact ⟨v', he, ho.sliceOf, by simp [World.cell?, hf], by simp [World.frozen?, hf], ho, hb'⟩)
  have HN := hid (And.intro hnew (And.intro hiF (And.intro hFb hFk)))
  clear hnew hc2 ho1 hb1 hfb1 hfb ho2 hF hFb hFk hiF
  go_wp2_with fail
  rw [← hw2]
  clear hw2
  go_region_with (first | (go_at_call 30; refine HC2.out.mono ?_; rintro e w3 ⟨_, rfl, ⟨oa3, n3, c3, rfl⟩, g1, gz1, ho3, hb3'⟩))
  all_goals
    have hbe : base ≤ w2.heap.size := HN.out.1.1.base_le
    have hnew := DK.newSl HN.out.1.1 HN.out.2.1 false (fun _ _ => True) (fun _ _ _ _ => trivial) (N := fun _ => True) (.of_below hb3' fun _ h _ => h) (fun _ _ => trivial) (hb3'.mono hbe) (.slice oa3 n3 c3) (f.fm.kept.take q) (fun _ => ho3.any_base hbe)
      (fun _ b hb => .inr (ho3.ge b hb)) (fun _ _ b hb1 hb2 => by
        have h1 : w2.heap.size ≤ b := ho3.ge b hb1
        have h2 := (HN.out.1.1.ow i F true HN.out.2.1 trivial).lt b hb2
        omega) ⟨_, _, _, rfl⟩
    rw [show offB false = 1 from rfl, List.set_set, HN.out.2.2.1] at hnew
    have hkq : f.fm.kept.take q = f.fm.kept.take k := by
      rw [HK.out.2.1]
      rcases Nat.le_total k f.fm.kept.length with h | h
      · rw [Nat.min_eq_left h]
      · rw [Nat.min_eq_right h, List.take_length, List.take_of_length_le h]
    have hset := setF_at H0.out.1 H0.out.2.1 (upF F false (.slice oa3 n3 c3) (f.fm.kept.take q)) (cutF k) (by
      show ({ F.fm with kept := _ } : FM) = _
      rw [HN.out.2.2.2.2, hkq]; rfl)
    rw [hset] at hnew
    have HN2 := hid (And.intro hnew.1 (HN.out.1.2.trans hnew.2))
    have HF := hid (forget_any hnew.1 f.fm.name k H0.out.2.2.log (by show d.log.length ≤ _; have := H0.out.2.2.llen; omega))
    clear hnew hset ho3 hb3' hkq g1 gz1
    go_wp2_with fail
    refine HF.out.mono ?_
    rintro e w4 ⟨rfl, ⟨lv', hD⟩, hFr⟩
    have HE := hid (And.intro hD (HN2.out.2.trans hFr))
    clear hD hFr
    go_wp2
    go_ret
    exact ⟨rfl, ⟨_, _, HE.out.1⟩, HE.out.2⟩
end
end Go.Proofs.Ytcmfmjmjamfndaa
