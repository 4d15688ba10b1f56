import Derived.Test.YtmbfcpdflhjfnaaA
import Derived.Test.YtmbfcpdflhjfnaaL
namespace Go.Proofs.Ytmbfcpdflhjfnaa
open Go.RowKit Go.Mx Go.Lz

def LenPost (w : World) (pa : Nat) (k0 : Nat) (r : Option (Nat × Nat)) (e : Ending) (w' : World) : Prop :=
  match r with
  | none => e = .returned (.tuple #[.int .i64 0, .bool false]) ∧ ∃ k : Nat, w' = w.setCell ⟨pa, 0, none⟩ (.int .i64 k)
  | some (n, c) => e = .returned (.tuple #[.int .i64 n, .bool true]) ∧ w' = w.setCell ⟨pa, 0, none⟩ (.int .i64 (k0 + c : Nat))

theorem len_step (bs : List UInt8) (k m : Nat) (hk : k < bs.length) (k0 : Nat) (hk0 : k0 ≤ k) (L : Option (Nat × Nat)) (hm : 15 ≤ m)
    (h : L = (lenGo (bs.drop k) m).map (fun p => (p.1, p.2 + (k - k0)))) :
    L = if 15 ≤ m + (bs.getD k 0).toNat ∧ bs.getD k 0 = 255 then (lenGo (bs.drop (k+1)) (m + (bs.getD k 0).toNat)).map (fun p => (p.1, p.2 + (k + 1 - k0))) else some (m + (bs.getD k 0).toNat, k + 1 - k0) := by
  rw [drop_getD bs k hk, lenGo] at h
  by_cases hy : bs.getD k 0 = 255
  · rw [if_pos hy] at h
    rw [if_pos ⟨by omega, hy⟩, h, hy]
    simp only [Option.map_map]
    congr 1
    funext p
    simp only [Function.comp]
    congr 1
    omega
  · rw [if_neg hy] at h
    rw [if_neg (fun c => hy c.2), h]
    simp
    omega

theorem lenPost_end {w : World} {pa k0 k : Nat} {bs : List UInt8} {m n0 : Nat} (hk : ¬ k < bs.length) (h : lenM (bs.drop k0) n0 = (lenGo (bs.drop k) m).map (fun p => (p.1, p.2 + (k - k0)))) :
    LenPost w pa k0 (lenM (bs.drop k0) n0) (.returned (.tuple #[.int .i64 0, .bool false])) (w.setCell ⟨pa, 0, none⟩ (.int .i64 k)) := by
  rw [h, List.drop_eq_nil_of_le (by omega)]
  exact ⟨rfl, k, rfl⟩

theorem lenPost_ok {w : World} {pa k0 k : Nat} {m : Nat} {L : Option (Nat × Nat)} (hk : k0 ≤ k) (h : L = some (m, k - k0)) :
    LenPost w pa k0 L (.returned (.tuple #[.int .i64 m, .bool true])) (w.setCell ⟨pa, 0, none⟩ (.int .i64 k)) := by
  rw [h]
  exact ⟨rfl, by rw [show k0 + (k - k0) = k by omega]⟩

theorem byte_ne {y : UInt8} (h : ¬ y = 255) : ((y.toNat : Int) == 255) = false := by
  rw [beq_eq_false_iff_ne]
  intro h'
  apply h
  apply UInt8.toNat_inj.1
  simpa using (by omega : y.toNat = 255)

theorem length_any (pn pa pb B : Nat) (k0 n0 : Nat) (bs : List UInt8) (bv : Value) (w : World)
   (h0 : w.cell? ⟨pn, 0, none⟩ = some (.func (.func 18) #[] #[.pointer (some ⟨pa, 0, none⟩), .pointer (some ⟨pb, 0, none⟩)]))
   (h1 : w.cell? ⟨pa, 0, none⟩ = some (.int .i64 k0)) (hf : w.frozen? ⟨pa, 0, none⟩ = false) (h2 : w.cell? ⟨pb, 0, none⟩ = some bv) (hx : SlB w B bv bs)
   (hk : k0 ≤ bs.length) (hn : n0 ≤ 15) (hlen : bs.length ≤ 1000000000000)
   (hp : pa ≠ pb) (hp3 : B ≤ pa) (hp4 : pa ≠ pn) :
    Calls Try.prog 19 #[.int .i64 n0, .pointer (some ⟨pn, 0, none⟩)] w (LenPost w pa k0 (lenM (bs.drop k0) n0)) := by
  go_enter Try.func19, Try.ntmps19
  go_wp2
  go_loopw [0, 5] (fun n x wr => ∃ k m : Nat, ∃ y : UInt8, k0 ≤ k ∧ k ≤ bs.length ∧ n = .int .i64 m ∧ x = u8 y ∧ m ≤ 15 + 255 * (k - k0) ∧
      wr = w.setCell ⟨pa, 0, none⟩ (.int .i64 k) ∧
      Hid (lenM (bs.drop k0) n0 = if 15 ≤ m ∧ y = 255 then (lenGo (bs.drop k) m).map (fun p => (p.1, p.2 + (k - k0))) else some (m, k - k0)))
    (fun _ x wr => bs.length - ((wr.cell? ⟨pa, 0, none⟩).map (fun v => (intOf v).toNat)).getD 0)
  case atStart => exact ⟨k0, n0, 255, by omega, hk, rfl, rfl, by omega, (setCell_self h1).symm, by
     unfold Hid lenM
     by_cases h : n0 < 15
     · rw [if_pos h, if_neg (by omega)]; simp
     · rw [if_neg h, if_pos ⟨by omega, rfl⟩]; simp⟩
  case round =>
    obtain ⟨k, m, y, hk1, hk2, rfl, rfl, hm, rfl, HR⟩ := hrel
    have hc1 : (w.setCell ⟨pa, 0, none⟩ (.int .i64 k)).cell? ⟨pa, 0, none⟩ = some (.int .i64 k) := cs_same h1
    by_cases hc : 15 ≤ m ∧ y = 255
    · obtain ⟨hm15, rfl⟩ := hc
      have HR' := HR.out
      rw [if_pos ⟨hm15, rfl⟩] at HR'
      have HH := hid HR'
      clear HR HR'
      have hx' : SlB (w.setCell ⟨pa, 0, none⟩ (.int .i64 k)) B bv bs := hx.setCell _ hp3
      have hf' : (w.setCell ⟨pa, 0, none⟩ (.int .i64 k)).frozen? ⟨pa, 0, none⟩ = false := by rw [fz_set]; exact hf
      have h2' : (w.setCell ⟨pa, 0, none⟩ (.int .i64 k)).cell? ⟨pb, 0, none⟩ = some bv := by rw [cs_ne hp]; exact h2
      by_cases hlt : k < bs.length
      · have hb := UInt8.toNat_lt (bs.getD k 0)
        go_wp2_with fail
        refine (next_any pa pb B k bs bv _ hc1 hf' h2' hx' hlen hp hp3 hlt).mono ?_
        rintro e w' ⟨rfl, rfl⟩
        obtain ⟨y', hy'⟩ : ∃ y', y' = bs.getD k 0 := ⟨_, rfl⟩
        rw [← hy'] at hb ⊢
        have HY := hid hy'
        clear hy'
        go_wp2
        go_roundw
        case rel => exact ⟨k+1, m + y'.toNat, y', by omega, by omega, by go_num, rfl, by omega, setCell_twice _ _ _ _, by rw [HY.out]; exact len_step bs k m hlt k0 hk1 _ hm15 HH.out⟩
        case measure => rw [cs_same hc1, hc1]; simp [intOf]; omega
      · go_wp2_with fail
        refine (next_end pa pb B k bs bv _ hc1 h2' hx' hlt).mono ?_
        rintro e w' ⟨rfl, rfl⟩
        go_wp2
        exact bodyPost_ret (results_tmp2 rfl _ _ _) rfl (lenPost_end hlt HH.out)
    · have HR' := HR.out
      rw [if_neg hc] at HR'
      have HH := hid HR'
      clear HR HR'
      by_cases hm15 : 15 ≤ m
      · have hy := byte_ne (y := y) (fun h => hc ⟨hm15, h⟩)
        clear hc
        go_wp2
        exact bodyPost_ret (results_tmp2 rfl _ _ _) rfl (lenPost_ok hk1 HH.out)
      · clear hc
        go_wp2
        exact bodyPost_ret (results_tmp2 rfl _ _ _) rfl (lenPost_ok hk1 HH.out)
end Go.Proofs.Ytmbfcpdflhjfnaa
