import Derived.Test.YtmbfcpdflhjfnaaRows
import Derived.Test.YtmbfcpdflhjfnaaM
namespace Go.Proofs.Ytmbfcpdflhjfnaa
open Go.RowKit Go.Mx

theorem num_any (n : Int) (w : World) :
    Calls Try.prog 14 #[.int .i64 n] w fun e w' => e = .returned (.int .i64 n) ∧ w = w' := by
  go_enter Try.func14, Try.ntmps14
  go_wp2
  go_ret
  exact ⟨rfl, rfl⟩

theorem next_end (pa pb B : Nat) (k : Nat) (bs : List UInt8) (bv : Value) (w : World)
   (h1 : w.cell? ⟨pa, 0, none⟩ = some (.int .i64 k)) (h2 : w.cell? ⟨pb, 0, none⟩ = some bv) (hb : SlB w B bv bs) (hk : ¬ k < bs.length) :
    Calls Try.prog 18 #[.pointer (some ⟨pa, 0, none⟩), .pointer (some ⟨pb, 0, none⟩)] w fun e w' => e = .returned (.tuple #[.int .u8 0, .bool false]) ∧ w = w' := by
  obtain ⟨oa, cap, rfl, hb1, hb2, hb3⟩ := hb
  clear hb3
  go_enter Try.func18, Try.ntmps18
  go_wp2
  go_ret2
  exact ⟨rfl, rfl⟩

theorem next_one (pa pb bb bo : Nat) (k : Nat) (len cap : Nat) (x : Int) (w : World)
   (h1 : w.cell? ⟨pa, 0, none⟩ = some (.int .i64 k)) (hf : w.frozen? ⟨pa, 0, none⟩ = false) (h2 : w.cell? ⟨pb, 0, none⟩ = some (.slice (some ⟨bb, bo, none⟩) len cap)) (hk : k < len) (hlen : len ≤ 9223372036854775806)
   (hx : w.cell? ⟨bb, bo + k, none⟩ = some (.int .u8 x)) (hp : pa ≠ pb) (hp3 : pa ≠ bb) :
    Calls Try.prog 18 #[.pointer (some ⟨pa, 0, none⟩), .pointer (some ⟨pb, 0, none⟩)] w fun e w' => e = .returned (.tuple #[.int .u8 x, .bool true]) ∧ w.setCell ⟨pa, 0, none⟩ (.int .i64 (k+1)) = w' := by
  go_enter Try.func18, Try.ntmps18
  go_wp2
  go_ret2
  exact ⟨rfl, rfl⟩

theorem next_any (pa pb B : Nat) (k : Nat) (bs : List UInt8) (bv : Value) (w : World)
   (h1 : w.cell? ⟨pa, 0, none⟩ = some (.int .i64 k)) (hf : w.frozen? ⟨pa, 0, none⟩ = false) (h2 : w.cell? ⟨pb, 0, none⟩ = some bv) (hb : SlB w B bv bs) (hlen : bs.length ≤ 1000000000000)
   (hp : pa ≠ pb) (hp3 : B ≤ pa) (hk : k < bs.length) :
    Calls Try.prog 18 #[.pointer (some ⟨pa, 0, none⟩), .pointer (some ⟨pb, 0, none⟩)] w fun e w' => e = .returned (.tuple #[u8 (bs.getD k 0), .bool true]) ∧ w.setCell ⟨pa, 0, none⟩ (.int .i64 (k+1 : Nat)) = w' := by
  obtain ⟨oa, cap, rfl, hb1, hb2, hb3⟩ := hb
  obtain ⟨bb, bo, rfl, hl, hr⟩ := hb3 (by rintro rfl; simp at hk)
  exact next_one pa pb bb bo k bs.length cap _ w h1 hf h2 hk (by omega) (hr.at hk) hp (by omega)
end Go.Proofs.Ytmbfcpdflhjfnaa
