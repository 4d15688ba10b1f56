import Derived.Test.YtoccgpddmhhlgaaB
namespace Go.Proofs.Ytoccgpddmhhlgaa
open Go.RowKit Go.Mx Go.Crc

structure Done (w w' : World) (b : Nat) : Prop where
  done : w'.cell? ⟨b, 0, none⟩ = some (.int .u32 1)
  mu : w'.cell? ⟨b, 1, none⟩ = some (.int .i32 0)
  ent : Ent w' b 16
  room : Room w' b
  grown : w.grownBy w' (some b)

theorem grown_drew (w : World) (r : Option Nat) : w.grownBy w.drew r := ⟨rfl, rfl, rfl, Nat.le_refl _, fun _ _ _ => rfl⟩

theorem Ent.set {w : World} {b n o : Nat} {u : Value} (h : Ent w b n) (ho : o < 3) : Ent (w.setCell ⟨b, o, none⟩ u) b n := fun i hi => by
  rw [cs_off (by omega)]; exact h i hi
theorem Ent.drew {w : World} {b n : Nat} (h : Ent w b n) : Ent w.drew b n := fun i hi => by rw [World.cell?_drew]; exact h i hi

set_option maxRecDepth 100000 in
set_option maxHeartbeats 1600000 in
theorem slow_any (b pl : Nat) (hne : b ≠ pl) (w : World) (hp : w.cell? ⟨pl, 0, none⟩ = some (.pointer (some ⟨b, 0, none⟩)))
    (h0 : w.cell? ⟨b, 0, none⟩ = some (.int .u32 0)) (h1 : w.cell? ⟨b, 1, none⟩ = some (.int .i32 0)) (hr : Room w b) :
    Calls Try.prog 68 #[.pointer (some ⟨b, 0, none⟩), .func (.func 70) #[] #[.pointer (some ⟨pl, 0, none⟩)]] w fun e w' => e = .returned (.tuple #[]) ∧ Done w w' b := by
  have hl := run_call_load (P := Try.prog) Try.func72 (by kernel_rfl) (by kernel_rfl) (by kernel_rfl) .u32 (by kernel_rfl) (w := w.setCell ⟨b, 1, none⟩ (.int .i32 1)) (a := ⟨b, 0, none⟩) (x := 0) ((cs_off (by omega)).trans h0)
  have hp1 : (w.setCell ⟨b, 1, none⟩ (.int .i32 1)).cell? ⟨pl, 0, none⟩ = some (.pointer (some ⟨b, 0, none⟩)) := (cs_ne hne).trans hp
  have hr1 : Room (w.setCell ⟨b, 1, none⟩ (.int .i32 1)) b := hr.set _ _
  have hf0 := hr.fz 0
  have hf1 := hr.fz 1
  have hnot : ∀ (x : Bool) (w : World), (Op.unary .not (.bool x)).run Try.prog w = .ok (.bool (!x)) w := fun _ _ => rfl
  go_enter_defers Try.func68, Try.ntmps68
  go_wp2_with (go_at_call 73; refine (lock_free ⟨b, 1, none⟩ _ (by go_simp) (by go_simp)).mono ?_; rintro e w' ⟨rfl, rfl⟩)
  go_wp2_with (first | (go_at_call 70; refine (fill_any b pl _ hne hp1 hr1).mono ?_; rintro e w2 ⟨rfl, hfill⟩) | (go_at_call 67; go_in))
  refine leaves_cons (f := 75) (args := #[.pointer (some ⟨b, 0, none⟩), .bool true]) (by simp) (by simp [go_sem]) ?_
  refine (store_deferred ⟨b, 0, none⟩ (.int .u32 0) .returning _ ?_ (hfill.room.fz 0)).mono ?_
  · rw [hfill.low 0 (by omega), cs_off (by omega)]; exact h0
  rintro e u' w'' ⟨rfl, rfl, rfl⟩
  refine leaves_cons (f := 74) (args := #[.pointer (some ⟨b, 1, none⟩)]) (by simp [settle]) (by simp [go_sem]) ?_
  have hc1 : (w2.drew.setCell ⟨b, 0, none⟩ (.int .u32 1)).cell? ⟨b, 1, none⟩ = some (.int .i32 1) := by
    rw [cs_off (by omega), World.cell?_drew, hfill.low 1 (by omega)]; exact cs_same h1
  have hr2 : Room (w2.drew.setCell ⟨b, 0, none⟩ (.int .u32 1)) b := (hfill.room.drew).set _ _
  refine (unlock_deferred ⟨b, 1, none⟩ _ _ hc1 (hr2.fz 1)).mono ?_
  rintro e u' w'' ⟨rfl, rfl, rfl⟩
  have hd : Done w ((w2.drew.setCell ⟨b, 0, none⟩ (.int .u32 1)).setCell ⟨b, 1, none⟩ (.int .i32 0)) b :=
    { done := by
        rw [cs_off (by omega)]
        have : w2.drew.cell? ⟨b, 0, none⟩ = some (.int .u32 0) := by rw [World.cell?_drew, hfill.low 0 (by omega), cs_off (by omega)]; exact h0
        exact cs_same this
      mu := cs_same hc1
      ent := (hfill.ent.drew.set (by omega)).set (by omega)
      room := hr2.set _ _
      grown := grown_trans (grown_trans (grown_trans (grown_trans (grown_set w b 1 _) hfill.grown) (grown_drew _ _)) (grown_set _ _ _ _)) (grown_set _ _ _ _) }
  simp [Leaves, settle, results, Try.results68]
  exact hd

set_option maxRecDepth 100000 in
theorem do_first (b pl : Nat) (hne : b ≠ pl) (w : World) (hp : w.cell? ⟨pl, 0, none⟩ = some (.pointer (some ⟨b, 0, none⟩)))
    (h0 : w.cell? ⟨b, 0, none⟩ = some (.int .u32 0)) (h1 : w.cell? ⟨b, 1, none⟩ = some (.int .i32 0)) (hr : Room w b) :
    Calls Try.prog 58 #[.pointer (some ⟨b, 0, none⟩), .func (.func 70) #[] #[.pointer (some ⟨pl, 0, none⟩)]] w fun e w' => e = .returned (.tuple #[]) ∧ Done w w' b := by
  have hl := run_call_load (P := Try.prog) Try.func72 (by kernel_rfl) (by kernel_rfl) (by kernel_rfl) .u32 (by kernel_rfl) h0
  have hnot : ∀ (x : Bool) (w : World), (Op.unary .not (.bool x)).run Try.prog w = .ok (.bool (!x)) w := fun _ _ => rfl
  go_enter Try.func58, Try.ntmps58
  go_wp2_with (first | (go_at_call 68; refine (slow_any b pl hne _ hp h0 h1 hr).mono ?_; rintro e w' ⟨rfl, hd⟩) | (go_at_call 67; go_in))
  go_end0
  exact ⟨rfl, hd⟩

set_option maxRecDepth 100000 in
theorem do_done (a : Addr) (fv : Value) (w : World) (h0 : w.cell? a = some (.int .u32 1)) :
    Calls Try.prog 58 #[.pointer (some a), fv] w fun e w' => e = .returned (.tuple #[]) ∧ w = w' := by
  have hl := run_call_load (P := Try.prog) Try.func72 (by kernel_rfl) (by kernel_rfl) (by kernel_rfl) .u32 (by kernel_rfl) h0
  have hnot : ∀ (x : Bool) (w : World), (Op.unary .not (.bool x)).run Try.prog w = .ok (.bool (!x)) w := fun _ _ => rfl
  go_enter Try.func58, Try.ntmps58
  go_wp2
  go_end0
  exact ⟨rfl, rfl⟩

structure TabOk (w : World) (b : Nat) : Prop where
  room : Room w b
  mu : w.cell? ⟨b, 1, none⟩ = some (.int .i32 0)
  once : w.cell? ⟨b, 0, none⟩ = some (.int .u32 0) ∨ (w.cell? ⟨b, 0, none⟩ = some (.int .u32 1) ∧ Ent w b 16)

theorem keep_alloc {w : World} {b : Nat} (hb : b < w.heap.size) (o : Obj) : ∀ i, (w.alloc o).cell? ⟨b, i, none⟩ = w.cell? ⟨b, i, none⟩ := fun i => World.cell?_alloc_past o b i hb
theorem Room.alloc {w : World} {b : Nat} (h : Room w b) (hb : b < w.heap.size) (o : Obj) : Room (w.alloc o) b :=
  ⟨fun i hi => by rw [keep_alloc hb]; exact h.ent i hi, fun i => by rw [World.frozen?_alloc_past o b i hb]; exact h.fz i⟩
theorem Ent.alloc {w : World} {b n : Nat} (h : Ent w b n) (hb : b < w.heap.size) (o : Obj) : Ent (w.alloc o) b n := fun i hi => by rw [keep_alloc hb]; exact h i hi

set_option maxRecDepth 100000 in
set_option maxHeartbeats 1600000 in
set_option maxRecDepth 100000 in
theorem word_any (b : Nat) (x : BitVec 32) (w : World) (hb : b < w.heap.size) (ht : TabOk w b) :
    Calls Try.prog 64 #[.pointer (some ⟨b, 0, none⟩), .int .u32 x.toNat] w fun e w' => e = .returned (.int .u32 (tab (x.toNat % 16)).toNat) ∧ TabOk w' b ∧ w.grownBy w' (some b) := by
  have hmf : ∀ (fn : Fn) (first cap : Array Value) (w : World), (Instr.makeFunc fn first cap).run Try.prog w = .ok (.func fn first cap) w := fun _ _ _ _ => rfl
  obtain ⟨hroom, hmu, honce⟩ := ht
  have p0 : (w.alloc (.cells #[.pointer (some ⟨b, 0, none⟩)] 131)).cell? ⟨w.heap.size, 0, none⟩ = some (.pointer (some ⟨b, 0, none⟩)) := cell_alloc1 _ _ _
  have hk : ∀ i, (w.alloc (.cells #[.pointer (some ⟨b, 0, none⟩)] 131)).cell? ⟨b, i, none⟩ = w.cell? ⟨b, i, none⟩ := keep_alloc hb _
  have hr1 := hroom.alloc hb (.cells #[.pointer (some ⟨b, 0, none⟩)] 131)
  have hm1 := (hk 1).trans hmu
  have hg1 : w.grownBy (w.alloc (.cells #[.pointer (some ⟨b, 0, none⟩)] 131)) (some b) := World.grownBy_alloc w _ _
  have hxl := x.isLt
  obtain ⟨m, hm⟩ : ∃ m, m = x.toNat % 16 := ⟨_, rfl⟩
  have hmod : (x.toNat : Int) % 16 = (m : Int) := by omega
  have hm16 : m < 16 := by omega
  rw [← hm]
  clear hm
  rcases honce with h0 | ⟨h0, he⟩
  · have hd0 := (hk 0).trans h0
    go_enter Try.func64, Try.ntmps64
    go_wp2_with fail
    refine (do_first b w.heap.size (by omega) _ p0 hd0 hm1 hr1).mono ?_
    rintro e w' ⟨rfl, hd⟩
    have hc := hd.ent m hm16
    have hp2 := hd.grown.cell p0 (by simp; omega)
    clear p0 hk hr1 hm1 hd0 hmu
    go_wp2
    go_ret
    exact ⟨rfl, ⟨hd.room, hd.mu, .inr ⟨hd.done, hd.ent⟩⟩, grown_trans hg1 hd.grown⟩
  · have hd0 := (hk 0).trans h0
    have he1 := he.alloc hb (.cells #[.pointer (some ⟨b, 0, none⟩)] 131)
    have hc := he1 m hm16
    go_enter Try.func64, Try.ntmps64
    go_wp2_with fail
    refine (do_done ⟨b, 0, none⟩ _ _ hd0).mono ?_
    rintro e w' ⟨rfl, rfl⟩
    clear hk hmu
    go_wp2
    go_ret
    exact ⟨rfl, ⟨hr1, hm1, .inr ⟨hd0, he1⟩⟩, hg1⟩
end Go.Proofs.Ytoccgpddmhhlgaa
