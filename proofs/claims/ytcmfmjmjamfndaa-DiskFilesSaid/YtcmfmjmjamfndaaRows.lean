/-
  No cell of these rows narrows 'for every input' (looked for: loops, veiled, ifaces, maps, wideKeys, modest, calm, conditions, laid).
  DERIVED. THE GIVEN ROWS OF THIS SEAT. 7 by the template 'for every input the law returns true; each argument reads behind the call as it read before'; 0 by the template 'total and deterministic' (their statements: YtcmfmjmjamfndaaTotals.lean).
  GIVEN WITH THE SEED: the statements are not yours to turn. If you find one false, say at which input.
  Laid BY PROGRAM, IN A SANDBOX (cutbox-rows.mjs): the forced cells as the released guide's own fill.sh prints them over the translation 4774866a3bd0bc99… (all of the seat's roots in one cut). By AI agents, Wed Nov 11 2026. No macro, syntax, notation, axiom, sorry.
-/
import Derived.Test.YtcmfmjmjamfndaaChecked
import GoSem.Claim
import GoSem.ClaimJoined
import GoSem.ClaimMapViews
import Derived.JoinedTies
import Derived.KernelRfl
namespace Go.Proofs.Ytcmfmjmjamfndaa
/- THE CELL 'sum', in the pinned program and in every row, IS THE sha256 OF THE DUMP (.gsa) THAT YtcmfmjmjamfndaaProg.lean LOADS. Nothing in Lean hashes anything: it is a label: what it is worth is what the hold of that sum in a sandbox is worth. -/
noncomputable def Try.pinned : Pinned := { name := "ytcmfmjmjamfndaa", sum := "4774866a3bd0bc998fb2b371e16b7437203f78c5c537d989744efd1051591a50", checked := Try.checked }
namespace Rows
def none {H : Type} : Left H := { results := [], args := [] }

/-- 'matryoshkalaw5.DiskKeeps': WHATEVER THE INPUT: true; the input reads as it did. -/
def diskKeepsSpec : ChangeSpec := { name := "diskKeeps", fn := fun _ => fun
  | [d1, d2, d3, d4] => { results := [.lit (.bool true)], args := [d1, d2, d3, d4] }
  | _ => none }
def diskKeepsRow : OpenClaim := { program := "ytcmfmjmjamfndaa", sum := "4774866a3bd0bc998fb2b371e16b7437203f78c5c537d989744efd1051591a50", func := "matryoshka/matryoshkalaw5.DiskKeeps", spec := "diskKeeps", inPlace := ["sync/atomic.AddInt64"], unfollowed := true, recurses := true, apart := false }
def DiskKeepsSaid : Prop := diskKeepsRow.holds Try.pinned (OpenSpec.ofChange diskKeepsSpec)

/-- ITS FALSE NEIGHBOUR: 'it returns false'. Refute it at one input. -/
def diskKeepsWrong : ChangeSpec := { name := "diskKeeps", fn := fun _ => fun
  | [d1, d2, d3, d4] => { results := [.lit (.bool false)], args := [d1, d2, d3, d4] }
  | _ => none }
def DiskKeepsWrongFalsely : Prop := diskKeepsRow.holds Try.pinned (OpenSpec.ofChange diskKeepsWrong)

/-- 'matryoshkalaw5.DiskRooms': WHATEVER THE INPUT: true; the input reads as it did. -/
def diskRoomsSpec : ChangeSpec := { name := "diskRooms", fn := fun _ => fun
  | [d1, d2, d3] => { results := [.lit (.bool true)], args := [d1, d2, d3] }
  | _ => none }
def diskRoomsRow : OpenClaim := { program := "ytcmfmjmjamfndaa", sum := "4774866a3bd0bc998fb2b371e16b7437203f78c5c537d989744efd1051591a50", func := "matryoshka/matryoshkalaw5.DiskRooms", spec := "diskRooms", inPlace := ["sync/atomic.AddInt64"], unfollowed := true, recurses := true, apart := false }
def DiskRoomsSaid : Prop := diskRoomsRow.holds Try.pinned (OpenSpec.ofChange diskRoomsSpec)

/-- ITS FALSE NEIGHBOUR: 'it returns false'. Refute it at one input. -/
def diskRoomsWrong : ChangeSpec := { name := "diskRooms", fn := fun _ => fun
  | [d1, d2, d3] => { results := [.lit (.bool false)], args := [d1, d2, d3] }
  | _ => none }
def DiskRoomsWrongFalsely : Prop := diskRoomsRow.holds Try.pinned (OpenSpec.ofChange diskRoomsWrong)

/-- 'matryoshkalaw5.DiskBetween': WHATEVER THE INPUT: true; the input reads as it did. -/
def diskBetweenSpec : ChangeSpec := { name := "diskBetween", fn := fun _ => fun
  | [d1, d2, d3, d4] => { results := [.lit (.bool true)], args := [d1, d2, d3, d4] }
  | _ => none }
def diskBetweenRow : OpenClaim := { program := "ytcmfmjmjamfndaa", sum := "4774866a3bd0bc998fb2b371e16b7437203f78c5c537d989744efd1051591a50", func := "matryoshka/matryoshkalaw5.DiskBetween", spec := "diskBetween", inPlace := ["sync/atomic.AddInt64"], unfollowed := true, recurses := true, apart := false }
def DiskBetweenSaid : Prop := diskBetweenRow.holds Try.pinned (OpenSpec.ofChange diskBetweenSpec)

/-- ITS FALSE NEIGHBOUR: 'it returns false'. Refute it at one input. -/
def diskBetweenWrong : ChangeSpec := { name := "diskBetween", fn := fun _ => fun
  | [d1, d2, d3, d4] => { results := [.lit (.bool false)], args := [d1, d2, d3, d4] }
  | _ => none }
def DiskBetweenWrongFalsely : Prop := diskBetweenRow.holds Try.pinned (OpenSpec.ofChange diskBetweenWrong)

/-- 'matryoshkalaw5.DiskCuts': WHATEVER THE INPUT: true; the input reads as it did. -/
def diskCutsSpec : ChangeSpec := { name := "diskCuts", fn := fun _ => fun
  | [d1, d2, d3, d4] => { results := [.lit (.bool true)], args := [d1, d2, d3, d4] }
  | _ => none }
def diskCutsRow : OpenClaim := { program := "ytcmfmjmjamfndaa", sum := "4774866a3bd0bc998fb2b371e16b7437203f78c5c537d989744efd1051591a50", func := "matryoshka/matryoshkalaw5.DiskCuts", spec := "diskCuts", inPlace := ["sync/atomic.AddInt64"], unfollowed := true, recurses := true, apart := false }
def DiskCutsSaid : Prop := diskCutsRow.holds Try.pinned (OpenSpec.ofChange diskCutsSpec)

/-- ITS FALSE NEIGHBOUR: 'it returns false'. Refute it at one input. -/
def diskCutsWrong : ChangeSpec := { name := "diskCuts", fn := fun _ => fun
  | [d1, d2, d3, d4] => { results := [.lit (.bool false)], args := [d1, d2, d3, d4] }
  | _ => none }
def DiskCutsWrongFalsely : Prop := diskCutsRow.holds Try.pinned (OpenSpec.ofChange diskCutsWrong)

/-- 'matryoshkalaw5.DiskPowers': WHATEVER THE INPUT: true; the input reads as it did. -/
def diskPowersSpec : ChangeSpec := { name := "diskPowers", fn := fun _ => fun
  | [d1, d2] => { results := [.lit (.bool true)], args := [d1, d2] }
  | _ => none }
def diskPowersRow : OpenClaim := { program := "ytcmfmjmjamfndaa", sum := "4774866a3bd0bc998fb2b371e16b7437203f78c5c537d989744efd1051591a50", func := "matryoshka/matryoshkalaw5.DiskPowers", spec := "diskPowers", inPlace := ["sync/atomic.AddInt64"], unfollowed := true, recurses := true, apart := false }
def DiskPowersSaid : Prop := diskPowersRow.holds Try.pinned (OpenSpec.ofChange diskPowersSpec)

/-- ITS FALSE NEIGHBOUR: 'it returns false'. Refute it at one input. -/
def diskPowersWrong : ChangeSpec := { name := "diskPowers", fn := fun _ => fun
  | [d1, d2] => { results := [.lit (.bool false)], args := [d1, d2] }
  | _ => none }
def DiskPowersWrongFalsely : Prop := diskPowersRow.holds Try.pinned (OpenSpec.ofChange diskPowersWrong)

/-- 'matryoshkalaw5.DiskFiles': WHATEVER THE INPUT: true; the input reads as it did. -/
def diskFilesSpec : ChangeSpec := { name := "diskFiles", fn := fun _ => fun
  | [d1, d2] => { results := [.lit (.bool true)], args := [d1, d2] }
  | _ => none }
def diskFilesRow : OpenClaim := { program := "ytcmfmjmjamfndaa", sum := "4774866a3bd0bc998fb2b371e16b7437203f78c5c537d989744efd1051591a50", func := "matryoshka/matryoshkalaw5.DiskFiles", spec := "diskFiles", inPlace := ["sync/atomic.AddInt64"], unfollowed := true, recurses := true, apart := false }
def DiskFilesSaid : Prop := diskFilesRow.holds Try.pinned (OpenSpec.ofChange diskFilesSpec)

/-- ITS FALSE NEIGHBOUR: 'it returns false'. Refute it at one input. -/
def diskFilesWrong : ChangeSpec := { name := "diskFiles", fn := fun _ => fun
  | [d1, d2] => { results := [.lit (.bool false)], args := [d1, d2] }
  | _ => none }
def DiskFilesWrongFalsely : Prop := diskFilesRow.holds Try.pinned (OpenSpec.ofChange diskFilesWrong)

/-- 'matryoshkalaw5.DiskNil': WHATEVER THE INPUT: true; the input reads as it did. -/
def diskNilSpec : ChangeSpec := { name := "diskNil", fn := fun _ => fun
  | [d1, d2] => { results := [.lit (.bool true)], args := [d1, d2] }
  | _ => none }
def diskNilRow : OpenClaim := { program := "ytcmfmjmjamfndaa", sum := "4774866a3bd0bc998fb2b371e16b7437203f78c5c537d989744efd1051591a50", func := "matryoshka/matryoshkalaw5.DiskNil", spec := "diskNil", inPlace := ["sync/atomic.AddInt64", "sync/atomic.LoadInt64", "sync/atomic.StoreInt64"], unfollowed := true, recurses := true, apart := false }
def DiskNilSaid : Prop := diskNilRow.holds Try.pinned (OpenSpec.ofChange diskNilSpec)

/-- ITS FALSE NEIGHBOUR: 'it returns false'. Refute it at one input. -/
def diskNilWrong : ChangeSpec := { name := "diskNil", fn := fun _ => fun
  | [d1, d2] => { results := [.lit (.bool false)], args := [d1, d2] }
  | _ => none }
def DiskNilWrongFalsely : Prop := diskNilRow.holds Try.pinned (OpenSpec.ofChange diskNilWrong)

/- THE SECOND FORM. 'bulk': how many values and letters a reading holds, each counted each time it is reached (what is shared counts as often as it is met; a slice's spare places count too). A statement '..UptoSaid' is the law's where the arguments, and the package variables that the reading takes, are together of bulk at most 1048576: NARROWER than '..Said'. Prove '..Said' where nothing that the law and all that it calls make is longer than what came in: it says more and counts as full. Else prove '..UptoSaid'. A law counts once. -/
mutual
def uptoBulk {H : Type} : DataW H → Nat
  | .lit (.string bytes) => bytes.length + 1
  | .lit _ => 1
  | .nil => 1
  | .ptr d => uptoBulk d + 1
  | .slice elems spare => uptoBulkAll elems + uptoBulkAll spare + 1
  | .agg parts => uptoBulkAll parts + 1
  | .iface _ d => uptoBulk d + 1
  | .map entries => uptoBulkEntries entries + 1
  | .held _ => 1
def uptoBulkAll {H : Type} : List (DataW H) → Nat
  | [] => 0
  | d :: r => uptoBulk d + uptoBulkAll r
def uptoBulkEntries {H : Type} : List (Lit × DataW H) → Nat
  | [] => 0
  | x :: r => uptoBulkEntry x + uptoBulkEntries r
def uptoBulkEntry {H : Type} : Lit × DataW H → Nat
  | (.string bytes, d) => bytes.length + uptoBulk d + 1
  | (_, d) => uptoBulk d + 1
 end
def uptoSmall : (H : Type) → List (DataW H) → Bool := fun _ ds => decide (uptoBulkAll ds ≤ 1048576)
def OpenSpec.upto (s : _root_.Go.ChangeSpec) : _root_.Go.OpenSpec := { _root_.Go.OpenSpec.ofChange s with cond := some uptoSmall }

/-- 'matryoshkalaw5.DiskKeeps', WHERE WHAT IT READS IS OF BULK AT MOST 1048576: true; the input reads as it did. -/
def diskKeepsUptoRow : OpenClaim := { program := "ytcmfmjmjamfndaa", sum := "4774866a3bd0bc998fb2b371e16b7437203f78c5c537d989744efd1051591a50", func := "matryoshka/matryoshkalaw5.DiskKeeps", spec := "diskKeeps", inPlace := ["sync/atomic.AddInt64"], unfollowed := true, recurses := true, apart := false, narrowed := true }
def DiskKeepsUptoSaid : Prop := diskKeepsUptoRow.holds Try.pinned (OpenSpec.upto diskKeepsSpec)

/-- 'matryoshkalaw5.DiskRooms', WHERE WHAT IT READS IS OF BULK AT MOST 1048576: true; the input reads as it did. -/
def diskRoomsUptoRow : OpenClaim := { program := "ytcmfmjmjamfndaa", sum := "4774866a3bd0bc998fb2b371e16b7437203f78c5c537d989744efd1051591a50", func := "matryoshka/matryoshkalaw5.DiskRooms", spec := "diskRooms", inPlace := ["sync/atomic.AddInt64"], unfollowed := true, recurses := true, apart := false, narrowed := true }
def DiskRoomsUptoSaid : Prop := diskRoomsUptoRow.holds Try.pinned (OpenSpec.upto diskRoomsSpec)

/-- 'matryoshkalaw5.DiskBetween', WHERE WHAT IT READS IS OF BULK AT MOST 1048576: true; the input reads as it did. -/
def diskBetweenUptoRow : OpenClaim := { program := "ytcmfmjmjamfndaa", sum := "4774866a3bd0bc998fb2b371e16b7437203f78c5c537d989744efd1051591a50", func := "matryoshka/matryoshkalaw5.DiskBetween", spec := "diskBetween", inPlace := ["sync/atomic.AddInt64"], unfollowed := true, recurses := true, apart := false, narrowed := true }
def DiskBetweenUptoSaid : Prop := diskBetweenUptoRow.holds Try.pinned (OpenSpec.upto diskBetweenSpec)

/-- 'matryoshkalaw5.DiskCuts', WHERE WHAT IT READS IS OF BULK AT MOST 1048576: true; the input reads as it did. -/
def diskCutsUptoRow : OpenClaim := { program := "ytcmfmjmjamfndaa", sum := "4774866a3bd0bc998fb2b371e16b7437203f78c5c537d989744efd1051591a50", func := "matryoshka/matryoshkalaw5.DiskCuts", spec := "diskCuts", inPlace := ["sync/atomic.AddInt64"], unfollowed := true, recurses := true, apart := false, narrowed := true }
def DiskCutsUptoSaid : Prop := diskCutsUptoRow.holds Try.pinned (OpenSpec.upto diskCutsSpec)

/-- 'matryoshkalaw5.DiskPowers', WHERE WHAT IT READS IS OF BULK AT MOST 1048576: true; the input reads as it did. -/
def diskPowersUptoRow : OpenClaim := { program := "ytcmfmjmjamfndaa", sum := "4774866a3bd0bc998fb2b371e16b7437203f78c5c537d989744efd1051591a50", func := "matryoshka/matryoshkalaw5.DiskPowers", spec := "diskPowers", inPlace := ["sync/atomic.AddInt64"], unfollowed := true, recurses := true, apart := false, narrowed := true }
def DiskPowersUptoSaid : Prop := diskPowersUptoRow.holds Try.pinned (OpenSpec.upto diskPowersSpec)

/-- 'matryoshkalaw5.DiskFiles', WHERE WHAT IT READS IS OF BULK AT MOST 1048576: true; the input reads as it did. -/
def diskFilesUptoRow : OpenClaim := { program := "ytcmfmjmjamfndaa", sum := "4774866a3bd0bc998fb2b371e16b7437203f78c5c537d989744efd1051591a50", func := "matryoshka/matryoshkalaw5.DiskFiles", spec := "diskFiles", inPlace := ["sync/atomic.AddInt64"], unfollowed := true, recurses := true, apart := false, narrowed := true }
def DiskFilesUptoSaid : Prop := diskFilesUptoRow.holds Try.pinned (OpenSpec.upto diskFilesSpec)

/-- 'matryoshkalaw5.DiskNil', WHERE WHAT IT READS IS OF BULK AT MOST 1048576: true; the input reads as it did. -/
def diskNilUptoRow : OpenClaim := { program := "ytcmfmjmjamfndaa", sum := "4774866a3bd0bc998fb2b371e16b7437203f78c5c537d989744efd1051591a50", func := "matryoshka/matryoshkalaw5.DiskNil", spec := "diskNil", inPlace := ["sync/atomic.AddInt64", "sync/atomic.LoadInt64", "sync/atomic.StoreInt64"], unfollowed := true, recurses := true, apart := false, narrowed := true }
def DiskNilUptoSaid : Prop := diskNilUptoRow.holds Try.pinned (OpenSpec.upto diskNilSpec)

end Rows
end Go.Proofs.Ytcmfmjmjamfndaa
