namespace Go.Lz

def lenGo : List UInt8 → Nat → Option (Nat × Nat)
  | [], _ => none
  | y :: r, m => if y = 255 then (lenGo r (m+255)).map (fun p => (p.1, p.2+1)) else some (m + y.toNat, 1)

def lenM (rest : List UInt8) (n : Nat) : Option (Nat × Nat) := if n < 15 then some (n, 0) else lenGo rest n

abbrev Res := Except Nat (List UInt8)

def lit (room : Nat) : Nat → List UInt8 → List UInt8 → Except Nat (List UInt8 × List UInt8)
  | 0, rest, out => .ok (rest, out)
  | _+1, [], _ => .error 3
  | n+1, x :: rest, out => if out.length = room then .error 2 else lit room n rest (out ++ [x])

def mat (room d : Nat) : Nat → List UInt8 → Res
  | 0, out => .ok out
  | n+1, out => if out.length = room then .error 2 else mat room d n (out ++ [out.getD (out.length - d) 0])

def unpE (K : List UInt8 → List UInt8 → Res) (rest out : List UInt8) : Res := if rest = [] then .ok out else K rest out

def unpD (room : Nat) (K : List UInt8 → List UInt8 → Res) (d m : Nat) (rest out : List UInt8) : Res :=
  match mat room d m out with
  | .error e => .error e
  | .ok o => unpE K rest o

def unpC (room : Nat) (K : List UInt8 → List UInt8 → Res) (tok : UInt8) : List UInt8 → List UInt8 → Res
  | [], out => .ok out
  | [_], _ => .error 3
  | lo :: hi :: rest, out =>
    if lo.toNat + 256 * hi.toNat = 0 ∨ out.length < lo.toNat + 256 * hi.toNat then .error 3 else
    match lenM rest (tok.toNat % 16) with
    | none => .error 3
    | some (m, c) => unpD room K (lo.toNat + 256 * hi.toNat) (m + 4) (rest.drop c) out

def unpB (room : Nat) (K : List UInt8 → List UInt8 → Res) (tok : UInt8) (n : Nat) (rest out : List UInt8) : Res :=
  match lit room n rest out with
  | .error e => .error e
  | .ok (r, o) => unpC room K tok r o

def unp (room : Nat) : Nat → List UInt8 → List UInt8 → Res
  | 0, _, _ => .error 3
  | _+1, [], _ => .error 3
  | f+1, t :: r, out =>
    match lenM r (t.toNat / 16) with
    | none => .error 3
    | some (n, c) => unpB room (unp room f) t n (r.drop c) out

/-- what packed bytes tell -/
def unpack (bs : List UInt8) (room : Int) : Res :=
  if room < 0 ∨ 1048576 < room then .error 1 else unp room.toNat (bs.length + 1) bs []

theorem unpB_zero (room K tok rest out) : unpB room K tok 0 rest out = unpC room K tok rest out := rfl
theorem unpB_end (room K tok n out) : unpB room K tok (n+1) [] out = .error 3 := rfl
theorem unpB_full (room K tok n x rest) (out : List UInt8) (h : out.length = room) : unpB room K tok (n+1) (x :: rest) out = .error 2 := by
  unfold unpB; rw [lit, if_pos h]
theorem unpB_step (room K tok n x rest) (out : List UInt8) (h : ¬ out.length = room) : unpB room K tok (n+1) (x :: rest) out = unpB room K tok n rest (out ++ [x]) := by
  unfold unpB; rw [lit, if_neg h]
theorem unpD_zero (room K d rest out) : unpD room K d 0 rest out = unpE K rest out := rfl
theorem unpD_full (room K d n rest) (out : List UInt8) (h : out.length = room) : unpD room K d (n+1) rest out = .error 2 := by
  unfold unpD; rw [mat, if_pos h]
theorem unpD_step (room K d n rest) (out : List UInt8) (h : ¬ out.length = room) : unpD room K d (n+1) rest out = unpD room K d n rest (out ++ [out.getD (out.length - d) 0]) := by
  unfold unpD; rw [mat, if_neg h]

theorem lenGo_bd : ∀ (l : List UInt8) (m n c : Nat), lenGo l m = some (n, c) → c ≤ l.length ∧ n ≤ m + 255 * c
  | [], m, n, c, h => by simp [lenGo] at h
  | y :: r, m, n, c, h => by
    rw [lenGo] at h
    split at h
    · cases hg : lenGo r (m + 255) with
      | none => rw [hg] at h; cases h
      | some p =>
        rw [hg] at h
        simp at h
        have := lenGo_bd r (m+255) p.1 p.2 hg
        simp
        omega
    · simp at h
      have := UInt8.toNat_lt y
      simp
      omega

theorem lenM_bd (l : List UInt8) (m n c : Nat) (hm : m ≤ 15) (h : lenM l m = some (n, c)) : c ≤ l.length ∧ n ≤ 15 + 255 * c := by
  unfold lenM at h
  split at h
  · simp at h; omega
  · have := lenGo_bd l m n c h; omega

end Go.Lz
