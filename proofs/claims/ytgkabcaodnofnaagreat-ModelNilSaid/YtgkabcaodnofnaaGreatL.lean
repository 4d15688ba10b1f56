namespace Go.Md
abbrev Bs := List UInt8
def zer (n : Nat) : Bs := List.replicate n 0
abbrev Sp := Int × Int
/-- spans -/
def mayS (s : Sp) : Bool := decide (0 ≤ s.1) && decide (s.1 < s.2) && decide (s.2 ≤ 1073741824)
def rightS : Int → List Sp → Bool
  | _, [] => true
  | last, s :: r => mayS s && !decide (s.1 ≤ last) && rightS s.2 r
def allS (l : List Sp) : List Sp := if rightS (-1) l then l else []
/-- one round of Add: what is told, what is still to be laid, is it laid? -/
structure AS1 where
  out : List Sp
  s : Sp
  laid : Bool
def addR (a : AS1) (x : Sp) : AS1 :=
  if a.laid && (!mayS a.s || decide (a.s.2 < x.1)) then { a with out := a.out ++ [x] }
  else if x.2 < a.s.1 then { a with out := a.out ++ [x] }
  else if a.s.2 < x.1 then { a with out := a.out ++ [a.s, x], laid := true }
  else { a with s := (min a.s.1 x.1, max a.s.2 x.2) }
def addS (l : List Sp) (s : Sp) : List Sp :=
  let a := (allS l).foldl addR ⟨[], s, !mayS s⟩
  if a.laid then a.out else a.out ++ [a.s]
def subR (s : Sp) (out : List Sp) (x : Sp) : List Sp :=
  if !mayS s || decide (x.2 ≤ s.1) || decide (s.2 ≤ x.1) then out ++ [x]
  else (if x.1 < s.1 then out ++ [(x.1, s.1)] else out) ++ (if s.2 < x.2 then [(s.2, x.2)] else [])
def subS (l : List Sp) (s : Sp) : List Sp := (allS l).foldl (subR s) []
def hasS (l : List Sp) (n : Int) : Bool := (allS l).any fun x => decide (x.1 ≤ n) && decide (n < x.2)
/-- a bitmap -/
structure BM where
  name : Bs
  on : Bool
  l : List Sp
def touchB (s : Sp) (b : BM) : BM := if b.on then { b with l := addS b.l s } else b
def touch (l : List BM) (s : Sp) : List BM := l.map (touchB s)
def sizeB (was now : Int) (b : BM) : BM :=
  let b' := { b with l := subS b.l (now, 1073741824) }
  if b.on && decide (was < now) then { b' with l := addS b'.l (was, now) } else b'
def sizes (l : List BM) (was now : Int) : List BM := if was < 0 ∨ 1073741824 < was ∨ now < 0 ∨ 1073741824 < now then l else l.map (sizeB was now)
/-- a snapshot -/
structure SH where
  name : Bs
  size : Nat
  own : Nat → Option Bs
/-- an image -/
structure IM where
  cl : Nat
  size : Nat
  back : Bs
  own : Nat → Option Bs
  shots : List SH
  maps : List BM
abbrev IL := List (Bs × IM)
def fnd (l : IL) (n : Bs) : Option IM := (l.find? (fun p => decide (p.1 = n))).map (·.2)
/-- a model -/
structure MM where
  all : IL
  kept : IL
  ch : Bs → Bool
/-- a sector's bytes: d is how deep one may look -/
def secOf (S : IL) : Nat → Bs → Nat → Bs
  | 0, _, _ => zer 16
  | d + 1, n, s => match fnd S n with
    | none => zer 16
    | some i => if s < i.size then (match i.own (s / 2 ^ i.cl) with
      | some b => (b.drop (s % 2 ^ i.cl * 16)).take 16
      | none => secOf S d i.back s) else zer 16
/-- sectors from one on -/
def secs (f : Nat → Bs) : Nat → Nat → Bs
  | _, 0 => []
  | at_, n + 1 => f at_ ++ secs f (at_ + 1) n
def secIn (S : IL) (d : Nat) (i : IM) (size : Nat) (own : Nat → Option Bs) (s : Nat) : Bs :=
  if s < size then (match own (s / 2 ^ i.cl) with
    | some b => (b.drop (s % 2 ^ i.cl * 16)).take 16
    | none => secOf S d i.back s) else zer 16
/-- pieces of a range: where each begins, and how long it is -/
def pieces (wide : Nat) : Nat → Nat → Nat → List (Nat × Nat)
  | 0, _, _ => []
  | f + 1, at_, stop => if at_ < stop then
      let k := min (wide - at_ % wide) (stop - at_)
      (at_, k) :: pieces wide f (at_ + k) stop else []
end Go.Md
