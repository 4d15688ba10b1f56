namespace Go.Lr
/-- what stands at a key -/
structure Pg where
  b : List UInt8
  dirty : Bool
  used : Nat
  after : List Int
instance : Inhabited Pg := ⟨⟨[], false, 0, []⟩⟩
structure En where
  k : Int
  pg : Pg
structure CM where
  room : Nat
  all : List En
  uses : Nat
def find (l : List En) (k : Int) : Option Pg := (l.find? fun e => e.k == k).map (·.pg)
def setE (l : List En) (k : Int) (g : Pg → Pg) : List En := l.map fun e => if e.k == k then { e with pg := g e.pg } else e
/-- what a key is after, and what is after it, ends -/
def loose (l : List En) (k : Int) : List En := l.map fun e => { e with pg := { e.pg with after := if e.k == k then [] else e.pg.after.filter fun f => !(f == k) } }
theorem find_none {l : List En} {k : Int} : find l k = none ↔ k ∉ l.map (·.k) := by
  unfold find
  rw [Option.map_eq_none_iff, List.find?_eq_none]
  constructor
  · intro h hk
    obtain ⟨e, he, hek⟩ := List.mem_map.1 hk
    exact h e he (by simp [hek])
  · intro h e he hek
    exact h (List.mem_map.2 ⟨e, he, by simpa using hek⟩)
/-- bytes laid at a key; room is not asked -/
def lay (c : CM) (k : Int) (b : List UInt8) (dirty : Bool) : CM := match find c.all k with
  | none => ⟨c.room, c.all ++ [⟨k, ⟨b, dirty, c.uses + 1, []⟩⟩], c.uses + 1⟩
  | some _ => ⟨c.room, setE c.all k fun p => { p with b := b, dirty := p.dirty || dirty, used := c.uses + 1 }, c.uses + 1⟩
end Go.Lr
