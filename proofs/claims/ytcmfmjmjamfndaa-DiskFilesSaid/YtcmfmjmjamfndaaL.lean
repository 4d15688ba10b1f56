namespace Go.Dk
/-- a sector -/
abbrev Sec := List UInt8
def zs : Sec := List.replicate 16 0
/-- a file: what stands in it, and what of it is kept -/
structure FM where
  name : List UInt8
  now : List Sec
  kept : List Sec
instance : Inhabited FM := ⟨⟨[], [], []⟩⟩
/-- a sector that was written, and not kept -/
structure RM where
  name : List UInt8
  at_ : Nat
  b : Sec
instance : Inhabited RM := ⟨⟨[], 0, []⟩⟩
structure DM where
  room : Nat
  files : List FM
  log : List RM
  left : Nat
  off : Bool
instance : Inhabited DM := ⟨⟨0, [], [], 0, false⟩⟩

def SecsOk (l : List Sec) : Prop := l.length ≤ 65536 ∧ ∀ s ∈ l, s.length = 16
/-- what any disk has -/
structure Ok (d : DM) : Prop where
  room : 1 ≤ d.room ∧ d.room ≤ 1048576
  names : (d.files.map (·.name)).Nodup
  flen : d.files.length ≤ 32
  nlen : ∀ f ∈ d.files, 1 ≤ f.name.length ∧ f.name.length ≤ 16
  now : ∀ f ∈ d.files, SecsOk f.now
  kept : ∀ f ∈ d.files, SecsOk f.kept
  log : ∀ r ∈ d.log, r.at_ < 65536 ∧ r.b.length = 16 ∧ r.name ∈ d.files.map (·.name)
  llen : d.log.length ≤ 1000000
  left : d.left ≤ 9223372036854775807

def find (fs : List FM) (nm : List UInt8) : Option FM := fs.find? fun f => f.name == nm
def isIn (fs : List FM) (nm : List UInt8) : Bool := fs.any fun f => f.name == nm
/-- files of which one is another one now -/
def setF (fs : List FM) (nm : List UInt8) (g : FM → FM) : List FM := fs.map fun f => if f.name == nm then g f else f
def forget (l : List RM) (nm : List UInt8) (k : Nat) : List RM := l.filter fun r => !(r.name == nm && decide (k ≤ r.at_))
/-- enough noughts for so many sectors -/
def grow (l : List Sec) (n : Nat) : List Sec := l ++ List.replicate (n - l.length) zs
def put (l : List Sec) (k : Nat) (s : Sec) : List Sec := (grow l (k + 1)).set k s
def used (fs : List FM) : Nat := (fs.map fun f => f.now.length).sum

theorem grow_len (l : List Sec) (n : Nat) : (grow l n).length = max l.length n := by simp [grow]; omega
theorem put_len (l : List Sec) (k : Nat) (s : Sec) : (put l k s).length = max l.length (k + 1) := by simp [put, grow_len]
theorem grow_self (l : List Sec) (n : Nat) (h : n ≤ l.length) : grow l n = l := by simp [grow, Nat.sub_eq_zero_of_le h]
theorem grow_snoc (l : List Sec) (n m : Nat) (h1 : l.length ≤ m) (h2 : m < n) : grow l m ++ [zs] = grow l (m + 1) := by
  unfold grow
  rw [List.append_assoc, ← List.replicate_succ', show m + 1 - l.length = m - l.length + 1 by omega]
theorem grow_ok {l : List Sec} (h : SecsOk l) (n : Nat) (hn : n ≤ 65536) : SecsOk (grow l n) := by
  refine ⟨by rw [grow_len]; have := h.1; omega, fun s hs => ?_⟩
  rcases List.mem_append.1 hs with hs | hs
  · exact h.2 s hs
  · rw [List.eq_of_mem_replicate hs]; rfl
theorem put_ok {l : List Sec} (h : SecsOk l) (k : Nat) (hk : k < 65536) (s : Sec) (hs : s.length = 16) : SecsOk (put l k s) := by
  have hg := grow_ok h (k + 1) (by omega)
  refine ⟨by unfold put; rw [List.length_set]; exact hg.1, fun t ht => ?_⟩
  rcases List.mem_or_eq_of_mem_set ht with h1 | h1
  · exact hg.2 t h1
  · rw [h1]; exact hs

/-- a record of a crash on the files -/
def play (fs : List FM) (r : RM) : List FM := setF fs r.name fun f => { f with now := put f.now r.at_ r.b }
def picked (picks : List Bool) (l : List RM) : List RM := (List.range l.length).filterMap fun i => if picks.getD i false then l[i]? else none
def crash (d : DM) (picks : List Bool) : DM :=
  let fs := (picked picks d.log).foldl play (d.files.map fun f => { f with now := f.kept })
  { d with files := fs.map fun f => { f with kept := f.now }, log := [], left := 0, off := false }

/-- one sector written -/
def one (d : DM) (nm : List UInt8) (k : Nat) (s : Sec) : DM × Bool :=
  if d.left = 1 then ({ d with left := 0, off := true }, false)
  else ({ d with left := d.left - 1, files := setF d.files nm fun f => { f with now := put f.now k s }, log := d.log ++ [⟨nm, k, s⟩] }, true)
/-- sectors written, one behind the other -/
def many (d : DM) (nm : List UInt8) (k : Nat) : List Sec → DM × Bool
  | [] => (d, true)
  | s :: l => match one d nm k s with
    | (d', false) => (d', false)
    | (d', true) => many d' nm (k + 1) l

theorem setF_names (fs : List FM) (nm : List UInt8) (g : FM → FM) (h : ∀ f, (g f).name = f.name) : (setF fs nm g).map (·.name) = fs.map (·.name) := by
  unfold setF; rw [List.map_map]; apply List.map_congr_left; intro f _; simp only [Function.comp]; split
  · exact h f
  · rfl
theorem setF_len (fs : List FM) (nm : List UInt8) (g : FM → FM) : (setF fs nm g).length = fs.length := by simp [setF]
theorem setF_mem {fs : List FM} {nm : List UInt8} {g : FM → FM} {f : FM} (h : f ∈ setF fs nm g) : ∃ f0 ∈ fs, f = f0 ∨ f = g f0 := by
  unfold setF at h
  obtain ⟨f0, h0, rfl⟩ := List.mem_map.1 h
  refine ⟨f0, h0, ?_⟩
  split
  · exact .inr rfl
  · exact .inl rfl
end Go.Dk
