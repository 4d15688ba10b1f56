import Derived.Test.YtoccgpddmhhlgaaL
namespace Go.Str
open Go.Crc

/-- the n lowest bytes of a number, the lowest first -/
def le (n : Nat) (v : Nat) : List UInt8 := (List.range n).map fun i => UInt8.ofNat (v / 256 ^ i)
theorem le_zero (v : Nat) : le 0 v = [] := rfl
theorem le_succ (n v : Nat) : le (n + 1) v = le n v ++ [UInt8.ofNat (v / 256 ^ n)] := by simp [le, List.range_succ]
theorem le_length (n v : Nat) : (le n v).length = n := by simp [le]
/-- the number that bytes tell, the lowest first -/
def deL : List UInt8 → Nat
  | [] => 0
  | x :: r => x.toNat + 256 * deL r
theorem deL_append : ∀ a b : List UInt8, deL (a ++ b) = deL a + 256 ^ a.length * deL b
  | [], b => by simp [deL]
  | x :: a, b => by
    simp only [List.cons_append, deL, deL_append a b, List.length_cons, Nat.pow_succ, Nat.mul_add]
    rw [Nat.mul_comm (256 ^ a.length) 256, Nat.mul_assoc, Nat.add_assoc]
theorem deL_lt : ∀ l : List UInt8, deL l < 256 ^ l.length
  | [] => by simp [deL]
  | x :: r => by
    have := deL_lt r
    have hx := x.toNat_lt
    simp only [deL, List.length_cons, Nat.pow_succ]
    omega
theorem deL_le (n v : Nat) : deL (le n v) = v % 256 ^ n := by
  induction n with
  | zero => simp [le, deL, Nat.mod_one]
  | succ n ih =>
    rw [le_succ, deL_append, ih, le_length]
    simp only [deL, UInt8.toNat_ofNat', Nat.mul_zero, Nat.add_zero]
    have h : (2 : Nat) ^ 8 = 256 := rfl
    rw [h, Nat.pow_succ, Nat.mod_mul (x := v) (a := 256 ^ n) (b := 256)]
theorem deL_inj : ∀ a b : List UInt8, a.length = b.length → deL a = deL b → a = b
  | [], [], _, _ => rfl
  | x :: a, y :: b, hl, h => by
    simp only [deL] at h
    have hx := x.toNat_lt
    have hy := y.toNat_lt
    have e1 : x.toNat = y.toNat := by omega
    have e2 : deL a = deL b := by omega
    rw [UInt8.toNat_inj.1 e1, deL_inj a b (by simpa using hl) e2]

/-- a parser -/
abbrev Par (α : Type) := List UInt8 → Option (α × List UInt8)
/-- what a parser says hangs on what it takes alone -/
def Ok {α : Type} (p : Par α) : Prop := ∀ l x r, p l = some (x, r) → ∃ c, l = c ++ r ∧ ∀ q, p (c ++ q) = some (x, q)
def pbind {α β : Type} (p : Par α) (f : α → Par β) : Par β := fun l => match p l with | none => none | some (x, r) => f x r
def pret {α : Type} (x : α) : Par α := fun l => some (x, l)
theorem Ok.bind {α β : Type} {p : Par α} {f : α → Par β} (h : Ok p) (hf : ∀ x, Ok (f x)) : Ok (pbind p f) := by
  intro l x r e
  unfold pbind at e
  split at e
  · cases e
  · rename_i y r' hp
    obtain ⟨c, rfl, hc⟩ := h l y r' hp
    obtain ⟨d, rfl, hd⟩ := hf y r' x r e
    refine ⟨c ++ d, by simp, fun q => ?_⟩
    unfold pbind
    rw [List.append_assoc, hc]
    exact hd q
theorem Ok.ret {α : Type} (x : α) : Ok (pret x) := by
  intro l y r e
  unfold pret at e
  cases e
  exact ⟨[], rfl, fun q => rfl⟩

/-- n bytes -/
def pTake (n : Nat) : Par (List UInt8) := fun l => if n ≤ l.length then some (l.take n, l.drop n) else none
def pNum (n : Nat) : Par Nat := fun l => if n ≤ l.length then some (deL (l.take n), l.drop n) else none
theorem Ok.take (n : Nat) : Ok (pTake n) := by
  intro l x r e
  unfold pTake at e
  split at e
  · rename_i h
    cases e
    refine ⟨l.take n, (List.take_append_drop n l).symm, fun q => ?_⟩
    unfold pTake
    have : (l.take n).length = n := by simp; omega
    rw [if_pos (by simp; omega), List.take_left' this, List.drop_left' this]
  · cases e
theorem Ok.num (n : Nat) : Ok (pNum n) := by
  intro l x r e
  unfold pNum at e
  split at e
  · rename_i h
    cases e
    refine ⟨l.take n, (List.take_append_drop n l).symm, fun q => ?_⟩
    unfold pNum
    have : (l.take n).length = n := by simp; omega
    rw [if_pos (by simp; omega), List.take_left' this, List.drop_left' this]
  · cases e
theorem pNum_le (n v : Nat) (h : v < 256 ^ n) (q : List UInt8) : pNum n (le n v ++ q) = some (v, q) := by
  unfold pNum
  rw [if_pos (by simp [le_length]), List.take_left' (le_length n v), List.drop_left' (le_length n v), deL_le, Nat.mod_eq_of_lt h]
theorem pTake_app (d : List UInt8) (q : List UInt8) : pTake d.length (d ++ q) = some (d, q) := by
  unfold pTake
  rw [if_pos (by simp), List.take_left' rfl, List.drop_left' rfl]

structure Rec where
  at_ : Int
  data : List UInt8
instance : Inhabited Rec := ⟨⟨0, []⟩⟩
structure Strm where
  full : Bool
  size : Int
  recs : List Rec
instance : Inhabited Strm := ⟨⟨false, 0, []⟩⟩
def Rec.n (r : Rec) : Nat := r.data.length / 16

def okR (size last : Int) (r : Rec) : Bool := decide (1 ≤ r.n) && decide (r.data.length % 16 = 0) && decide (last ≤ r.at_) && decide (r.at_ ≤ size) && decide ((r.n : Int) ≤ size - r.at_)
def rightFrom (size : Int) : Int → List Rec → Bool
  | _, [] => true
  | last, r :: rs => okR size last r && rightFrom size (r.at_ + r.n) rs
def right (s : Strm) : Bool := decide (0 ≤ s.size ∧ s.size ≤ 4096) && rightFrom s.size 0 s.recs

def recB (r : Rec) : List UInt8 := le 2 r.at_.toNat ++ (le 2 r.n ++ (r.data ++ le 4 (sum r.data).toNat))
def mark : List UInt8 := [77, 84, 82, 75]
def headB (s : Strm) : List UInt8 := mark ++ (le 1 (if s.full then 1 else 0) ++ (le 2 s.size.toNat ++ le 2 s.recs.length))
def bodyB (s : Strm) : List UInt8 := headB s ++ s.recs.flatMap recB
def putB (s : Strm) : List UInt8 := bodyB s ++ le 4 (sum (bodyB s)).toNat

theorem okR_iff (size last : Int) (r : Rec) : okR size last r = true ↔ 1 ≤ r.n ∧ r.data.length % 16 = 0 ∧ last ≤ r.at_ ∧ r.at_ ≤ size ∧ (r.n : Int) ≤ size - r.at_ := by
  simp [okR]; constructor
  · rintro ⟨⟨⟨⟨a, b⟩, c⟩, d⟩, e⟩; exact ⟨a, b, c, d, e⟩
  · rintro ⟨a, b, c, d, e⟩; exact ⟨⟨⟨⟨a, b⟩, c⟩, d⟩, e⟩

theorem rightFrom_mem (size : Int) : ∀ (l : List Rec) (last : Int), 0 ≤ last → rightFrom size last l = true → ∀ r ∈ l, 0 ≤ r.at_ ∧ r.at_ ≤ size ∧ r.data.length % 16 = 0 ∧ 1 ≤ r.n ∧ (r.n : Int) ≤ size
  | [], _, _, _, r, hr => absurd hr (by simp)
  | x :: l, last, h0, h, r, hr => by
    rw [rightFrom, Bool.and_eq_true] at h
    have hx := (okR_iff _ _ _).1 h.1
    rcases List.mem_cons.1 hr with rfl | hr
    · exact ⟨by omega, hx.2.2.2.1, hx.2.1, hx.1, by omega⟩
    · exact rightFrom_mem size l _ (by omega) h.2 r hr
theorem rightFrom_len (size : Int) : ∀ (l : List Rec) (last : Int), last ≤ size → rightFrom size last l = true → (l.length : Int) ≤ size - last ∧ (((l.flatMap fun r => r.data).length : Nat) : Int) ≤ 16 * (size - last)
  | [], last, h, _ => by simp; omega
  | x :: l, last, h0, h => by
    rw [rightFrom, Bool.and_eq_true] at h
    have hx := (okR_iff _ _ _).1 h.1
    have := rightFrom_len size l (x.at_ + x.n) (by omega) h.2
    have hn : x.data.length = 16 * x.n := by unfold Rec.n; omega
    simp only [List.length_cons, List.flatMap_cons, List.length_append]
    omega
theorem right_mem {s : Strm} (h : right s = true) : 0 ≤ s.size ∧ s.size ≤ 4096 ∧ s.recs.length ≤ 4096 ∧ (s.recs.flatMap fun r => r.data).length ≤ 65536 ∧ ∀ r ∈ s.recs, 0 ≤ r.at_ ∧ r.at_ ≤ 4096 ∧ r.data.length % 16 = 0 ∧ 1 ≤ r.n ∧ r.n ≤ 4096 := by
  rw [right, Bool.and_eq_true, decide_eq_true_eq] at h
  obtain ⟨⟨h1, h2⟩, h3⟩ := h
  have := rightFrom_len s.size s.recs 0 h1 h3
  refine ⟨h1, h2, by omega, by omega, fun r hr => ?_⟩
  have := rightFrom_mem s.size s.recs 0 (by omega) h3 r hr
  exact ⟨this.1, by omega, this.2.2.1, this.2.2.2.1, by omega⟩

theorem recB_length (r : Rec) : (recB r).length = 8 + r.data.length := by simp [recB, le_length]; omega
theorem flat_len : ∀ l : List Rec, (l.flatMap recB).length = 8 * l.length + (l.flatMap fun r => r.data).length
  | [] => rfl
  | x :: l => by simp only [List.flatMap_cons, List.length_append, flat_len l, recB_length, List.length_cons]; omega
theorem headB_length (s : Strm) : (headB s).length = 9 := by simp [headB, mark, le_length]
theorem putB_length (s : Strm) : (putB s).length = 13 + (8 * s.recs.length + (s.recs.flatMap fun r => r.data).length) := by
  simp only [putB, bodyB, List.length_append, headB_length, flat_len, le_length]; omega
theorem putB_short {s : Strm} (h : right s = true) : (putB s).length ≤ 98317 := by
  have := right_mem h; rw [putB_length]; omega

/- reading -/
def pRec : Par (Rec × Nat) := pbind (pNum 2) fun a => pbind (pNum 2) fun k => pbind (pTake (k * 16)) fun d => pbind (pNum 4) fun c => pret (⟨a, d⟩, c)
def pRecs : Nat → Par (List (Rec × Nat))
  | 0 => pret []
  | n + 1 => pbind pRec fun x => pbind (pRecs n) fun xs => pret (x :: xs)
structure Raw where
  full : Nat
  size : Nat
  recs : List (Rec × Nat)
  last : Nat
def pMark : Par Unit := pbind (pTake 4) fun m => if m = mark then pret () else fun _ => none
def pAll : Par Raw := pbind pMark fun _ => pbind (pNum 1) fun f => pbind (pNum 2) fun z => pbind (pNum 2) fun n => pbind (pRecs n) fun l => pbind (pNum 4) fun c => pret ⟨f, z, l, c⟩
theorem okNone {α : Type} : Ok (fun _ => none : Par α) := fun _ _ _ e => by cases e
theorem pRec_ok : Ok pRec := (Ok.num 2).bind fun _ => (Ok.num 2).bind fun _ => (Ok.take _).bind fun _ => (Ok.num 4).bind fun _ => Ok.ret _
theorem pRecs_ok : ∀ n, Ok (pRecs n)
  | 0 => Ok.ret _
  | n + 1 => pRec_ok.bind fun _ => (pRecs_ok n).bind fun _ => Ok.ret _
theorem pMark_ok : Ok pMark := (Ok.take 4).bind fun m => by
  by_cases h : m = mark
  · simp only [h, if_true]; exact Ok.ret _
  · simp only [h, if_false]; exact okNone
theorem pAll_ok : Ok pAll := pMark_ok.bind fun _ => (Ok.num 1).bind fun _ => (Ok.num 2).bind fun _ => (Ok.num 2).bind fun n => (pRecs_ok n).bind fun _ => (Ok.num 4).bind fun _ => Ok.ret _

/-- the stream that bytes are, and whether their sums are right -/
def Raw.strm (x : Raw) : Strm := ⟨x.full == 1, x.size, x.recs.map (·.1)⟩
def Raw.sums (x : Raw) : Bool := x.recs.all fun r => decide ((sum r.1.data).toNat = r.2)
def formB (b : List UInt8) : Option Raw := match pAll b with
  | some (x, []) => if x.full ≤ 1 ∧ right x.strm = true ∧ b.length ≤ 262144 then some x else none
  | _ => none
/-- reading: the number of an error, or the stream -/
def getB (b : List UInt8) : Strm × Nat := match formB b with
  | none => (⟨false, 0, []⟩, 3)
  | some x => if x.sums = true ∧ (sum (b.take (b.length - 4))).toNat = x.last then (x.strm, 0) else (⟨false, 0, []⟩, 13)

theorem pbind_eq {α β : Type} {p : Par α} {f : α → Par β} {l : List UInt8} {x : α} {r : List UInt8} (h : p l = some (x, r)) : pbind p f l = f x r := by unfold pbind; rw [h]

def Fit (r : Rec) : Prop := 0 ≤ r.at_ ∧ r.at_ < 65536 ∧ r.data.length % 16 = 0 ∧ r.n < 65536
theorem pRec_put (r : Rec) (h : Fit r) (q : List UInt8) : pRec (recB r ++ q) = some ((r, (sum r.data).toNat), q) := by
  obtain ⟨h1, h2, h3, h4⟩ := h
  unfold pRec recB
  simp only [List.append_assoc]
  rw [pbind_eq (pNum_le 2 _ (by omega) _), pbind_eq (pNum_le 2 _ (by omega) _)]
  have hn : r.n * 16 = r.data.length := by unfold Rec.n; omega
  rw [hn, pbind_eq (pTake_app _ _), pbind_eq (pNum_le 4 _ (by have := (sum r.data).isLt; omega) _)]
  unfold pret
  congr 3
  cases r
  simp only at h1
  simp only [Rec.mk.injEq, and_true]
  omega
theorem pRecs_put : ∀ (l : List Rec) (h : ∀ r ∈ l, Fit r) (q : List UInt8), pRecs l.length (l.flatMap recB ++ q) = some (l.map fun r => (r, (sum r.data).toNat), q)
  | [], _, q => rfl
  | x :: l, h, q => by
    simp only [List.length_cons, List.flatMap_cons, pRecs, List.append_assoc]
    rw [pbind_eq (pRec_put x (h x (by simp)) _), pbind_eq (pRecs_put l (fun r hr => h r (by simp [hr])) q)]
    rfl
theorem pAll_put (s : Strm) (h : right s = true) (c : Nat) (hc : c < 256 ^ 4) (q : List UInt8) :
    pAll (bodyB s ++ (le 4 c ++ q)) = some (⟨if s.full then 1 else 0, s.size.toNat, s.recs.map fun r => (r, (sum r.data).toNat), c⟩, q) := by
  have hm := right_mem h
  unfold pAll bodyB headB
  simp only [List.append_assoc]
  have e0 : ∀ q, pMark (mark ++ q) = some ((), q) := fun q => by
    unfold pMark
    rw [show pTake 4 = pTake mark.length from rfl, pbind_eq (pTake_app mark q), if_pos rfl]; rfl
  rw [pbind_eq (e0 _), pbind_eq (pNum_le 1 _ (by split <;> omega) _), pbind_eq (pNum_le 2 _ (by omega) _), pbind_eq (pNum_le 2 _ (by omega) _),
    pbind_eq (pRecs_put s.recs (fun r hr => by have := hm.2.2.2.2 r hr; exact ⟨by omega, by omega, by omega, by omega⟩) _), pbind_eq (pNum_le 4 _ hc _)]
  rfl
theorem form_put (s : Strm) (h : right s = true) : formB (putB s) = some ⟨if s.full then 1 else 0, s.size.toNat, s.recs.map fun r => (r, (sum r.data).toNat), (sum (bodyB s)).toNat⟩ := by
  have hm := right_mem h
  have hs := putB_short h
  have := pAll_put s h (sum (bodyB s)).toNat (by have := (sum (bodyB s)).isLt; omega) []
  rw [List.append_nil] at this
  unfold formB
  rw [show putB s = bodyB s ++ le 4 (sum (bodyB s)).toNat from rfl, this]
  have e : (Raw.strm ⟨if s.full then 1 else 0, s.size.toNat, s.recs.map fun r => (r, (sum r.data).toNat), (sum (bodyB s)).toNat⟩) = s := by
    cases s with | mk f z l =>
    simp only [Raw.strm, List.map_map]
    congr 1
    · cases f <;> rfl
    · simp only at hm; omega
    · exact List.map_id _
  simp only
  rw [if_pos ⟨by cases s.full <;> simp, by rw [e]; exact h, by unfold putB at hs; omega⟩]
theorem strm_put (s : Strm) (h : right s = true) (c : Nat) : (Raw.strm ⟨if s.full then 1 else 0, s.size.toNat, s.recs.map fun r => (r, (sum r.data).toNat), c⟩) = s := by
  have hm := right_mem h
  cases s with | mk f z l =>
  simp only [Raw.strm, List.map_map]
  congr 1
  · cases f <;> rfl
  · simp only at hm; omega
  · exact List.map_id _
/-- what was put is read back -/
theorem get_put (s : Strm) (h : right s = true) : getB (putB s) = (s, 0) := by
  unfold getB
  rw [form_put s h]
  simp only
  rw [if_pos, strm_put s h]
  refine ⟨?_, ?_⟩
  · simp [Raw.sums]
  · congr 2
    have : (putB s).length - 4 = (bodyB s).length := by unfold putB; simp [le_length]
    rw [this]; unfold putB
    exact List.take_left' rfl
theorem putB_inj (s t : Strm) (hs : right s = true) (ht : right t = true) (h : putB s = putB t) : s = t := by
  have h1 := get_put s hs
  rw [h, get_put t ht] at h1
  exact (Prod.mk.inj h1).1.symm

theorem pAll_put' (s : Strm) (h : right s = true) : ∃ x, pAll (putB s) = some (x, []) := by
  have := pAll_put s h (sum (bodyB s)).toNat (by have := (sum (bodyB s)).isLt; omega) []
  rw [List.append_nil] at this
  exact ⟨_, this⟩
/-- a beginning is none -/
theorem form_cut (s : Strm) (h : right s = true) (k : Nat) (hk : k < (putB s).length) : formB ((putB s).take k) = none := by
  obtain ⟨x, hx⟩ := pAll_put' s h
  unfold formB
  split
  · rename_i y hy
    exfalso
    obtain ⟨c, hc, hq⟩ := pAll_ok _ _ _ hy
    rw [List.append_nil] at hc
    have := hq ((putB s).drop k)
    rw [← hc, List.take_append_drop, hx] at this
    simp only [Option.some.injEq, Prod.mk.injEq] at this
    have := congrArg List.length this.2
    simp at this
    omega
  · rfl

theorem crcB_inj (g : BitVec 32) (x y : UInt8) (h : crcB g x = crcB g y) : x = y := by
  have := stpN_inj _ _ _ h
  rw [BitVec.xor_comm g, BitVec.xor_comm g] at this
  exact z8_inj _ _ (xor_right_inj _ _ _ this)
theorem sum_one (p r : List UInt8) (x y : UInt8) (h : sum (p ++ x :: r) = sum (p ++ y :: r)) : x = y := by
  have h : crcL (~~~ 0) (p ++ x :: r) = crcL (~~~ 0) (p ++ y :: r) := by
    have := congrArg (fun a => ~~~ a) h
    simpa [sum, more] using this
  rw [crcL_append, crcL_append] at h
  have h : crcL (crcB _ x) r = crcL (crcB _ y) r := h
  exact crcB_inj _ _ _ (crcL_inj r _ _ h)
theorem sum_set (l : List UInt8) (k : Nat) (y : UInt8) (hk : k < l.length) (hy : y ≠ l.getD k 0) : sum (l.set k y) ≠ sum l := by
  intro h
  apply hy
  have e1 : l.set k y = l.take k ++ y :: l.drop (k+1) := List.set_eq_take_append_cons_drop.trans (by rw [if_pos hk])
  have e2 : l = l.take k ++ l.getD k 0 :: l.drop (k+1) := by
    have e : l.drop k = l.getD k 0 :: l.drop (k+1) := by
      rw [List.drop_eq_getElem_cons hk, List.getD_eq_getElem?_getD, List.getElem?_eq_getElem hk]; rfl
    rw [← e, List.take_append_drop]
  rw [e1] at h
  conv at h => rhs; rw [e2]
  exact sum_one _ _ _ _ h

/-- the last field is the last four bytes -/
theorem pAll_last (b : List UInt8) (x : Raw) (h : pAll b = some (x, [])) : 4 ≤ b.length ∧ x.last = deL (b.drop (b.length - 4)) := by
  have key : ∀ (p : Par (Nat × Nat × List (Rec × Nat))) (hp : Ok p), pbind p (fun y => pbind (pNum 4) fun c => pret ⟨y.1, y.2.1, y.2.2, c⟩) b = some (x, []) → 4 ≤ b.length ∧ x.last = deL (b.drop (b.length - 4)) := by
    clear h; intro p hp h5
    unfold pbind at h5
    split at h5
    · cases h5
    · rename_i y r hy
      obtain ⟨c, rfl, _⟩ := hp _ _ _ hy
      unfold pNum at h5
      simp only at h5
      split at h5
      · cases h5
      · rename_i z r' hz
        split at hz
        · rename_i h4
          cases hz
          unfold pret at h5
          simp only [Option.some.injEq, Prod.mk.injEq] at h5
          obtain ⟨rfl, hd⟩ := h5
          have hl : r.length = 4 := by have := congrArg List.length hd; simp at this; omega
          refine ⟨by simp; omega, ?_⟩
          have e : (c ++ r).length - 4 = c.length := by simp; omega
          rw [e, List.drop_left' rfl]
          rw [List.take_of_length_le (by omega)]
        · cases hz
  refine key (pbind pMark fun _ => pbind (pNum 1) fun f => pbind (pNum 2) fun z => pbind (pNum 2) fun n => pbind (pRecs n) fun l => pret (f, z, l)) ?_ ?_
  · exact pMark_ok.bind fun _ => (Ok.num 1).bind fun _ => (Ok.num 2).bind fun _ => (Ok.num 2).bind fun n => (pRecs_ok n).bind fun _ => Ok.ret _
  · rw [← h]
    have assoc : ∀ {α β γ : Type} (p : Par α) (f : α → Par β) (g : β → Par γ), pbind (pbind p f) g = pbind p fun x => pbind (f x) g := by
      intro α β γ p f g; funext l; unfold pbind; cases p l <;> rfl
    have unit : ∀ {α β : Type} (x : α) (f : α → Par β), pbind (pret x) f = f x := by intro α β x f; rfl
    unfold pAll
    simp only [assoc, unit]

theorem getB_form {b : List UInt8} (h : formB b = none) : (getB b).2 = 3 := by unfold getB; rw [h]
/-- one byte turned: refused -/
theorem get_turned (s : Strm) (h : right s = true) (k : Nat) (y : UInt8) (hk : k < (putB s).length) (hy : y ≠ (putB s).getD k 0) : (getB ((putB s).set k y)).2 = 3 ∨ (getB ((putB s).set k y)).2 = 13 := by
  unfold getB
  cases hf : formB ((putB s).set k y) with
  | none => exact .inl rfl
  | some x =>
    right
    simp only
    rw [if_neg]
    rintro ⟨_, hsum⟩
    have hp : pAll ((putB s).set k y) = some (x, []) := by
      unfold formB at hf
      split at hf
      · rename_i z hz
        split at hf
        · cases hf; exact hz
        · cases hf
      · cases hf
    obtain ⟨_, hlast⟩ := pAll_last _ _ hp
    rw [hlast] at hsum
    have hlen : (putB s).length = (bodyB s).length + 4 := by unfold putB; simp [le_length]
    rw [List.length_set, hlen, Nat.add_sub_cancel] at hsum
    have eb : (putB s).take (bodyB s).length = bodyB s := List.take_left' rfl
    have ed : (putB s).drop (bodyB s).length = le 4 (sum (bodyB s)).toNat := List.drop_left' rfl
    have es : deL (le 4 (sum (bodyB s)).toNat) = (sum (bodyB s)).toNat := by rw [deL_le]; exact Nat.mod_eq_of_lt (by have := (sum (bodyB s)).isLt; omega)
    rcases Nat.lt_or_ge k (bodyB s).length with hlt | hge
    · rw [List.take_set, List.drop_set, if_pos hlt, eb, ed, es] at hsum
      have hyb : y ≠ (bodyB s).getD k 0 := by
        have : (putB s).getD k 0 = (bodyB s).getD k 0 := by
          rw [List.getD_eq_getElem?_getD, List.getD_eq_getElem?_getD]
          unfold putB
          rw [List.getElem?_append_left hlt]
        rw [← this]; exact hy
      exact sum_set _ k y hlt hyb (BitVec.eq_of_toNat_eq hsum)
    · rw [List.take_set_of_le hge, List.drop_set, if_neg (by omega), eb, ed] at hsum
      have := deL_inj _ _ (by simp [le_length]) (es.trans hsum)
      have hj : k - (bodyB s).length < 4 := by omega
      have h2 := congrArg (fun l => l.getD (k - (bodyB s).length) 0) this
      simp only [List.getD_eq_getElem?_getD, List.getElem?_set_self (show k - (bodyB s).length < (le 4 (sum (bodyB s)).toNat).length by simp [le_length]; omega)] at h2
      apply hy
      rw [← ed, List.getElem?_drop] at h2
      rw [List.getD_eq_getElem?_getD]
      rw [show (bodyB s).length + (k - (bodyB s).length) = k by omega] at h2
      simpa using h2.symm
end Go.Str
