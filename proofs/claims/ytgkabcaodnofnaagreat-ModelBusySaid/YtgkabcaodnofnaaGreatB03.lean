import Derived.Test.YtgkabcaodnofnaaGreatB02
import Derived.Maps.RangeWalk
import Derived.Maps.OwnSet
import Derived.StringKeys
import Derived.RangeFuncNested
import Derived.RangeFuncBound
import Derived.RangeFuncCalls
import Derived.RangeFuncLeaves
import Derived.Shelf.Abstract
import Derived.Shelf.RegionOpen
import Derived.WalkKit
import Derived.OwnWalkIn
import Derived.TacticsInMore
import Derived.LoopNIn
import Derived.LoopIn
import Derived.Maps.AppendAt
import Derived.WalkLawsBesides
import Derived.Test.YtgkabcaodnofnaaGreatRows
set_option linter.unusedSimpArgs false
set_option linter.unusedVariables false
set_option maxRecDepth 100000
set_option maxHeartbeats 2000000
open Go.Proofs.Tryz
namespace Go.Mx
open Go.RowKit Go.Maps Go.MapKept Go.ChangeMaps
def enc:Value->Option (DataW Unit)
 | .pointer none=>some (.agg [.lit (.int .i64 0)])
 | .pointer (some ⟨b,o,none⟩)=>some (.agg [.lit (.int .i64 1),.lit (.int .i64 b),.lit (.int .i64 o)])
 | .slice none n c=>some (.agg [.lit (.int .i64 2),.lit (.int .i64 n),.lit (.int .i64 c)])
 | .slice (some ⟨b,o,none⟩) n c=>some (.agg [.lit (.int .i64 3),.lit (.int .i64 b),.lit (.int .i64 o),.lit (.int .i64 n),.lit (.int .i64 c)])
 | .map none=>some (.agg [.lit (.int .i64 4)])
 | .map (some b)=>some (.agg [.lit (.int .i64 5),.lit (.int .i64 b)])
 | .bool b=>some (.lit (.bool b))
 | .int k n=>some (.lit (.int k n))
 | .string s=>some (.lit (.string s.data.toList))
 | .func (.func n) ⟨[.pointer (some ⟨b,0,none⟩)]⟩ ⟨[]⟩=>some (.agg [.lit (.int .i64 6),.lit (.int .i64 n),.lit (.int .i64 b)])
 | .nilFunc=>some (.agg [.lit (.int .i64 7)])
 | _=>none
theorem enc_inj {a b:Value}{d:DataW Unit}(ha:enc a=some d)(hb:enc b=some d):a=b:=by
 unfold enc at ha hb;split at ha<;>split at hb<;>first
  | (cases ha;done)
  | (cases hb;done)
  | rfl
  | (rw[<-hb] at ha;simp only[Option.some.injEq,DataW.agg.injEq,DataW.lit.injEq,Lit.int.injEq,Lit.bool.injEq,Lit.string.injEq,List.cons.injEq,true_and,and_true,Int.ofNat_inj] at ha<;>first|rfl|(rw[ha];done)|(obtain⟨rfl,rfl⟩:=ha;rfl)|(obtain⟨rfl,rfl,rfl,rfl⟩:=ha;rfl)|(rename_i s _ t;cases s;cases t;simp only at ha;rw[Array.toList_inj.1 ha];done)|(simp at ha;done))
def vR (v:Value):Option (DataW Unit×List MemPlace):=(enc v).map fun d=>(d,[])
theorem vR_inv {v:Value}{y:DataW Unit×List MemPlace}(h:vR v=some y):enc v=some y.1:=by
 unfold vR at h;cases he:enc v with
 | none=>rw[he] at h;cases h
 | some d=>rw[he] at h;cases h;rfl
theorem vR_of {v:Value}{d:DataW Unit}(h:enc v=some d):vR v=some (d,[]):=by unfold vR;rw[h];rfl
structure Emb (κ:Type) where
 val:κ->Value
 lit:κ->Lit
 ok:κ->Prop
structure KOK {κ:Type}(P:Program)(k:TypeId)(E:Emb κ):Prop where
 keyed:Keyed P k
 key:∀ s,E.ok s->keyOf P k (E.val s)=some (E.lit s)
 inv:∀ v l,keyOf P k v=some l->∃ s,v=E.val s/\l=E.lit s/\E.ok s
 inj:∀ a b,E.lit a=E.lit b->a=b
 isLit:∀ s,WideAt.IsKeyLit (E.lit s)
def EI:Emb Int:=⟨fun n => .int .i64 n,fun n => .int .i64 n,fun n=>(Lit.int .i64 n).wf=true⟩
def ES:Emb (List UInt8):=⟨fun s => .string ⟨s.toArray⟩,fun s => .string s,fun s=>s.length<=maxLen⟩
theorem KOK.int {P:Program}{k:TypeId}(hk:P.underlying k=some (.int .i64)):KOK P k EI where
 keyed:=int_keyed hk
 key:=fun s hs=>keyOf_int_mk hk hs
 inv:=fun v l h=>by obtain⟨x,rfl,rfl,hw⟩:=Maps.keyOf_int_inv hk h;exact⟨x,rfl,rfl,hw⟩
 inj:=fun a b h=>by simpa[EI] using h
 isLit:=fun s=>trivial
theorem KOK.str {P:Program}{k:TypeId}(hk:P.underlying k=some .string):KOK P k ES where
 keyed:=string_keyed hk
 key:=fun s hs=>by
  have hs:s.length<=maxLen:=hs;have:=WideMaps.keyOf_string_mk (P:=P) hk (s:=⟨s.toArray⟩) (by simpa[ByteArray.size] using hs);simpa[ES] using this
 inv:=fun v l h=>by
  cases v<;>simp[keyOf,hk,mapKey] at h
  rename_i s;obtain⟨h1,rfl⟩:=h;refine⟨s.data.toList,by simp[ES],by simp[ES],?_⟩;show s.data.toList.length<=maxLen;rw[Array.length_toList];exact h1
 inj:=fun a b h=>by simpa[ES] using h
 isLit:=fun s=>trivial
section
variable {κ:Type}[DecidableEq κ]
abbrev ML (κ:Type):=List (κ×Value)
def look (l:ML κ)(s:κ):Option Value:=(l.find? (fun p=>decide (p.1=s))).map (·.2)
def upd (l:ML κ)(s:κ)(b:Value):ML κ:=if (look l s).isSome then l.map (fun p=>if p.1=s then(s,b) else p) else l++[(s,b)]
def del (l:ML κ)(s:κ):ML κ:=l.filter fun p => !decide (p.1=s)
theorem look_cons (p:κ×Value)(l:ML κ)(s:κ):look (p :: l) s=if p.1=s then some p.2 else look l s:=by
 unfold look;rw[List.find?_cons];by_cases h:p.1=s
 ·simp[h]
 ·rw[if_neg h,show decide (p.1=s)=false by simpa using h]
theorem look_nil (s:κ):look [] s=none:=rfl
theorem look_none (l:ML κ)(s:κ):look l s=none↔s∉l.map (·.1):=by
 induction l with
 | nil=>simp[look_nil]
 | cons p l ih =>
  rw[look_cons];by_cases h:p.1=s
  ·rw[if_pos h];simp[h]
  ·rw[if_neg h,ih];simp;intro _ e;exact h e.symm
theorem look_append (l m:ML κ)(s:κ):look (l++m) s=(look l s).or (look m s):=by
 induction l with
 | nil=>rw[look_nil,List.nil_append];rfl
 | cons p l ih=>rw[List.cons_append,look_cons,look_cons,ih];split<;>rfl
theorem look_map (l:ML κ)(s t:κ)(b:Value):look (l.map (fun p=>if p.1=s then(s,b) else p)) t=if t=s then(look l s).map (fun _=>b) else look l t:=by
 induction l with
 | nil=>simp[look_nil]
 | cons p l ih =>
  rw[List.map_cons,look_cons,look_cons,look_cons,ih];by_cases h:p.1=s
  ·subst h;by_cases h2:t=p.1
   ·subst h2;simp
   ·simp[h2,Ne.symm h2]
  ·by_cases h2:t=s
   ·subst h2;simp[h]
   ·simp[h,h2]
theorem look_upd (l:ML κ)(s t:κ)(b:Value):look (upd l s b) t=if t=s then some b else look l t:=by
 unfold upd;cases h:look l s with
 | none =>
  simp only[Option.isSome_none,Bool.false_eq_true,if_false];rw[look_append,look_cons,look_nil];by_cases h2:t=s
  ·subst h2;rw[h];simp
  ·rw[if_neg h2,if_neg (Ne.symm h2)];simp
 | some c =>
  simp only[Option.isSome_some,if_true];rw[look_map,h];rfl
theorem look_del (l:ML κ)(s t:κ):look (del l s) t=if t=s then none else look l t:=by
 unfold del
 induction l with
 | nil=>simp[look_nil]
 | cons p l ih =>
  rw[List.filter_cons,look_cons];by_cases h:p.1=s
  ·subst h;simp only[decide_true,Bool.not_true,Bool.false_eq_true,if_false];rw[ih];by_cases h2:t=p.1
   ·simp[h2]
   ·simp[h2,Ne.symm h2]
  ·rw[if_pos (by simp[h]),look_cons,ih];by_cases h2:t=s
   ·subst h2;simp[h]
   ·simp[h2]
theorem upd_names (l:ML κ)(s:κ)(b:Value):(upd l s b).map (·.1)=if (look l s).isSome then l.map (·.1) else l.map (·.1)++[s]:=by
 unfold upd;split
 ·rw[List.map_map];apply List.map_congr_left;intro p _;simp only[Function.comp];split
  ·rename_i h;exact h.symm
  ·rfl
 ·simp
theorem upd_len (l:ML κ)(s:κ)(b:Value):(upd l s b).length=if (look l s).isSome then l.length else l.length+1:=by
 have h:=congrArg List.length (upd_names l s b);rw[List.length_map] at h;rw[h];split<;>simp
theorem mem_upd {l:ML κ}{s:κ}{b:Value}{p:κ×Value}(h:p∈upd l s b):p=(s,b)\/(p∈l/\p.1≠s):=by
 unfold upd at h;split at h
 ·obtain⟨q,hq,rfl⟩:=List.mem_map.1 h;by_cases e:q.1=s
  ·rw[if_pos e];exact .inl rfl
  ·rw[if_neg e];exact .inr ⟨hq,e⟩
 ·rename_i hn;rcases List.mem_append.1 h with h1|h1
  ·refine .inr ⟨h1,fun e=>hn ?_⟩;have:=mt (look_none l s).1 (fun h=>h (List.mem_map.2 ⟨p,h1,e⟩));cases hl:look l s with
   | none=>exact absurd hl this
   | some _=>rfl
  ·simp at h1;exact .inl h1
theorem mem_del {l:ML κ}{s:κ}{p:κ×Value}:p∈del l s↔p∈l/\p.1≠s:=by
 unfold del;rw[List.mem_filter];simp
theorem del_names (l:ML κ)(s:κ):(del l s).map (·.1)=(l.map (·.1)).filter fun t => !decide (t=s):=by
 unfold del;induction l with
 | nil=>rfl
 | cons p l ih=>simp only[List.filter_cons,List.map_cons];split<;>simp[ih]
theorem del_len (l:ML κ)(s:κ)(hn:(l.map (·.1)).Nodup):(del l s).length+(if (look l s).isSome then 1 else 0)=l.length:=by
 induction l with
 | nil=>rfl
 | cons p l ih =>
  rw[List.map_cons,List.nodup_cons] at hn;have:=ih hn.2;unfold del at this ⊢;rw[List.filter_cons,look_cons];by_cases h:p.1=s
  ·subst h;have h1:=(look_none l p.1).2 hn.1;rw[h1] at this;simp at this ⊢;exact this
  ·rw[if_pos (by simp[h]),if_neg h];simp only[List.length_cons];omega
theorem look_mem {l:ML κ}{s:κ}{v:Value}(h:look l s=some v):(s,v)∈l:=by
 induction l with
 | nil=>cases h
 | cons p l ih =>
  rw[look_cons] at h;by_cases e:p.1=s
  ·rw[if_pos e] at h;cases h;rw[<-e];exact List.mem_cons_self
  ·rw[if_neg e] at h;exact List.mem_cons_of_mem _ (ih h)
theorem look_of_mem {l:ML κ}(hn:(l.map (·.1)).Nodup){s:κ}{v:Value}(h:(s,v)∈l):look l s=some v:=by
 induction l with
 | nil=>cases h
 | cons p l ih =>
  rw[List.map_cons,List.nodup_cons] at hn;rw[look_cons];rcases List.mem_cons.1 h with e|e
  ·rw[<-e];simp
  ·rw[if_neg (fun e2=>hn.1 (List.mem_map.2 ⟨_,e,e2.symm⟩))];exact ih hn.2 e
theorem look_perm {l l':ML κ}(hp:l.Perm l')(hn:(l.map (·.1)).Nodup)(s:κ):look l s=look l' s:=by
 have hn':(l'.map (·.1)).Nodup:=(hp.map (·.1)).nodup_iff.1 hn;cases h1:look l s with
 | some v=>exact(look_of_mem hn' (hp.mem_iff.1 (look_mem h1))).symm
 | none =>
  cases h2:look l' s with
  | none=>rfl
  | some v=>rw[look_of_mem hn (hp.mem_iff.2 (look_mem h2))] at h1;cases h1
variable {P:Program}{t k e:TypeId}{w w':World}{m:Nat}{l:ML κ}{E:Emb κ}{z:Value}
def GM (E:Emb κ)(P:Program)(k:TypeId)(w:World)(m:Nat)(l:ML κ):Prop :=
 ∃ D,w.ownsMap P k vR m l.length D/\Maps.size D=l.length/\(l.map (·.1)).Nodup/\(∀ p∈l,E.ok p.1/\∃ d,enc p.2=some d)/\
  (∀ s:κ,Maps.has D (E.lit s)=(look l s).isSome)/\(∀ (s:κ) (v:Value),look l s=some v->∀ zd,some (D.atKey (E.lit s) zd)=enc v)
theorem own_tight {n:Nat}{D:DataW Unit}{R:Value->Option (DataW Unit×List MemPlace)}(h:w.ownsMap P k R m n D):w.ownsMap P k R m (Maps.size D) D:=by
 obtain⟨es,clock,h1,h2,h3,h4⟩:=h;refine⟨es,clock,h1,h2,?_,h4⟩;subst h4;simp[Maps.size,length_sorted]
theorem GM.made (E:Emb κ)(P:Program)(k:TypeId)(w:World):GM E P k (w.alloc (.map #[] 0)) w.heap.size [] :=
 ⟨_,World.ownsMap_made w P k vR,rfl,by simp,by simp,fun s=>rfl,fun s v h=>by cases h⟩
theorem GM.lt (h:GM E P k w m l):m<w.heap.size:=by obtain⟨D,h1,_⟩:=h;exact h1.lt
theorem GM.nodup (h:GM E P k w m l):(l.map (·.1)).Nodup:=by obtain⟨D,_,_,h1,_⟩:=h;exact h1
theorem GM.oks (h:GM E P k w m l):∀ p∈l,E.ok p.1:=by obtain⟨D,_,_,_,h1,_⟩:=h;exact fun p hp=>(h1 p hp).1
theorem GM.isMap (h:GM E P k w m l):∃ es c,w.heap[m]? = some (.map es c):=by obtain⟨D,⟨es,c,h1,_⟩,_⟩:=h;exact⟨es,c,h1⟩
theorem GM.block (h:GM E P k w m l)(hb:w'.heap[m]? = w.heap[m]?):GM E P k w' m l:=by
 obtain⟨D,⟨es,c,h1,hr⟩,hrest⟩:=h;exact⟨D,⟨es,c,hb.trans h1,hr⟩,hrest⟩
theorem GM.perm (h:GM E P k w m l){l':ML κ}(hp:l.Perm l'):GM E P k w m l':=by
 obtain⟨D,h1,h2,h3,h4,h5,h6⟩:=h;refine⟨D,by rw[<-hp.length_eq];exact h1,by rw[<-hp.length_eq];exact h2,(hp.map (·.1)).nodup_iff.1 h3,fun p hp'=>h4 p (hp.mem_iff.2 hp'),fun s=>?_,fun s v hv=>?_⟩
 ·rw[<-look_perm hp h3];exact h5 s
 ·rw[<-look_perm hp h3] at hv;exact h6 s v hv
theorem GM.look (h:GM E P k w m l)(K:KOK P k E)(ht:P.underlying t=some (.map k e))(hz:∀ w,(zeroValue e).run P w = .ok z w){zd:DataW Unit}(hze:enc z=some zd)(s:κ)(hs:E.ok s) :
  (Instr.lookup t (.map (some m)) (E.val s) false).run P w = .ok ((Mx.look l s).getD z) w:=by
 obtain⟨D,h1,h2,h3,h4,h5,h6⟩:=h;obtain⟨v,ps,hrun,hv⟩:=h1.lookup K.keyed ht (hz w) (vR_of hze) (K.key s hs);rw[hrun];have hv:=vR_inv hv;cases hl:Mx.look l s with
 | none =>
  have:=h5 s;rw[hl] at this;rw[atKey_of_not_has this] at hv;rw[enc_inj hv hze];rfl
 | some u =>
  have:=h6 s u hl zd;rw[enc_inj hv this.symm];rfl
theorem GM.lookOk (h:GM E P k w m l)(K:KOK P k E)(ht:P.underlying t=some (.map k e))(hz:∀ w,(zeroValue e).run P w = .ok z w){zd:DataW Unit}(hze:enc z=some zd)(s:κ)(hs:E.ok s) :
  (Instr.lookup t (.map (some m)) (E.val s) true).run P w = .ok (.tuple #[(Mx.look l s).getD z,.bool (Mx.look l s).isSome]) w:=by
 obtain⟨D,h1,h2,h3,h4,h5,h6⟩:=h;obtain⟨v,ps,hrun,hv⟩:=h1.look_ok K.keyed ht (hz w) (vR_of hze) (K.key s hs);rw[hrun,h5];have hv:=vR_inv hv;cases hl:Mx.look l s with
 | none =>
  have:=h5 s;rw[hl] at this;rw[atKey_of_not_has this] at hv;rw[enc_inj hv hze];rfl
 | some u =>
  have:=h6 s u hl zd;rw[enc_inj hv this.symm];rfl
theorem GM.len (h:GM E P k w m l)(ht:P.underlying t=some (.map k e))(ty:TypeId):(Builtin.len_ #[t] ty #[.map (some m)]).run P w = .ok (.int .i64 l.length) w:=by
 obtain⟨D,h1,h2,_⟩:=h;have:=h1.len ht ty;rwa[h2] at this
theorem GM.upd (h:GM E P k w m l)(K:KOK P k E)(ht:P.underlying t=some (.map k e))(s:κ)(hs:E.ok s)(b:Value){bd:DataW Unit}(hbd:enc b=some bd)(hl:l.length<maxLen) :
  ∃ w',(Instr.mapUpdate t (.map (some m)) (E.val s) b).run P w = .ok () w'/\GM E P k w' m (Mx.upd l s b)/\w.grownBy w' (some m)/\w'.heap.size=w.heap.size/\(∀ a,w'.frozen? a=w.frozen? a):=by
 obtain⟨D,h1,h2,h3,h4,h5,h6⟩:=h;obtain⟨w',hrun,h7,h8⟩:=h1.store K.keyed ht hl (K.key s hs) (vR_of hbd);have hg:w.grownBy w' (some m):=h8.grown;have hsz:Maps.size (D.put (E.lit s) bd)=(Mx.upd l s b).length:=by
  rw[size_put (h1.tidy K.keyed),h5,h2,upd_len]
 have h9:=own_tight h7;rw[hsz] at h9;refine⟨w',hrun,⟨_,h9,hsz,?_,?_,fun t=>?_,fun t v hv=>?_⟩,hg,?_,fun a=>h8.frozen a⟩
 ·rw[upd_names];cases hlk:Mx.look l s with
  | none =>
   simp only[Option.isSome_none,Bool.false_eq_true,if_false];rw[List.nodup_append];exact⟨h3,by simp,fun a ha b hb=>by simp at hb;subst hb;intro e;subst e;exact(look_none l a).1 hlk ha⟩
  | some c=>simpa using h3
 ·intro p hp;rcases mem_upd hp with rfl|⟨hp1,_⟩
  ·exact⟨hs,_,hbd⟩
  ·exact h4 p hp1
 ·rw[look_upd];by_cases e:t=s
  ·subst e;rw[has_put_same h1.isMap (K.isLit t)];simp
  ·rw[has_put_other (fun e2=>e (K.inj _ _ e2)),h5,if_neg e]
 ·intro zd;rw[look_upd] at hv;by_cases e:t=s
  ·subst e;rw[atKey_put_same h1.isMap (K.isLit t)];rw[if_pos rfl] at hv;cases hv;exact hbd.symm
  ·rw[atKey_put_other (fun e2=>e (K.inj _ _ e2))];rw[if_neg e] at hv;exact h6 t v hv zd
 ·obtain⟨es,c,es',c',_,rfl⟩:=h8;simp[setBlock]
theorem GM.del (h:GM E P k w m l)(K:KOK P k E)(ht:P.underlying t=some (.map k e))(s:κ)(hs:E.ok s)(ty:TypeId) :
  ∃ w',(Builtin.delete_ #[t,k] ty #[.map (some m),E.val s]).run P w = .ok (.tuple #[]) w'/\GM E P k w' m (Mx.del l s)/\w.grownBy w' (some m)/\w'.heap.size=w.heap.size/\(∀ a,w'.frozen? a=w.frozen? a):=by
 obtain⟨D,h1,h2,h3,h4,h5,h6⟩:=h;obtain⟨w',hrun,h7,h8⟩:=h1.drop K.keyed ht (K.key s hs) ty;have hsz:Maps.size (D.del (E.lit s))=(Mx.del l s).length:=by
  have a1:=size_del (k:=E.lit s) (h1.tidy K.keyed);have a2:=del_len l s h3;rw[h5,h2] at a1;omega
 have h9:=own_tight h7;rw[hsz] at h9;refine⟨w',hrun,⟨_,h9,hsz,?_,?_,fun t=>?_,fun t v hv=>?_⟩,h8.grown,?_,fun a=>h8.frozen a⟩
 ·rw[del_names];exact h3.filter _
 ·intro p hp;exact h4 p (mem_del.1 hp).1
 ·rw[look_del];by_cases e:t=s
  ·subst e;rw[has_del_same];simp
  ·rw[has_del_other (fun e2=>e (K.inj _ _ e2)),h5,if_neg e]
 ·intro zd;rw[look_del] at hv;by_cases e:t=s
  ·rw[if_pos e] at hv;cases hv
  ·rw[if_neg e] at hv;rw[atKey_del_other (fun e2=>e (K.inj _ _ e2))];exact h6 t v hv zd
 ·obtain⟨es,c,es',c',_,rfl⟩:=h8;simp[setBlock]
def RG (E:Emb κ)(P:Program)(k:TypeId)(w:World)(m r:Nat)(l:ML κ)(left:κ->Bool)(cnt:Nat):Prop :=
 ∃ (D:DataW Unit) (lf:Lit->Bool),w.ranges P k vR m r l.length D lf cnt/\Maps.size D=l.length/\(l.map (·.1)).Nodup/\(∀ p∈l,E.ok p.1/\∃ d,enc p.2=some d)/\
  (∀ s:κ,Maps.has D (E.lit s)=(look l s).isSome)/\(∀ (s:κ) (v:Value),look l s=some v->∀ zd,some (D.atKey (E.lit s) zd)=enc v)/\(∀ s:κ,lf (E.lit s)=left s)
theorem RG.gm {r cnt:Nat}{left:κ->Bool}(h:RG E P k w m r l left cnt):GM E P k w m l:=by
 obtain⟨D,lf,h1,h2,h3,h4,h5,h6,_⟩:=h;exact⟨D,h1.owns,h2,h3,h4,h5,h6⟩
theorem RG.left_eq {r cnt:Nat}{left:κ->Bool}(h:RG E P k w m r l left cnt):w.rangeLeft m r=cnt:=by obtain⟨D,lf,h1,_⟩:=h;exact h1.left_eq
theorem RG.lt {r cnt:Nat}{left:κ->Bool}(h:RG E P k w m r l left cnt):r<w.heap.size:=by obtain⟨D,lf,h1,_⟩:=h;exact h1.lt
theorem RG.iter {r cnt:Nat}{left:κ->Bool}(h:RG E P k w m r l left cnt):∃ a b c,w.heap[r]? = some (.mapIter (some m) a b c):=by
 obtain⟨D,lf,⟨_,_,a,b,c,_,_,_,_,h,_⟩,_⟩:=h;exact⟨a,b,c,h⟩
theorem RG.blocks {r cnt:Nat}{left:κ->Bool}(h:RG E P k w m r l left cnt)(h1:w'.heap[m]? = w.heap[m]?)(h2:w'.heap[r]? = w.heap[r]?):RG E P k w' m r l left cnt:=by
 obtain⟨D,lf,⟨es,clock,since,seen,c0,g1,g2,g3,g4,g5,g6⟩,hrest⟩:=h;exact⟨D,lf,⟨es,clock,since,seen,c0,h1.trans g1,g2,g3,g4,h2.trans g5,g6⟩,hrest⟩
end
section
variable {κ:Type}[DecidableEq κ]{P:Program}(w:World){ops:Array Oper}{rest:List Oper}{o:Oper}{a:Act}{Q:Exit->Act->World->Prop}{t k e:TypeId}{m:Nat}{l:ML κ}{E:Emb κ}
theorem range_gm (hg:o.guard=none)(x:Operand)(hop:o.op=Op.range t x)(K:KOK P k E)(ht:P.underlying t=some (.map k e))(hm:a.eval x = .map (some m))(h:GM E P k w m l)
  (hK:∀ w',RG E P k w' m w.heap.size l (fun s=>(look l s).isSome) l.length->w.grownBy w' none->w'.heap.size=w.heap.size+1->wpList P ops Q rest (a.put o.dst (.pointer (some ⟨w.heap.size,0,none⟩))) w') :
  wpList P ops Q (o :: rest) a w:=by
 obtain⟨D,h1,h2,h3,h4,h5,h6⟩:=h;refine wpList_range_own w hg x t hop k e K.keyed ht vR m _ D hm h1 ?_;intro w' g1 g2 g3;rw[h2] at g1;exact hK w' ⟨D,_,g1,h2,h3,h4,h5,h6,fun s=>h5 s⟩ g2 g3
theorem next_gm (hg:o.guard=none)(it:Operand)(hop:o.op=Op.next it false)(K:KOK P k E)(r cnt:Nat)(left:κ->Bool)(hit:a.eval it = .pointer (some ⟨r,0,none⟩))(h:RG E P k w m r l left cnt)
  (hDone:(∀ s,left s=false)->wpList P ops Q rest (a.put o.dst (.tuple #[.bool false])) w)
  (hMore:∀ (s:κ) (b:Value) (w':World) (cnt':Nat),look l s=some b->left s=true->RG E P k w' m r l (fun t=>left t&&!decide (t=s)) cnt'->cnt'<cnt->w.grownBy w' (some r)->w'.heap.size=w.heap.size->
   (Instr.entry (.pointer (some ⟨r,0,none⟩))).run P w' = .ok (.tuple #[E.val s,b]) w'->wpList P ops Q rest (a.put o.dst (.tuple #[.bool true,E.val s,b])) w') :
  wpList P ops Q (o :: rest) a w:=by
 obtain⟨D,lf,h1,h2,h3,h4,h5,h6,h7⟩:=h;refine wpList_next_ranges (α:=Value) (β:=Value) w hg it hop k K.keyed vR id id (fun key _ _=>⟨key,rfl⟩) (fun v _ _=>⟨v,rfl⟩) m r _ D lf cnt hit h1 ?_ ?_
 ·intro _ hl;exact hDone fun s=>by rw[<-h7];exact hl _
 ·intro v o' kl y w' cnt' hkey hl hy hat hrg hlt hgr hsz hen;obtain⟨s,rfl,rfl,hok⟩:=K.inv _ _ hkey;have hy:=vR_inv hy;have hsome:(look l s).isSome=true:=by
   rw[<-h5 s];have hz:∀ z,D.atKey (E.lit s) z=y.1:=hat;exact has_true_of_atKey hz
  obtain⟨b,hb⟩:=Option.isSome_iff_exists.1 hsome;have h8:=h6 s b hb y.1;rw[hat] at h8;obtain rfl:o'=b:=enc_inj hy h8.symm;refine hMore s o' w' cnt' hb (by rw[<-h7];exact hl) ⟨D,_,hrg,h2,h3,h4,h5,h6,fun t=>?_⟩ hlt hgr hsz hen;show(lf (E.lit t)&&!(E.lit t).sameKey (E.lit s))=_;rw[h7];by_cases e:t=s
  ·subst e;rw[WideAt.sameKey_self (K.isLit t)];simp
  ·rw[sameKey_ne (fun e2=>e (K.inj _ _ e2))];simp[e]
end
end Go.Mx
namespace Go.Md
abbrev Bs:=List UInt8
def zer (n:Nat):Bs:=List.replicate n 0
abbrev Sp:=Int×Int
def mayS (s:Sp):Bool:=decide (0<=s.1)&&decide (s.1<s.2)&&decide (s.2<=1073741824)
def rightS:Int->List Sp->Bool
 | _,[]=>true
 | last,s :: r=>mayS s&&!decide (s.1<=last)&&rightS s.2 r
def allS (l:List Sp):List Sp:=if rightS (-1) l then l else[]
structure AS1 where
 out:List Sp
 s:Sp
 laid:Bool
def addR (a:AS1)(x:Sp):AS1 :=
 if a.laid&&(!mayS a.s||decide (a.s.2<x.1)) then{a with out:=a.out++[x]}
 else if x.2<a.s.1 then{a with out:=a.out++[x]}
 else if a.s.2<x.1 then{a with out:=a.out++[a.s,x],laid:=true}
 else{a with s:=(min a.s.1 x.1,max a.s.2 x.2)}
def addS (l:List Sp)(s:Sp):List Sp :=
 let a:=(allS l).foldl addR ⟨[],s,!mayS s⟩
 if a.laid then a.out else a.out++[a.s]
def subR (s:Sp)(out:List Sp)(x:Sp):List Sp :=
 if !mayS s||decide (x.2<=s.1)||decide (s.2<=x.1) then out++[x]
 else(if x.1<s.1 then out++[(x.1,s.1)] else out)++(if s.2<x.2 then[(s.2,x.2)] else[])
def subS (l:List Sp)(s:Sp):List Sp:=(allS l).foldl (subR s) []
def hasS (l:List Sp)(n:Int):Bool:=(allS l).any fun x=>decide (x.1<=n)&&decide (n<x.2)
structure BM where
 name:Bs
 on:Bool
 l:List Sp
def touchB (s:Sp)(b:BM):BM:=if b.on then{b with l:=addS b.l s} else b
def touch (l:List BM)(s:Sp):List BM:=l.map (touchB s)
def sizeB (was now:Int)(b:BM):BM :=
 let b':={b with l:=subS b.l (now,1073741824)}
 if b.on&&decide (was<now) then{b' with l:=addS b'.l (was,now)} else b'
def sizes (l:List BM)(was now:Int):List BM:=if was<0\/1073741824<was\/now<0\/1073741824<now then l else l.map (sizeB was now)
structure SH where
 name:Bs
 size:Nat
 own:Nat->Option Bs
structure IM where
 cl:Nat
 size:Nat
 back:Bs
 own:Nat->Option Bs
 shots:List SH
 maps:List BM
abbrev IL:=List (Bs×IM)
def fnd (l:IL)(n:Bs):Option IM:=(l.find? (fun p=>decide (p.1=n))).map (·.2)
structure MM where
 all:IL
 kept:IL
 ch:Bs->Bool
def secOf (S:IL):Nat->Bs->Nat->Bs
 | 0,_,_=>zer 16
 | d+1,n,s=>match fnd S n with
  | none=>zer 16
  | some i=>if s<i.size then(match i.own (s/2^i.cl) with
   | some b=>(b.drop (s%2^i.cl*16)).take 16
   | none=>secOf S d i.back s) else zer 16
def secs (f:Nat->Bs):Nat->Nat->Bs
 | _,0=>[]
 | at_,n+1=>f at_++secs f (at_+1) n
def secIn (S:IL)(d:Nat)(i:IM)(size:Nat)(own:Nat->Option Bs)(s:Nat):Bs :=
 if s<size then(match own (s/2^i.cl) with
  | some b=>(b.drop (s%2^i.cl*16)).take 16
  | none=>secOf S d i.back s) else zer 16
def pieces (wide:Nat):Nat->Nat->Nat->List (Nat×Nat)
 | 0,_,_=>[]
 | f+1,at_,stop=>if at_<stop then
  let k:=min (wide-at_%wide) (stop-at_)
  (at_,k) :: pieces wide f (at_+k) stop else[]
end Go.Md
namespace Go.Proofs.YtgkabcaodnofnaaGreat
open Go.RowKit Go.Mx Go.Md Go.Shelf
attribute [local go_sem] Oper.semAt_some
abbrev spV (s:Sp):Value:=.agg #[.int .i64 s.1,.int .i64 s.2]
abbrev spC (s:Sp):List Value:=[.int .i64 s.1,.int .i64 s.2]
theorem size111 (w:World):(sizeOf 111).run prog w = .ok 2 w:=by kernel_rfl
theorem info111:(prog.info? 111).map (fun i=>(i.zero,i.size,i.bytes))=some (some (.agg #[.int .i64 0,.int .i64 0]),2,16):=by kernel_rfl
theorem may_any (s:Sp)(w:World):Calls prog 154 #[spV s] w fun e w'=>e = .returned (.bool (mayS s))/\Below w.heap.size w w':=by
 obtain⟨a,b⟩:=s;have hb:Below w.heap.size w (w.alloc (.cells #[.int .i64 a,.int .i64 b] 111)):=brf.alloc nlr _;have HB:=hid hb;clear hb;by_cases h1:0<=a
 ·have t1:decide (0<=a)=true:=by simpa using h1
  by_cases h2:a<b
  ·have t2:decide (a<b)=true:=by simpa using h2
   have HR:Hid (mayS (a,b)=decide (b<=1073741824)):=hid (by unfold mayS;simp[h1,h2]);go_enter func154,ntmps154
   go_wp2
   go_ret
   exact⟨by rw[HR.out];rfl,HB.out⟩
  ·have t2:decide (a<b)=false:=by simpa using h2
   have HR:Hid (mayS (a,b)=false):=hid (by unfold mayS;simp[h1,h2]);go_enter func154,ntmps154
   go_wp2
   go_ret
   exact⟨by rw[HR.out];rfl,HB.out⟩
 ·have t1:decide (0<=a)=false:=by simpa using h1
  have HR:Hid (mayS (a,b)=false):=hid (by unfold mayS;simp[h1]);go_enter func154,ntmps154
  go_wp2
  go_ret
  exact⟨by rw[HR.out];rfl,HB.out⟩
abbrev SpS (w:World)(B:Nat)(v:Value)(l:List Sp):Prop:=SlG w B 2 v (l.map spC)
theorem SpS.at {w:World}{B:Nat}{v:Value}{l:List Sp}(h:SpS w B v l){i:Nat}{s:Sp}(hi:l[i]? = some s):∃ b o,b<B/\(∀ w' (k:IntKind),(Instr.indexAt 32 v (.int k (i:Int))).run prog w' = .ok (.pointer (some ⟨b,o,none⟩)) w')/\
  w.cell? ⟨b,o,none⟩=some (.int .i64 s.1)/\w.cell? ⟨b,o+1,none⟩=some (.int .i64 s.2):=by
 have hl:i<(l.map spC).length:=by rw[List.length_map];exact(List.getElem?_eq_some_iff.1 hi).1
 obtain⟨b,o,hb,h1,h2⟩:=h.addr (P:=prog) underlying32 size111 i hl;have hg:(l.map spC).getD i []=spC s:=by rw[List.getD_eq_getElem?_getD,List.getElem?_map,hi];rfl
 rw[hg] at h2;exact⟨b,o,hb,h1,h2 0 _ rfl,h2 1 _ rfl⟩
theorem SpS.len {w:World}{B:Nat}{v:Value}{l:List Sp}(h:SpS w B v l)(w':World):(Builtin.len_ #[32] 3 #[v]).run prog w' = .ok (.int .i64 l.length) w':=by
 have:=SlG.len (P:=prog) (ty:=3) h underlying32 w';rwa[List.length_map] at this
theorem slG_sh {w:World}{B s:Nat}{v:Value}{rows:List (List Value)}(h:SlG w B s v rows):∃ oa n c,v = .slice oa n c:=by obtain⟨oa,c,e,_⟩:=h;exact⟨_,_,_,e⟩
theorem rightS_drop (l:List Sp)(last:Int)(i:Nat)(s:Sp)(hi:l[i]? = some s):rightS last (l.drop i)=(mayS s&&!decide (s.1<=last)&&rightS s.2 (l.drop (i+1))):=by
 rw[List.drop_eq_getElem_cons (List.getElem?_eq_some_iff.1 hi).1];rw[(List.getElem?_eq_some_iff.1 hi).2];rfl
theorem right_any (l:List Sp)(v:Value)(w:World)(hl:l.length<=10000000000)(h:SpS w w.heap.size v l):Calls prog 124 #[v] w fun e w'=>e = .returned (.bool (rightS (-1) l))/\Below w.heap.size w w':=by
 have hlen:=SpS.len h;obtain⟨oa,n,c,rfl⟩:=slG_sh h;have HS:=hid h;clear h;go_enter func124,ntmps124
 go_wp2_with fail
 go_loopw [3,8] (fun s3 s8 wr=>∃ (i:Nat) (last:Int),s3 = .int .i64 last/\s8 = .int .i64 i/\i<=l.length/\rightS (-1) l=rightS last (l.drop i)/\Below w.heap.size w wr) (fun _ s8 _=>l.length-(intOf s8).toNat)
 case atStart=>exact⟨0,-1,rfl,rfl,by omega,rfl,brf⟩
 case round =>
  obtain⟨i,last,rfl,rfl,hi,hr,hbl⟩:=hrel;by_cases hlt:i<l.length
  ·obtain⟨s,hs⟩:∃ s,l[i]? = some s:=⟨_,List.getElem?_eq_getElem hlt⟩
   obtain⟨b,o,hb,hia,g0,g1⟩:=SpS.at (HS.out.below hbl nlr) hs;have HR:=jd2 (hr.trans (rightS_drop l last i s hs)) hbl;obtain⟨x,y⟩:=s;clear hr hs;have hbA:Below w.heap.size w (wr.alloc (.cells #[.int .i64 x,.int .i64 y] 111)):=hbl.alloc hbl.size _;have hqA:=alloc_new wr (.cells #[.int .i64 x,.int .i64 y] 111);have HA:=jd2 hbA hqA;clear hbA hqA hbl
   go_wp2_with fail
   refine(may_any (x,y) _).mono ?_;rintro e w2 ⟨rfl,hb2⟩;have hq2:=(hb2.block _ (blk_lt HA.out.2)).trans HA.out.2;have c0:w2.cell? ⟨wr.heap.size,0,none⟩=some (.int .i64 x):=by simp[World.cell?,hq2]
   have c1:w2.cell? ⟨wr.heap.size,1,none⟩=some (.int .i64 y):=by simp[World.cell?,hq2]
   have HB:=hid (HA.out.1.trans (hb2.mono HA.out.1.size));clear hb2 hq2;cases hm:mayS (x,y)
   ·have HM:=hid hm;clear hm
    go_wp2_with fail
    go_ret
    refine⟨?_,HB.out⟩;rw[HR.out.1,HM.out];rfl
   ·have HM:=hid hm;clear hm;by_cases hle:x<=last
    ·have t1:decide (x<=last)=true:=by simpa using hle
     go_wp2_with fail
     go_ret
     refine⟨?_,HB.out⟩;rw[HR.out.1,HM.out];simp[hle]
    ·have t1:decide (x<=last)=false:=by simpa using hle
     go_wp2_with fail
     refine⟨⟨i+1,y,rfl,by go_num,by omega,?_,HB.out⟩,by simp[intOf];omega⟩;rw[HR.out.1,HM.out];simp[hle]
  ·obtain rfl:i=l.length:=by omega
   have HR:=jd2 hr hbl;clear hr hbl
   go_wp2_with fail
   go_ret
   refine⟨?_,HR.out.2⟩;rw[HR.out.1,List.drop_length];rfl
theorem all_any (oa:Option Addr)(n c:Nat)(w:World):Calls prog 131 #[.slice oa n c] w fun e w'=>e = .returned (.func (.func 158) #[] #[.pointer (some ⟨w.heap.size,0,none⟩)])/\w.alloc (.cells #[.slice oa n c] 32)=w':=by
 go_enter func131,ntmps131
 go_wp2
 go_ret
 exact⟨rfl,rfl⟩
attribute [local go_sem] Oper.semAt_some
def KpA (n₀:Nat)(bs:List Nat)(A B:World):Prop:=Below n₀ A B/\∀ b∈bs,B.heap[b]? = A.heap[b]?
theorem KpA.refl (n₀:Nat)(bs:List Nat)(A:World):KpA n₀ bs A A:=⟨brf,fun _ _=>rfl⟩
theorem KpA.trans {n₀:Nat}{bs:List Nat}{A B C:World}(h:KpA n₀ bs A B)(k:KpA n₀ bs B C):KpA n₀ bs A C:=⟨h.1.trans k.1,fun b hb=>(k.2 b hb).trans (h.2 b hb)⟩
theorem KpA.of_below {n₀ n₁:Nat}{bs:List Nat}{A B:World}(h:Below n₁ A B)(hn:n₀<=n₁)(hb:∀ b∈bs,b<n₁):KpA n₀ bs A B:=⟨h.mono hn,fun b hm=>h.block b (hb b hm)⟩
theorem grown_of_below {w w':World}(h:Below w.heap.size w w'):w.grownBy w' none:=⟨h.os,h.tape,h.output,h.size,fun i hi _=>h.block i hi⟩
theorem KpA.putObj {n₀:Nat}{bs:List Nat}{w:World}(hn:n₀<=w.heap.size)(hb:∀ b∈bs,b<w.heap.size)(W:World)(l:Nat)(o o':Obj)(hl:w.heap.size<=l)(h:W.heap[l]? = some o)(h1:o.isCells=false)(h2:o.isWalk=false):KpA n₀ bs W (W.putObj l o') :=
 ⟨belowK_b hn W l o o' hl h h1 h2,fun b hm=>World.putObj_heap_other (by have:=hb b hm;omega)⟩
theorem all_in (n:Nat)(hn:1<=n)(l Bt n₀:Nat)(tv:Value)(t:List Sp)(J Jx:List Sp->World->Prop)(hl:t.length<=10000000000)
  (hY:∀ pre x W,J pre W->pre.length<t.length->YieldAt Fence.wide (n-1) prog l #[spV x] W fun e W' =>
   (e = .returned (.bool true)/\J (pre++[x]) W'/\KpA n₀ [Bt] W W')\/(e = .returned (.bool false)/\Jx (pre++[x]) W'))
  (W:World) (hJ:AbidesFrom W.heap.size J) (hBt:W.cell? ⟨Bt,0,none⟩=some tv) (hbt:Bt<W.heap.size) (hn₀:n₀<=W.heap.size) (ht:SpS W n₀ tv t) (h0:J [] W) :
  CallsIn Fence.wide n prog 158 #[.func (.yield l) #[] #[],.pointer (some ⟨Bt,0,none⟩)] W fun e W'=>(∃ v,e = .returned v)/\
   ((∃ ys,ys=allS t/\J ys W')\/(∃ pre,pre <+: allS t/\Jx pre W')):=by
 have hlen:=fun w'=>SpS.len ht w';have HG:=hid (right_any t tv W hl (ht.mono hn₀));obtain⟨oa,tn,tc,rfl⟩:=slG_sh ht;have HT:=hid ht;have H0:=hid h0;clear ht h0;refine callsIn_of_wp func158 rfl trivial ?_ rfl;simp only[ntmps158,List.size_toArray,List.length_cons,List.length_nil,Nat.reduceAdd,Nat.reduceSub,Array.replicate_succ,Array.replicate_zero,List.push_toArray,List.append_toArray,List.nil_append,List.cons_append]
 gi_wp2_with fail
 refine⟨trivial,?_⟩
 gi_at_call 124
 refine(callsIn_wide.2 HG.out).mono ?_;rintro e w1 ⟨rfl,hb1⟩;have hBt1:=(hb1.cell (p:=⟨Bt,0,none⟩) hbt).trans hBt;have HB1:=hid hb1;have hz1:=hb1.size;have hJ1:J [] w1:=hJ _ W w1 none H0.out (grown_of_below hb1) (fun r e=>by cases e);clear hb1 HG;cases hr:rightS (-1) t
 ·have HR:=hid hr;clear hr
  gi_wp2
  refine bodyPost_ret (results_none rfl _ _ _) rfl ?_;exact⟨⟨_,rfl⟩,.inl ⟨_,rfl,by unfold allS;rw[HR.out];exact hJ1⟩⟩
 ·have HR:Hid (allS t=t):=hid (by unfold allS;rw[hr];rfl);clear hr
  gi_wp2
  gi_loopw [10] (fun i wr=>∃ k:Nat,k<=t.length/\i = .int .i64 k/\J (t.take k) wr/\KpA n₀ [Bt] w1 wr/\w1.heap.size<=wr.heap.size)
   (fun i _=>t.length-(intOf i).toNat)
  case atStart=>exact⟨0,Nat.zero_le _,rfl,hJ1,KpA.refl _ _ _,nlr⟩
  case round =>
   obtain⟨k,hk,rfl,hJs,hbel,hsz⟩:=hrel;by_cases hlt:k<t.length
   ·obtain⟨s,hs⟩:∃ s,t[k]? = some s:=⟨_,List.getElem?_eq_getElem hlt⟩
    obtain⟨b,o,hb,hia,g0,g1⟩:=SpS.at ((HT.out.below HB1.out hn₀).below hbel.1 nlr) hs;have htk:Hid (t.take (k+1)=t.take k++[s]):=hid (by rw[List.take_add_one,hs];rfl);have hplen:(t.take k).length<t.length:=by rw[List.length_take];omega
    obtain⟨x,y⟩:=s;have hb41:Below wr.heap.size wr (wr.alloc (.cells #[.int .i64 x,.int .i64 y] 111)):=brf.alloc nlr _;have hJ41:J (t.take k) (wr.alloc (.cells #[.int .i64 x,.int .i64 y] 111)):=hJ _ wr _ none hJs (grown_of_below hb41) (fun r e=>by cases e);obtain⟨fn,tmps,assign,body,hy,hR2⟩:=hY _ (x,y) _ hJ41 hplen;simp only[spV] at hy;have HH:=jd2 hb41 hs;clear hb41 hs hJ41 hJs
    gi_wp2
    refine hR2.mono ?_;rintro e W3 (⟨rfl,hJ3,hk3⟩|⟨rfl,hJx3⟩)
    ·have hsz3:=hk3.1.size;rw[World.size_alloc] at hsz3
     gi_wp2
     go_roundw
     case rel=>exact⟨k+1,by omega,by go_num,by rw[htk.out];exact hJ3,(hbel.trans (KpA.of_below HH.out.1 (by omega) (by simp;omega))).trans hk3,by omega⟩
     case measure=>simp[intOf];omega
    ·gi_wp2
     refine bodyPost_ret (results_none rfl _ _ _) rfl ?_;exact⟨⟨_,rfl⟩,.inr ⟨_,by rw[HR.out,<-htk.out];exact List.take_prefix _ _,hJx3⟩⟩
   ·obtain rfl:k=t.length:=by omega
    gi_wp2
    go_end0
    exact⟨⟨_,rfl⟩,.inl ⟨_,rfl,by rw[HR.out];rw[List.take_length] at hJs;exact hJs⟩⟩
theorem all_stops (n:Nat)(hn:1<=n)(Bt n₀:Nat)(tv:Value)(t:List Sp)(hl:t.length<=10000000000)(w:World)(hBt:w.cell? ⟨Bt,0,none⟩=some tv)
  (hbt:Bt<w.heap.size) (hn₀:n₀<=w.heap.size) (ht:SpS w n₀ tv t) :
  SeqStopsK Fence.wide n prog 158 #[.pointer (some ⟨Bt,0,none⟩)] (fun x:Sp => #[spV x]) (KpA n₀ [Bt]) (fun ys=>ys=allS t) (fun pre=>pre <+: allS t) t.length w :=
 fun l J Jx W hW hJ _ hY h0=>by
  have hz:=hW.size;exact all_in n hn l Bt n₀ tv t J Jx hl hY W hJ ((hW.cell (p:=⟨Bt,0,none⟩) hbt).trans hBt) (by omega) (by omega) (ht.below hW hn₀) h0
attribute [local go_sem] Oper.semAt_some
theorem append_gi {F:Fence}{n:Nat}{P:Program}(w:World){ops:Array Oper}{rest:List Oper}{o:Oper}{a:Act}{Q:Exit->Act->World->Prop}(hgd:o.guard=none)(s x:Operand)(t e:TypeId)(z:Value)(sz bytes:Nat)
  (ho:o.op = .call {callee:=.builtin .append,args := #[s,x],argTypes := #[t,t]})
  (ht:P.underlying t=some (.slice e)) (hi:(P.info? e).map (fun i=>(i.zero,i.size,i.bytes))=some (some z,sz,bytes)) (hz:z.cells.size=sz) (hsz:0<sz)
  (base:Nat) (v:Value) (rows:List (List Value)) (hs:a.eval s=v) (hown:OwnG w base e sz v rows) (g m c:Nat) (news:List (List Value)) (hx:a.eval x = .slice (some ⟨g,0,none⟩) m c) (hm:news.length=m)
  (hl:∀ r∈news,r.length=sz) (hcell:∀ j u,news.flatten[j]? = some u->w.cell? ⟨g,j,none⟩=some u) (hone:∀ u∈news.flatten,u.oneCell'=true)
  (hlen:(rows.length+m)*bytes<=140737488355328) (hlen2:rows.length+m<=140737488355328) (hB:base<=w.heap.size)
  (h:∀ v' w',OwnG w' base e sz v' (rows++news)->w.grownBy w' v.ownBlock->Below base w w'->wpListIn F n P ops Q rest (a.put o.dst v') w'):wpListIn F n P ops Q (o :: rest) a w:=by
 obtain⟨i0,hi0,hz0,hz1,hz2⟩:=info_parts hi;have hfl:news.flatten.length=m*sz:=by
  subst hm;clear hcell hone hlen hlen2 hx h
  induction news with
  | nil=>simp
  | cons r t ih=>rw[List.flatten_cons,List.length_append,ih (fun r hr=>hl r (List.mem_cons_of_mem _ hr)),hl r List.mem_cons_self,List.length_cons,Nat.succ_mul,Nat.add_comm]
 refine wpListIn_append_own w hgd s x t ho base e i0 _ sz bytes ht hi0 hz0 hz1 hz2 hz hsz v rows.length _ hs hown.1 ⟨g,0,none⟩ m c news.flatten hx hfl ?_ hone ?_ hlen hB ?_
 ·intro j u hj;rw[addr_add];exact hcell j u hj
 ·unfold maxLen;omega
 ·intro v' w' ho' hg' _;refine h v' w' ⟨by rw[List.length_append,List.flatten_append,hm];exact ho',?_⟩ hg' ((Below.refl base w).grown hg' hB (fun k hk=>(World.ownsRow.lt hown.1 k hk).1));intro r hr;rcases List.mem_append.1 hr with hr|hr
  ·exact hown.2 r hr
  ·exact hl r hr
abbrev Bx:=Nat×Array Value×TypeId
def IQ (base1 base2 Bt:Nat)(w:World)(out:List Sp)(bx:Value->List Bx)(W:World):Prop :=
 ∃ v,OwnG W base2 111 2 v (out.map spC)/\(∀ p∈bx v,p.1<base2/\W.heap[p.1]? = some (.cells p.2.1 p.2.2 (0,0)))/\W.heap[Bt]? = w.heap[Bt]?/\Below base1 w W/\base2<=W.heap.size
theorem cells_kept {X Y:World}{row:Option Nat}(hg:X.grownBy Y row)(hr:∀ r,row=some r->∃ o:Obj,X.heap[r]? = some o/\o.isCells=false){b:Nat}{c:Array Value}{t:TypeId}{f:Nat×Nat}(hb:X.heap[b]? = some (.cells c t f)):Y.heap[b]? = some (.cells c t f):=by
 refine(hg.block b (blk_lt hb) (fun e=>?_)).trans hb;obtain⟨o,ho,hc⟩:=hr b e.symm;rw[hb] at ho;cases ho;cases hc
theorem ownG_from {X Y:World}{row:Option Nat}(hg:X.grownBy Y row)(hr:∀ r,row=some r->∃ o:Obj,X.heap[r]? = some o/\o.isCells=false){base s:Nat}{e:TypeId}{v:Value}{rows:List (List Value)}(h:OwnG X base e s v rows):OwnG Y base e s v rows:=by
 refine⟨h.1.kept hg ?_,h.2⟩;rcases h.1.2 with⟨rfl,_⟩|⟨g,cap,cur,rfl,_,hgb,_⟩
 ·exact .inl rfl
 ·refine .inr fun e'=>?_;obtain⟨o,ho,hc⟩:=hr g (by simpa[Value.ownBlock] using e'.symm);rw[hgb] at ho;cases ho;cases hc
theorem iq_from {σ:Type}{base1 base2 Bt B:Nat}{w:World}{out:σ->List Sp}{bx:σ->Value->List Bx}{cb:Array Value}{tb:TypeId}(hBt:w.heap[Bt]? = some (.cells cb tb (0,0)))(h1:base1<=w.heap.size)(h2:base1<=B):OwnFrom B (fun(s:σ) W=>IQ base1 base2 Bt w (out s) (bx s) W):=by
 rintro s X Y row ⟨v,ho,hb,ht,hw,hs⟩ hg hr;have hr2:=fun r e=>(hr r e).2;exact⟨v,ownG_from hg hr2 ho,fun p hp=>⟨(hb p hp).1,cells_kept hg hr2 (hb p hp).2⟩,(cells_kept hg hr2 (ht.trans hBt)).trans hBt.symm,
  hw.grown hg (Nat.le_trans h1 hw.size) (fun k e=>Nat.le_trans h2 (hr k e).1),Nat.le_trans hs hg.size⟩
theorem iq_app {base1 base2 Bt t5:Nat}{w W w1:World}{out news:List Sp}{bx bx':Value->List Bx}{v v':Value}{tmp:Obj}{cb:Array Value}{tb:TypeId}(hBt:w.heap[Bt]? = some (.cells cb tb (0,0)))(h12:base1<=base2)(hB5:base1<=t5)(hBb:Bt<base2)(hB:Bt≠t5)
  (ho:OwnG W base2 111 2 v (out.map spC)) (hb:∀ p∈bx v,p.1<base2/\W.heap[p.1]? = some (.cells p.2.1 p.2.2 (0,0))) (ht:W.heap[Bt]? = w.heap[Bt]?) (hw:Below base1 w W) (hs:base2<=W.heap.size)
  (h5:(t5,#[v],(32:TypeId))∈bx v) (hv':OwnG w1 base2 111 2 v' (out.map spC++news.map spC)) (hg:(W.alloc tmp).grownBy w1 v.ownBlock) (hbb:Below base2 (W.alloc tmp) w1)
  (hbx:∀ p∈bx' v',p=(t5,#[v'],(32:TypeId))\/(p.1≠t5/\p∈bx v)) :
  w1.cell? ⟨t5,0,none⟩=some v/\w1.frozen? ⟨t5,0,none⟩=false/\KeepsOthers W (w1.setCell ⟨t5,0,none⟩ v')/\KpA base1 [Bt] W (w1.setCell ⟨t5,0,none⟩ v')/\IQ base1 base2 Bt w (out++news) bx' (w1.setCell ⟨t5,0,none⟩ v'):=by
 have hA:Below base2 W (W.alloc tmp):=brf.alloc hs _;have hW1:Below base2 W w1:=hA.trans hbb;obtain⟨h5l,h5b⟩:=hb _ h5;have h51:w1.heap[t5]? = some (.cells #[v] 32 (0,0)):=(hW1.block t5 h5l).trans h5b;have hset:∀ k,k≠t5->(w1.setCell ⟨t5,0,none⟩ v').heap[k]? = w1.heap[k]? := fun k hk=>Below.heap_setCell _ _ _ k hk;have h52:(w1.setCell ⟨t5,0,none⟩ v').heap[t5]? = some (.cells #[v'] 32 (0,0)):=Boxed.set v' h51;have hsz:(w1.setCell ⟨t5,0,none⟩ v').heap.size=w1.heap.size:=by simp
 refine⟨Boxed.cell h51,Boxed.frozen h51,?_,⟨(hW1.mono h12).setCell hB5 _,fun b hb9=>?_⟩,v',?_,fun p hp=>?_,?_,hw.trans ((hW1.mono h12).setCell hB5 _),by rw[hsz];exact Nat.le_trans hs hW1.size⟩
 ·refine((KeepsOthers.alloc W tmp).trans (KeepsOthers.of_grownBy hg fun j o ej hj=>?_)).trans (KeepsOthers.setCell _ _ _);rcases ho.1.2 with⟨rfl,_⟩|⟨g,cap,cur,rfl,_,hgb,_⟩
  ·simp[Value.ownBlock] at ej
  ·obtain rfl:g=j:=by simpa[Value.ownBlock] using ej
   have:(W.alloc tmp).heap[g]? = W.heap[g]? := Below.heap_alloc W tmp g (blk_lt hgb);rw[this,hgb] at hj;cases hj;rfl
 ·simp at hb9;subst hb9;exact(hset b hB).trans (hW1.block b hBb)
 ·rw[List.map_append];refine hv'.kept (Kept.set w1 t5 0 v' (N:=fun k=>k≠t5) (by simp)) fun k hk e=>?_;have:=hv'.ge k hk;omega
 ·rcases hbx p hp with rfl|⟨hne,hp2⟩
  ·exact⟨h5l,h52⟩
  ·exact⟨(hb p hp2).1,((hset _ hne).trans (hW1.block _ (hb p hp2).1)).trans (hb p hp2).2⟩
 ·exact((hset Bt hB).trans (hW1.block Bt hBb)).trans ht
end Go.Proofs.YtgkabcaodnofnaaGreat
