import Derived.Test.YtgkabcaodnofnaaGreatB04
import Derived.Deep.RegionLaw
import Derived.Test.YtgkabcaodnofnaaGreatB03
import Derived.Deep.RegionHeld
import Derived.Deep.Cut
set_option linter.unusedSimpArgs false
set_option linter.unusedVariables false
set_option maxRecDepth 100000
set_option maxHeartbeats 1000000
open Go.Proofs.Tryz
namespace Go.Mx
open Go.RowKit
theorem flatten_inv {α}(s:Nat)(hs:0<s):∀ (rows:List (List α)) (j:Nat) (u:α),(∀ r∈rows,r.length=s)->rows.flatten[j]? = some u->j/s<rows.length/\(rows.getD (j/s) [])[j%s]? = some u
 | [],j,u,_,h=>by simp at h
 | r :: rows,j,u,hr,h=>by
  have h1:r.length=s:=hr r (by simp);rw[List.flatten_cons] at h;by_cases hj:j<s
  ·rw[List.getElem?_append_left (by omega)] at h;rw[Nat.div_eq_of_lt hj,Nat.mod_eq_of_lt hj];exact⟨by simp,by simpa using h⟩
  ·rw[List.getElem?_append_right (by omega),h1] at h;have ih:=flatten_inv s hs rows (j-s) u (fun q hq=>hr q (by simp[hq])) h;have e1:j/s=(j-s)/s+1:=by
    have h9:j-s+s=j:=by omega
    have h8:=Nat.add_div_right (j-s) hs;rw[h9] at h8;exact h8
   have e2:j%s=(j-s)%s:=by
    have h9:j-s+s=j:=by omega
    have h8:=Nat.add_mod_right (j-s) s;rw[h9] at h8;exact h8
   rw[e1,e2];exact⟨by simpa using ih.1,by simpa using ih.2⟩
theorem step_append_sg {P:Program}(w:World){ops:Array Oper}{o:Oper}{a:Act}{K:Act->World->Prop}{Q:Exit->Act->World->Prop}{E:Prop}(hgd:o.guard=none)(s x:Operand)(t e:TypeId)(z:Value)(sz bytes:Nat)
  (ho:o.op = .call {callee:=.builtin .append,args := #[s,x],argTypes := #[t,t]})
  (ht:P.underlying t=some (.slice e)) (hi:(P.info? e).map (fun i=>(i.zero,i.size,i.bytes))=some (some z,sz,bytes)) (hz:z.cells.size=sz) (hsz:0<sz)
  (base:Nat) (v:Value) (rows:List (List Value)) (hs:a.eval s=v) (hown:OwnG w base e sz v rows) (B:Nat) (v2:Value) (rows2:List (List Value)) (hx:a.eval x=v2) (hsl:SlG w B sz v2 rows2) (hrl:∀ r∈rows2,r.length=sz)
  (hone:∀ r∈rows2,∀ u∈r,u.oneCell'=true)
  (hlen:(rows.length+rows2.length)*bytes<=140737488355328) (hlen2:rows.length+rows2.length<=140737488355328) (hB:base<=w.heap.size)
  (h:∀ v' w',OwnG w' base e sz v' (rows++rows2)->w.grownBy w' v.ownBlock->Below base w w'->K (a.put o.dst v') w'):if Region.wanted o (yielded ops a.tmps)=true then Oper.wp P o a w K Q else E:=by
 have hw:Region.wanted o (yielded ops a.tmps)=true:=by simp[Region.wanted,hgd]
 rw[if_pos hw];obtain⟨i0,hi0,hz0,hz1,hz2⟩:=info_parts hi;obtain⟨oa,cap,rfl,h1,h2,h3⟩:=hsl;cases oa with
 | none =>
  have hb:rows2=[]:=by
   cases rows2 with
   | nil=>rfl
   | cons y r=>obtain⟨_,_,hh,_⟩:=h3 (by simp);cases hh
  subst hb;have hrun:=run_append_nosrc (P:=P) (w:=w) (ty:=o.type) ht hi0 hown.1 cap;unfold Oper.wp;simp[execOp,ho,resolve,invoke,builtin,hs,hx,hrun,Result.andThen];exact h v w (by simpa using hown) (World.grownBy.refl w _) brf
 | some ad =>
  refine wp_append_own w s x t ho base e i0 _ sz bytes ht hi0 hz0 hz1 hz2 hz hsz v rows.length _ hs hown.1 ad rows2.length cap rows2.flatten hx (flat_len _ hrl) ?_ ?_ ?_ hlen hB ?_
  ·intro j u hj;obtain⟨k1,k2⟩:=flatten_inv sz hsz rows2 j u hrl hj;obtain⟨bb,bo,hh,_,hrd⟩:=h3 (by rintro rfl;simp at k1);cases hh
   have:=hrd (j/sz) k1 (j%sz) u k2;have e:(⟨bb,bo,none⟩:Addr).add j=⟨bb,bo+(j/sz)*sz+j%sz,none⟩:=by
    have h9:=Nat.div_add_mod j sz;rw[Nat.mul_comm] at h9;unfold Addr.add;split<;>simp_all<;>omega
   rw[e];exact this
  ·intro u hu;obtain⟨r,hr,hu⟩:=List.mem_flatten.1 hu;exact hone r hr u hu
  ·unfold maxLen;omega
  ·intro v' w' ho' hg' _;refine h v' w' ⟨by simpa using ho',?_⟩ hg' ((Below.refl base w).grown hg' hB (fun k hk=>(World.ownsRow.lt hown.1 k hk).1));intro r hr;rcases List.mem_append.1 hr with hr|hr
   ·exact hown.2 r hr
   ·exact hrl r hr
theorem append_sg {P:Program}(w:World){ops:Array Oper}{rest:List Oper}{o:Oper}{a:Act}{Q:Exit->Act->World->Prop}(hgd:o.guard=none)(s x:Operand)(t e:TypeId)(z:Value)(sz bytes:Nat)
  (ho:o.op = .call {callee:=.builtin .append,args := #[s,x],argTypes := #[t,t]})
  (ht:P.underlying t=some (.slice e)) (hi:(P.info? e).map (fun i=>(i.zero,i.size,i.bytes))=some (some z,sz,bytes)) (hz:z.cells.size=sz) (hsz:0<sz)
  (base:Nat) (v:Value) (rows:List (List Value)) (hs:a.eval s=v) (hown:OwnG w base e sz v rows) (B:Nat) (v2:Value) (rows2:List (List Value)) (hx:a.eval x=v2) (hsl:SlG w B sz v2 rows2) (hrl:∀ r∈rows2,r.length=sz)
  (hone:∀ r∈rows2,∀ u∈r,u.oneCell'=true)
  (hlen:(rows.length+rows2.length)*bytes<=140737488355328) (hlen2:rows.length+rows2.length<=140737488355328) (hB:base<=w.heap.size)
  (h:∀ v' w',OwnG w' base e sz v' (rows++rows2)->w.grownBy w' v.ownBlock->Below base w w'->wpList P ops Q rest (a.put o.dst v') w'):wpList P ops Q (o :: rest) a w:=by
 refine wpList_plain hgd fun K hK=>?_;have:=step_append_sg (P:=P) (ops := #[]) (E:=True) (Q:=Q) w (o:=o) (a:=a) (K:=K) hgd s x t e z sz bytes ho ht hi hz hsz base v rows hs hown B v2 rows2 hx hsl hrl hone hlen hlen2 hB (fun v' w' h1 h2 h3=>hK _ _ (h v' w' h1 h2 h3));rwa[if_pos (show Region.wanted o (yielded #[] a.tmps)=true by simp[Region.wanted,hgd])] at this
open Go.RowKit Go.Maps
theorem flat_set1 {s:Nat}(u:Value)(t:Nat)(ht:t<s):∀ (rows:List (List Value)) (j:Nat),(∀ r∈rows,r.length=s)->j<rows.length->(rows.set j ((rows.getD j []).set t u)).flatten=rows.flatten.set (j*s+t) u
 | [],j,_,hj=>by simp at hj
 | r :: rows,0,h,_=>by
  have hr:r.length=s:=h r (by simp);simp only[List.getD_cons_zero,List.set_cons_zero,List.flatten_cons,Nat.zero_mul,Nat.zero_add];rw[List.set_append,if_pos (by omega)]
 | r :: rows,j+1,h,hj=>by
  have hr:r.length=s:=h r (by simp);simp only[List.getD_cons_succ,List.set_cons_succ,List.flatten_cons];rw[flat_set1 u t ht rows j (fun x hx=>h x (by simp[hx])) (by simpa using hj),List.set_append,if_neg (by rw[hr,Nat.succ_mul];omega)]
  congr 2
  rw[hr,Nat.succ_mul];omega
theorem OwnG.setOne {w:World}{base:Nat}{e:TypeId}{g n c s:Nat}{rows:List (List Value)}(h:OwnG w base e s (.slice (some ⟨g,0,none⟩) n c) rows)(j t:Nat)(u:Value)(hj:j<rows.length)(ht:t<s) :
  OwnG (w.setCell ⟨g,j*s+t,none⟩ u) base e s (.slice (some ⟨g,0,none⟩) n c) (rows.set j ((rows.getD j []).set t u)):=by
 have hgm:rows.getD j []∈rows:=by rw[List.getD_eq_getElem?_getD,List.getElem?_eq_getElem hj];exact List.getElem_mem _
 have hl:∀ r∈rows.set j ((rows.getD j []).set t u),r.length=s:=fun r hr=>by
  rcases List.mem_or_eq_of_mem_set hr with h1|h1
  ·exact h.2 r h1
  ·rw[h1,List.length_set];exact h.2 _ hgm
 refine⟨⟨?_,?_⟩,hl⟩
 ·rw[flat_set1 u t ht rows j h.2 hj];have:=h.1.1;simp only[List.length_set] at this ⊢;exact this
 ·rcases h.1.2 with⟨hv,_⟩|⟨g',cap,cur,hv,hb,hg,hn,hm,hs,ht'⟩
  ·cases hv
  ·cases hv
   refine .inr ⟨g,_,cur.setIfInBounds (j*s+t) u,by simp,hb,heap_setCell_at' w g _ _ cur e _ hg,by simpa using hn,hm,by simpa using hs,?_⟩;rw[flat_set1 u t ht rows j h.2 hj,Array.toList_setIfInBounds,List.take_set,List.length_set,ht']
theorem ownG_sh {w:World}{base:Nat}{e:TypeId}{s:Nat}{v:Value}{rows:List (List Value)}(h:OwnG w base e s v rows):∃ oa n c,v = .slice oa n c:=by
 rcases h.shape with⟨rfl,_⟩|⟨g,c,rfl,_⟩<;>exact⟨_,_,_,rfl⟩
theorem slB_G {w:World}{B:Nat}{v:Value}{l:List UInt8}(h:SlB w B v l):SlG w B 1 v (l.map fun x=>[u8 x]):=by
 obtain⟨oa,cap,rfl,h1,h2,h3⟩:=h;refine⟨oa,cap,by simp,by simpa using h1,by simpa using h2,fun hn=>?_⟩;obtain⟨bb,bo,rfl,hl,hr⟩:=h3 (by rintro rfl;simp at hn);refine⟨bb,bo,rfl,hl,fun i hi j u hj=>?_⟩;rw[List.length_map] at hi;have hg:(l.map fun x=>[u8 x]).getD i []=[u8 (l.getD i 0)]:=by
  rw[List.getD_eq_getElem?_getD,List.getElem?_map,List.getElem?_eq_getElem hi,List.getD_eq_getElem?_getD,List.getElem?_eq_getElem hi];rfl
 rw[hg] at hj
 match j,hj with
 | 0,hj=>simp at hj;subst hj;have:=hr i hi;rw[show bo+i*1+0=bo+i by omega];exact this
 | j+1,hj=>simp at hj
theorem ownG_type {w:World}{base:Nat}{e:TypeId}{s:Nat}{v:Value}{rows:List (List Value)}(h:OwnG w base e s v rows):∀ k,v.ownBlock=some k->∃ c f,w.heap[k]? = some (.cells c e f):=by
 intro k hk;rcases h.1.2 with⟨rfl,_⟩|⟨g,cap,cur,rfl,_,hg,_⟩
 ·cases hk
 ·cases hk;exact⟨_,_,hg⟩
theorem ownB_type {w:World}{base:Nat}{v:Value}{l:List UInt8}(h:OwnB w base 5 v l):∀ k,v.ownBlock=some k->∃ c f,w.heap[k]? = some (.cells c 5 f):=by
 intro k hk;rcases h.2 with⟨rfl,_⟩|⟨g,cap,cur,rfl,_,hg,_⟩
 ·cases hk
 ·cases hk;exact⟨_,_,hg⟩
end Go.Mx
namespace Go.Proofs.YtgkabcaodnofnaaGreat
open Go.RowKit Go.Mx Go.Md
theorem size108 (w:World):(sizeOf 108).run prog w = .ok 3 w:=by kernel_rfl
theorem info108:(prog.info? 108).map (fun i=>(i.zero,i.size,i.bytes))=some (some (.agg #[.string ⟨#[]⟩,.bool false,.slice none 0 0]),3,48):=by kernel_rfl
theorem rightS_len:∀ (l:List Sp)(last:Int),last<=1073741824->rightS last l=true->(l.length:Int)<=1073741824-last
 | [],last,h,_=>by simp;omega
 | s :: r,last,h,hr=>by
  simp only[rightS,Bool.and_eq_true,Bool.not_eq_true',decide_eq_false_iff_not] at hr;obtain⟨⟨h1,h2⟩,h3⟩:=hr;simp only[mayS,Bool.and_eq_true,decide_eq_true_eq] at h1;have:=rightS_len r s.2 h1.2 h3;simp only[List.length_cons];omega
theorem allS_len (l:List Sp):(allS l).length<=1073741825:=by
 unfold allS;split
 ·rename_i h;have:=rightS_len l (-1) (by omega) h;omega
 ·simp
theorem addS_len (l:List Sp)(s:Sp):(addS l s).length<=3000000000:=by
 have h1:=addI_len s (allS l);have h2:=allS_len l;have h3:addS l s=if (addI s (allS l)).laid then(addI s (allS l)).out else(addI s (allS l)).out++[(addI s (allS l)).s]:=rfl
 rw[h3];split
 ·omega
 ·rw[List.length_append];simp;omega
theorem subS_len (l:List Sp)(s:Sp):(subS l s).length<=3000000000:=by
 have key:∀ (t out:List Sp),(t.foldl (subR s) out).length<=out.length+2*t.length:=by
  intro t;induction t with
  | nil=>intro out;simp
  | cons x t ih =>
   intro out;have h1:=ih (subR s out x);have h2:(subR s out x).length<=out.length+2:=by
    unfold subR;split
    ·simp
    ·rw[List.length_append];split<;>split<;>simp
   simp only[List.foldl_cons,List.length_cons];omega
 have h2:=allS_len l;have h3:=key (allS l) [];unfold subS;simp only[List.length_nil] at h3;omega
structure PB where
 b:BM
 lv:Value
abbrev pbrow (p:PB):List Value:=[.string ⟨p.b.name.toArray⟩,.bool p.b.on,p.lv]
theorem pbrow_one (p:PB)(h:∃ a n c,p.lv = .slice a n c):∀ u∈pbrow p,u.oneCell'=true:=by
 obtain⟨a,n,c,e⟩:=h;intro u hu;simp[pbrow,e] at hu;rcases hu with rfl|rfl|rfl<;>rfl
structure BMS (w:World)(base:Nat)(v:Value)(l:List BM)(ps:List PB):Prop where
 e:l=ps.map (·.b)
 o:OwnG w base 108 3 v (ps.map pbrow)
 s:∀ p∈ps,OwnG w base 111 2 p.lv (p.b.l.map spC)
 n:l.length<=100
 k:∀ b∈l,b.l.length<=3000000000
section
variable {w w':World}{base:Nat}{v:Value}{l:List BM}{ps:List PB}
theorem BMS.kept {N:Nat->Prop}(h:BMS w base v l ps)(hk:Kept w w' N)(hN:∀ b c t f,w.heap[b]? = some (.cells c t f)->t=108\/t=111->N b):BMS w' base v l ps where
 e:=h.e
 o:=h.o.kept hk fun k e=>by obtain⟨c,f,hc⟩:=ownG_type h.o k e;exact hN k c _ f hc (.inl rfl)
 s:=fun p hp=>(h.s p hp).kept hk fun k e=>by obtain⟨c,f,hc⟩:=ownG_type (h.s p hp) k e;exact hN k c _ f hc (.inr rfl)
 n:=h.n
 k:=h.k
theorem BMS.below (h:BMS w base v l ps)(hb:Below w.heap.size w w'):BMS w' base v l ps :=
 h.kept (Kept.of_below (N:=fun _=>True) hb fun _ h _=>h) fun _ _ _ _ _ _=>trivial
theorem BMS.any_base {b':Nat}(h:BMS w base v l ps)(hb:b'<=base):BMS w b' v l ps:={h with o:=h.o.any_base hb,s:=fun p hp=>(h.s p hp).any_base hb}
theorem BMS.nil (w:World)(base:Nat):BMS w base (.slice none 0 0) [] [] where
 e:=rfl
 o:=OwnG.nil _ _ _ _
 s:=by simp
 n:=by simp
 k:=by simp
theorem BMS.pl (h:BMS w base v l ps):ps.length=l.length:=by rw[h.e,List.length_map]
theorem BMS.len (h:BMS w base v l ps)(w':World):(Builtin.len_ #[43] 3 #[v]).run prog w' = .ok (.int .i64 l.length) w':=by
 have:=SlG.len (P:=prog) (ty:=3) h.o.slG underlying43 w';rwa[List.length_map,h.pl] at this
theorem BMS.place (h:BMS w base v l ps){i:Nat}{p:PB}(hi:ps[i]? = some p):∃ g n c,v = .slice (some ⟨g,0,none⟩) n c/\base<=g/\(∃ cc,w.heap[g]? = some (.cells cc 108 (0,0)))/\(∀ w' (k:IntKind),(Instr.indexAt 43 v (.int k (i:Int))).run prog w' = .ok (.pointer (some ⟨g,i*3,none⟩)) w'):=by
 have hl:i<(ps.map pbrow).length:=by rw[List.length_map];exact(List.getElem?_eq_some_iff.1 hi).1
 have ho:=h.o;rcases ho.shape with⟨_,he⟩|⟨g,c,rfl,hg,_⟩
 ·rw[he] at hl;simp at hl
 ·obtain⟨_,_,_,_,cur,hc,_⟩:=ho.parts;exact⟨g,_,c,rfl,hg,⟨cur,hc⟩,ho.addr (P:=prog) underlying43 size108 i hl⟩
theorem BMS.cellAt {g n c:Nat}(h:BMS w base (.slice (some ⟨g,0,none⟩) n c) l ps){i:Nat}{p:PB}(hi:ps[i]? = some p)(t:Nat)(u:Value)(hu:(pbrow p)[t]? = some u):w.cell? ⟨g,i*3+t,none⟩=some u:=by
 have hil:=(List.getElem?_eq_some_iff.1 hi).1;have hgd:(ps.map pbrow).getD i []=pbrow p:=by rw[List.getD_eq_getElem?_getD,List.getElem?_map,hi];rfl
 have h1:=h.o.rangeAt i (by rw[List.length_map];exact hil);rw[hgd] at h1;exact h1 t u hu
theorem BMS.fz {g n c:Nat}(h:BMS w base (.slice (some ⟨g,0,none⟩) n c) l ps)(j:Nat):w.frozen? ⟨g,j,none⟩=false:=by
 obtain⟨_,_,_,_,cur,hc,_⟩:=h.o.parts;simp[World.frozen?,hc]
theorem BMS.setL {g n c:Nat}(h:BMS w base (.slice (some ⟨g,0,none⟩) n c) l ps){i:Nat}{p:PB}(hi:ps[i]? = some p){lv:Value}{ls:List Sp}(ho:OwnG w base 111 2 lv (ls.map spC))(hl:ls.length<=3000000000) :
  BMS (w.setCell ⟨g,i*3+2,none⟩ lv) base (.slice (some ⟨g,0,none⟩) n c) (l.set i {p.b with l:=ls}) (ps.set i ⟨{p.b with l:=ls},lv⟩):=by
 have hil:=(List.getElem?_eq_some_iff.1 hi).1;obtain⟨_,hg,_,_,cur,hc,_⟩:=h.o.parts;have hs:=h.o.setOne i 2 lv (by rw[List.length_map];exact hil) (by decide);have hgd:(ps.map pbrow).getD i []=pbrow p:=by rw[List.getD_eq_getElem?_getD,List.getElem?_map,hi];rfl
 have he:(pbrow p).set 2 lv=pbrow ⟨{p.b with l:=ls},lv⟩:=rfl;rw[hgd,he,<-List.map_set] at hs;have hkp:Kept w (w.setCell ⟨g,i*3+2,none⟩ lv) (fun k=>k≠g):=Kept.set w g _ _ (by simp);refine{e:=by rw[List.map_set,<-h.e],o:=hs,s:=fun q hq=>?_,n:=by rw[List.length_set];exact h.n,k:=fun b hb=>?_}
 ·have h9:OwnG w base 111 2 q.lv (q.b.l.map spC):=by
   rcases List.mem_or_eq_of_mem_set hq with h1|h1
   ·exact h.s q h1
   ·rw[h1];exact ho
  exact h9.kept hkp fun k e=>by obtain⟨c9,f9,hc9⟩:=ownG_type h9 k e;exact blk_ne hc9 hc (by decide)
 ·rcases List.mem_or_eq_of_mem_set hb with h1|h1
  ·exact h.k b h1
  ·rw[h1];exact hl
theorem BMS.setOn {g n c:Nat}(h:BMS w base (.slice (some ⟨g,0,none⟩) n c) l ps){i:Nat}{p:PB}(hi:ps[i]? = some p)(on:Bool) :
  BMS (w.setCell ⟨g,i*3+1,none⟩ (.bool on)) base (.slice (some ⟨g,0,none⟩) n c) (l.set i {p.b with on:=on}) (ps.set i ⟨{p.b with on:=on},p.lv⟩):=by
 have hil:=(List.getElem?_eq_some_iff.1 hi).1;obtain⟨_,hg,_,_,cur,hc,_⟩:=h.o.parts;have hs:=h.o.setOne i 1 (.bool on) (by rw[List.length_map];exact hil) (by decide);have hgd:(ps.map pbrow).getD i []=pbrow p:=by rw[List.getD_eq_getElem?_getD,List.getElem?_map,hi];rfl
 have he:(pbrow p).set 1 (.bool on)=pbrow ⟨{p.b with on:=on},p.lv⟩:=rfl;rw[hgd,he,<-List.map_set] at hs;have hkp:Kept w (w.setCell ⟨g,i*3+1,none⟩ (.bool on)) (fun k=>k≠g):=Kept.set w g _ _ (by simp);have hpm:=List.mem_of_getElem? hi;refine{e:=by rw[List.map_set,<-h.e],o:=hs,s:=fun q hq=>?_,n:=by rw[List.length_set];exact h.n,k:=fun b hb=>?_}
 ·have h9:OwnG w base 111 2 q.lv (q.b.l.map spC):=by
   rcases List.mem_or_eq_of_mem_set hq with h1|h1
   ·exact h.s q h1
   ·rw[h1];exact h.s p hpm
  exact h9.kept hkp fun k e=>by obtain⟨c9,f9,hc9⟩:=ownG_type h9 k e;exact blk_ne hc9 hc (by decide)
 ·rcases List.mem_or_eq_of_mem_set hb with h1|h1
  ·exact h.k b h1
  ·rw[h1];exact h.k p.b (by rw[h.e];exact List.mem_map_of_mem hpm)
end
theorem clone108 (v:Value)(rows:List (List Value))(B:Nat)(w:World)(h:SlG w B 3 v rows)(hB:B<=w.heap.size)(hr:∀ r∈rows,r.length=3)(hone:∀ r∈rows,∀ u∈r,u.oneCell'=true)(hl:rows.length<=100000000000):Calls prog 62 #[v] w fun e w'=>∃ v',e = .returned v'/\OwnG w' w.heap.size 108 3 v' rows/\Below w.heap.size w w':=by
 obtain⟨oa,cap,rfl,h1,h2,h3⟩:=id h;cases oa with
 | none =>
  have hb:rows=[]:=by
   cases rows with
   | nil=>rfl
   | cons y r=>obtain⟨_,_,hh,_⟩:=h3 (by simp);cases hh
  subst hb;have hq:∀ w',(binOp .eql 43 (.slice none 0 cap) (.slice none 0 0)).run prog w' = .ok (.bool true) w':=fun w'=>run_eql_nil_slice w' 43 108 none 0 cap 0 0 underlying43;clear h h1 h2 h3;go_enter func62,ntmps62
  go_wp2
  go_ret
  exact⟨_,rfl,OwnG.nil _ _ _ _,brf⟩
 | some ad =>
  obtain⟨N,hN⟩:∃ N,N=rows.length:=⟨_,rfl⟩
  rw[<-hN] at h;have hq:∀ w',(binOp .eql 43 (.slice (some ad) N cap) (.slice none 0 0)).run prog w' = .ok (.bool false) w':=fun w'=>Lib.run_eql_slice_nil w' 43 108 _ _ _ _ _ underlying43;have HH:=hid h;have HN:=hid hN;rw[<-hN];clear h h1 h2 h3 hN;go_enter func62,ntmps62
  go_wp2_with (at_builtin;refine append_sg _ rfl _ _ 43 108 _ 3 48 rfl underlying43 info108 rfl (by decide) w.heap.size _ [] rfl (OwnG.empty w 108 3) B _ rows rfl (HH.out.below (brf.alloc nlr _) hB) hr hone ?_ ?_ ?_ ?_)
  ·simp;omega
  ·simp;omega
  ·first|exact Nat.le_refl _|(simp;try omega)
  intro v' w' ho' hg' hb';have hb:=((Below.refl w.heap.size w).alloc nlr (.cells #[] 108)).trans hb';have ho':OwnG w' w.heap.size 108 3 v' rows:=ho';clear hg' hb'
  go_wp2
  go_ret
  exact⟨_,rfl,ho',hb⟩
theorem clone111 (v:Value)(rows:List (List Value))(B:Nat)(w:World)(h:SlG w B 2 v rows)(hB:B<=w.heap.size)(hr:∀ r∈rows,r.length=2)(hone:∀ r∈rows,∀ u∈r,u.oneCell'=true)(hl:rows.length<=100000000000):Calls prog 63 #[v] w fun e w'=>∃ v',e = .returned v'/\OwnG w' w.heap.size 111 2 v' rows/\Below w.heap.size w w':=by
 obtain⟨oa,cap,rfl,h1,h2,h3⟩:=id h;cases oa with
 | none =>
  have hb:rows=[]:=by
   cases rows with
   | nil=>rfl
   | cons y r=>obtain⟨_,_,hh,_⟩:=h3 (by simp);cases hh
  subst hb;have hq:∀ w',(binOp .eql 32 (.slice none 0 cap) (.slice none 0 0)).run prog w' = .ok (.bool true) w':=fun w'=>run_eql_nil_slice w' 32 111 none 0 cap 0 0 underlying32;clear h h1 h2 h3;go_enter func63,ntmps63
  go_wp2
  go_ret
  exact⟨_,rfl,OwnG.nil _ _ _ _,brf⟩
 | some ad =>
  obtain⟨N,hN⟩:∃ N,N=rows.length:=⟨_,rfl⟩
  rw[<-hN] at h;have hq:∀ w',(binOp .eql 32 (.slice (some ad) N cap) (.slice none 0 0)).run prog w' = .ok (.bool false) w':=fun w'=>Lib.run_eql_slice_nil w' 32 111 _ _ _ _ _ underlying32;have HH:=hid h;have HN:=hid hN;rw[<-hN];clear h h1 h2 h3 hN;go_enter func63,ntmps63
  go_wp2_with (at_builtin;refine append_sg _ rfl _ _ 32 111 _ 2 16 rfl underlying32 info111 rfl (by decide) w.heap.size _ [] rfl (OwnG.empty w 111 2) B _ rows rfl (HH.out.below (brf.alloc nlr _) hB) hr hone ?_ ?_ ?_ ?_)
  ·simp;omega
  ·simp;omega
  ·first|exact Nat.le_refl _|(simp;try omega)
  intro v' w' ho' hg' hb';have hb:=((Below.refl w.heap.size w).alloc nlr (.cells #[] 111)).trans hb';have ho':OwnG w' w.heap.size 111 2 v' rows:=ho';clear hg' hb'
  go_wp2
  go_ret
  exact⟨_,rfl,ho',hb⟩
theorem set_self {α:Type}{l:List α}{i:Nat}{x:α}(h:l[i]? = some x):l.set i x=l:=by
 apply List.ext_getElem?;intro j;rw[List.getElem?_set];split
 ·rename_i e;subst e;rw[if_pos (List.getElem?_eq_some_iff.1 h).1,h]
 ·rfl
theorem pbrow_len (ps:List PB):∀ r∈ps.map pbrow,r.length=3:=by intro r hr;obtain⟨p,_,rfl⟩:=List.mem_map.1 hr;rfl
theorem spC_len (l:List Sp):∀ r∈l.map spC,r.length=2:=by intro r hr;obtain⟨p,_,rfl⟩:=List.mem_map.1 hr;rfl
theorem spC_one (l:List Sp):∀ r∈l.map spC,∀ u∈r,u.oneCell'=true:=by intro r hr u hu;obtain⟨p,_,rfl⟩:=List.mem_map.1 hr;simp at hu;rcases hu with rfl|rfl<;>rfl
section
variable {w w':World}{base:Nat}{v:Value}{l:List BM}{ps:List PB}
theorem BMS.ones (h:BMS w base v l ps):∀ r∈ps.map pbrow,∀ u∈r,u.oneCell'=true:=by
 intro r hr u hu;obtain⟨p,hp,rfl⟩:=List.mem_map.1 hr;exact pbrow_one p (ownG_sh (h.s p hp)) u hu
theorem BMS.get (h:BMS w base v l ps){i:Nat}(hi:i<l.length):∃ p,ps[i]? = some p/\l[i]? = some p.b:=by
 obtain⟨p,hp⟩:∃ p,ps[i]? = some p:=⟨_,List.getElem?_eq_getElem (by rw[h.pl];exact hi)⟩
 exact⟨p,hp,by rw[h.e,List.getElem?_map,hp];rfl⟩
def NewB (b:Nat)(v:Value):Prop:=∀ k,v.ownBlock=some k->b<=k
theorem own_any (h:BMS w base v l ps)(hbase:base<=w.heap.size):Calls prog 115 #[v] w fun e w'=>∃ v' ps',e = .returned v'/\BMS w' base v' l ps'/\NewB w.heap.size v'/\Below w.heap.size w w':=by
 have HC:=hid (clone108 v (ps.map pbrow) w.heap.size w h.o.slG nlr (pbrow_len ps) h.ones (by rw[List.length_map,h.pl];have:=h.n;omega));have H:=jd2 h hbase;obtain⟨oa,n,c,rfl⟩:=ownG_sh h.o;clear h hbase;go_enter func115,ntmps115
 go_wp2_with fail
 refine HC.out.mono ?_;rintro e w1 ⟨v1,rfl,ho1,hb1⟩;have hB1:BMS w1 base v1 l ps:={(H.out.1.below hb1) with o:=ho1.any_base H.out.2}
 have hnew:NewB w.heap.size v1:=fun k hk=>ho1.ge k hk;obtain⟨xa,xn,xc,rfl⟩:=ownG_sh ho1;have hlen:=hB1.len;have H1:=jd3 hB1 hb1 hnew;clear hB1 hb1 hnew ho1 HC
 go_wp2_with fail
 go_loopw [9] (fun s9 wr=>∃ (i:Nat) (ps':List PB),s9 = .int .i64 i/\i<=l.length/\BMS wr base (.slice xa xn xc) l ps'/\Below w.heap.size w wr) (fun s9 _=>l.length-(intOf s9).toNat)
 case atStart=>exact⟨0,ps,rfl,by omega,H1.out.1,H1.out.2.1⟩
 case round =>
  obtain⟨i,ps',rfl,hi,hB,hbl⟩:=hrel;have hn100:=hB.n;by_cases hlt:i<l.length
  ·obtain⟨p,hp,hlp⟩:=hB.get hlt;obtain⟨g,n',c',hv,hg,⟨cc,hgc⟩,hia⟩:=hB.place hp;simp only[Value.slice.injEq] at hv;obtain⟨rfl,rfl,rfl⟩:=hv;obtain⟨b,lv⟩:=p;have hc2:=hB.cellAt hp 2 _ rfl;have hpm:=List.mem_of_getElem? hp;have hlk:b.l.length<=3000000000:=hB.k b (List.mem_of_getElem? hlp);have HCL:=hid (clone111 lv (b.l.map spC) wr.heap.size wr (hB.s _ hpm).slG nlr (spC_len _) (spC_one _) (by rw[List.length_map];omega));obtain⟨la,ln,lc,rfl⟩:∃ a n c,lv = .slice a n c:=ownG_sh (hB.s _ hpm);have HX:=jd5 hB hbl hp hlp hlk;obtain⟨o,ho⟩:∃ o,o=i*3:=⟨_,rfl⟩
   rw[<-ho] at hia hc2;have HO:=hid ho;clear hB hbl hp hlp hlk hpm ho hg hgc
   go_wp2_with fail
   refine HCL.out.mono ?_;rintro e w5 ⟨v5,rfl,ho5,hb5⟩;have hB5:=HX.out.1.below hb5;have hf5:w5.frozen? ⟨g,o+2,none⟩=false:=hB5.fz _;have hc5:w5.cell? ⟨g,o+2,none⟩=some (.slice la ln lc):=by have:=hB5.cellAt HX.out.2.2.1 2 _ rfl;rw[HO.out];exact this
   obtain⟨ya,yn,yc,rfl⟩:=ownG_sh ho5;have hbw:base<=wr.heap.size:=Nat.le_trans H.out.2 HX.out.2.1.size;have hgw:w.heap.size<=g:=H1.out.2.2 g rfl;have hB6:=hB5.setL HX.out.2.2.1 (ho5.any_base hbw) HX.out.2.2.2.2;have hl6:l.set i {b with l:=b.l}=l:=set_self HX.out.2.2.2.1;rw[hl6,<-HO.out] at hB6;have hb6:Below w.heap.size w (w5.setCell ⟨g,o+2,none⟩ (.slice ya yn yc)):=(HX.out.2.1.trans (hb5.mono HX.out.2.1.size)).setCell hgw _;have HZ:=jd2 hB6 hb6;clear hB5 ho5 hb5 hB6 hb6 HCL hl6
   go_wp2_with fail
   exact⟨⟨i+1,_,by go_num,by omega,HZ.out.1,HZ.out.2⟩,by simp[intOf];omega⟩
  ·obtain rfl:i=l.length:=by omega
   have HX:=jd2 hB hbl;clear hB hbl
   go_wp2_with fail
   go_ret
   exact⟨_,_,rfl,HX.out.1,H1.out.2.2,HX.out.2⟩
end
section
variable {w w':World}{base:Nat}{v:Value}{l:List BM}{ps:List PB}
theorem touch_any (h:BMS w base v l ps)(hbase:base<=w.heap.size)(s:Sp):Calls prog 85 #[v,spV s] w fun e w'=>∃ v' ps',e = .returned v'/\BMS w' base v' (touch l s) ps'/\NewB w.heap.size v'/\Below w.heap.size w w':=by
 obtain⟨sx,sy⟩:=s;have hbA:Below w.heap.size w (w.alloc (.cells #[.int .i64 sx,.int .i64 sy] 111)):=brf.alloc nlr _;have hqA:=alloc_new w (.cells #[.int .i64 sx,.int .i64 sy] 111);have HO:=hid (own_any (h.below hbA) (Nat.le_trans hbase hbA.size));have H:=jd4 h hbase hbA hqA;obtain⟨oa,n,c,rfl⟩:=ownG_sh h.o;clear h hbase hbA hqA;go_enter func85,ntmps85
 go_wp2_with fail
 refine HO.out.mono ?_;rintro e w1 ⟨v1,ps1,rfl,hB1,hnew,hb1⟩;have hbt:Below w.heap.size w w1:=H.out.2.2.1.trans (hb1.mono H.out.2.2.1.size);have hq1:=(hb1.block _ (blk_lt H.out.2.2.2)).trans H.out.2.2.2;have hnew1:NewB (w.heap.size+1) v1:=by have:=hnew;simpa using this
 obtain⟨xa,xn,xc,rfl⟩:=ownG_sh hB1.o;have hlen:=hB1.len;have H1:=jd4 hB1 hbt hnew1 hq1;clear hB1 hb1 hnew hnew1 hbt hq1 HO
 go_wp2_with fail
 go_loopw [11] (fun s11 wr=>∃ (i:Nat) (l':List BM) (ps':List PB),s11 = .int .i64 i/\i<=l.length/\l'=(l.take i).map (touchB (sx,sy))++l.drop i/\BMS wr base (.slice xa xn xc) l' ps'/\Below w.heap.size w wr/\wr.heap[w.heap.size]? = some (.cells #[.int .i64 sx,.int .i64 sy] 111 (0,0))) (fun s11 _=>l.length-(intOf s11).toNat)
 case atStart=>exact⟨0,l,ps1,rfl,by omega,by simp,H1.out.1,H1.out.2.1,H1.out.2.2.2⟩
 case round =>
  obtain⟨i,l',ps',rfl,hi,hl',hB,hbl,hq⟩:=hrel;have hn100:l.length<=100:=H.out.1.n;have hll:l'.length=l.length:=by rw[hl'];simp;omega
  by_cases hlt:i<l.length
  ·obtain⟨p,hp,hlp⟩:=hB.get (by omega:i<l'.length);obtain⟨g,n',c',hv,hg,⟨cc,hgc⟩,hia⟩:=hB.place hp;simp only[Value.slice.injEq] at hv;obtain⟨rfl,rfl,rfl⟩:=hv;obtain⟨⟨nm,on,bl⟩,lv⟩:=p;have hc1:=hB.cellAt hp 1 _ rfl;have hc2:=hB.cellAt hp 2 _ rfl;have hpm:=List.mem_of_getElem? hp;have hlk:bl.length<=3000000000:=hB.k _ (List.mem_of_getElem? hlp);have s0:wr.cell? ⟨w.heap.size,0,none⟩=some (.int .i64 sx):=by simp[World.cell?,hq]
   have s1:wr.cell? ⟨w.heap.size,1,none⟩=some (.int .i64 sy):=by simp[World.cell?,hq]
   have hli:l[i]? = some ⟨nm,on,bl⟩:=by
    have:=hlp;simp only at this;rw[hl',List.getElem?_append_right (by simp;omega)] at this;simp only[List.length_map,List.length_take,Nat.min_eq_left hi,Nat.sub_self,List.getElem?_drop,Nat.add_zero] at this;exact this
   have hnx:∀ b',touchB (sx,sy) ⟨nm,on,bl⟩=b'->l'.set i b'=(l.take (i+1)).map (touchB (sx,sy))++l.drop (i+1):=fun b' hb'=>by
    rw[hl',List.take_add_one,hli,List.map_append,List.drop_eq_getElem_cons hlt];have hlen:((l.take i).map (touchB (sx,sy))).length=i:=by simp;omega
    rw[List.set_append_right _ _ (by omega),hlen,Nat.sub_self,List.set_cons_zero,<-hb'];simp
   obtain⟨o,ho⟩:∃ o,o=i*3:=⟨_,rfl⟩
   rw[<-ho] at hia hc1 hc2;cases on
   ·have HX:=jd5 hB hbl hq (hnx _ rfl) hlp;clear hB hbl hq hp hlp hlk hpm ho hg hgc hli hnx hl' hll s0 s1
    go_wp2_with fail
    have h9:=HX.out.2.2.2.1;rw[show touchB (sx,sy) ⟨nm,false,bl⟩=⟨nm,false,bl⟩ from rfl,set_self HX.out.2.2.2.2] at h9;exact⟨⟨i+1,l',ps',by go_num,by omega,h9,HX.out.1,HX.out.2.1,HX.out.2.2.1⟩,by simp[intOf];omega⟩
   ·have hsp:OwnG wr base 111 2 lv (bl.map spC):=hB.s _ hpm;have HA:=hid (add_any bl (sx,sy) lv wr.drew (by omega) (hsp.below brf.drew nlr).slG);obtain⟨la,ln,lc,rfl⟩:∃ a n c,lv = .slice a n c:=ownG_sh hsp;have HX:=jd7 hB hbl hq (hnx _ rfl) hp hlk ho;clear hB hbl hq hp hlp hlk hpm ho hg hgc hli hnx hl' hll hsp;go_upto_region 6 with(fail)
    go_region_with (go_at_call 116;refine HA.out.mono ?_;rintro e w5 ⟨v5,rfl,ho5,hb5⟩;obtain⟨ya,yn,yc,rfl⟩:=ownG_sh ho5;have hb5':Below wr.heap.size wr w5:=brf.drew.trans hb5;have hf5:w5.frozen? ⟨g,o+2,none⟩=false:=(HX.out.1.below hb5').fz _;have hc5:w5.cell? ⟨g,o+2,none⟩=some (.slice la ln lc):=(by rw[HX.out.2.2.2.2.2.2];exact(HX.out.1.below hb5').cellAt HX.out.2.2.2.2.1 2 _ rfl))
    all_goals
     have hB6:=(HX.out.1.below hb5').setL HX.out.2.2.2.2.1 (ho5.any_base (Nat.le_trans H.out.2.1 HX.out.2.1.size)) (addS_len _ _);have hgw:w.heap.size+1<=g:=H1.out.2.2.1 g rfl;rw[<-HX.out.2.2.2.2.2.2] at hB6;have hb6:Below w.heap.size w (w5.setCell ⟨g,o+2,none⟩ (.slice ya yn yc)):=(HX.out.2.1.trans (hb5'.mono HX.out.2.1.size)).setCell (by show w.heap.size<=g;omega) _;have hq6:(w5.setCell ⟨g,o+2,none⟩ (.slice ya yn yc)).heap[w.heap.size]? = some (.cells #[.int .i64 sx,.int .i64 sy] 111 (0,0)) :=
      (Below.heap_setCell _ _ _ _ (show w.heap.size≠g by omega)).trans ((hb5'.block _ (blk_lt HX.out.2.2.1)).trans HX.out.2.2.1)
     have HZ:=jd3 hB6 hb6 hq6;clear hB6 hb6 hq6 ho5 hb5 hb5'
     go_wp2_with fail
     exact⟨⟨i+1,_,_,by go_num,by omega,HX.out.2.2.2.1,HZ.out.1,HZ.out.2.1,HZ.out.2.2⟩,by simp[intOf];omega⟩
  ·obtain rfl:i=l.length:=by omega
   have HX:=jd3 hB hbl hl';clear hB hbl hl' hq
   go_wp2_with fail
   go_ret
   refine⟨_,ps',rfl,?_,fun k hk=>by have:=H1.out.2.2.1 k hk;omega,HX.out.2.1⟩;have:=HX.out.2.2;rw[List.take_length,List.drop_length,List.append_nil] at this;unfold touch;rw[<-this];exact HX.out.1
end
end Go.Proofs.YtgkabcaodnofnaaGreat
