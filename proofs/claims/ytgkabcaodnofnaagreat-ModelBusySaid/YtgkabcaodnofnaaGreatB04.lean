import Derived.Test.YtgkabcaodnofnaaGreatB03
import Derived.Test.YtgkabcaodnofnaaGreatB02
import Derived.Laws.CopyOwn
import Derived.Laws.OwnMore
import Derived.Deep.MidRow
import Derived.Deep.Upon
import Derived.Deep.Grids
set_option linter.unusedSimpArgs false
set_option linter.unusedVariables false
set_option maxRecDepth 100000
set_option maxHeartbeats 2000000
open Go.Proofs.Tryz
namespace Go.Proofs.YtgkabcaodnofnaaGreat
open Go.RowKit Go.Mx Go.Md Go.Shelf
attribute [local go_sem] Oper.semAt_some
def addI (s:Sp)(pre:List Sp):AS1:=pre.foldl addR ⟨[],s,!mayS s⟩
theorem addI_succ (s:Sp)(pre:List Sp)(x:Sp):addI s (pre++[x])=addR (addI s pre) x:=by unfold addI;rw[List.foldl_append];rfl
theorem addR_len (a:AS1)(x:Sp):(addR a x).out.length<=a.out.length+2:=by
 unfold addR;split
 ·simp
 ·split
  ·simp
  ·split<;>simp
theorem addI_len (s:Sp)(pre:List Sp):(addI s pre).out.length<=2*pre.length:=by
 have key:∀ (l:List Sp) (a:AS1),(l.foldl addR a).out.length<=a.out.length+2*l.length:=by
  intro l;induction l with
  | nil=>intro a;simp
  | cons x t ih=>intro a;have h1:=ih (addR a x);have h2:=addR_len a x;simp only[List.foldl_cons,List.length_cons];omega
 have:=key pre ⟨[],s,!mayS s⟩;simpa[addI] using this
theorem ownG_sh2 {w:World}{b:Nat}{e:TypeId}{s:Nat}{v:Value}{rows:List (List Value)}(h:OwnG w b e s v rows):∃ oa n c,v = .slice oa n c:=by
 rcases h.shape with⟨rfl,_⟩|⟨g,cap,rfl,_⟩<;>exact⟨_,_,_,rfl⟩
theorem iq_below {base1 base2 Bt:Nat}{w W W':World}{out:List Sp}{bx:Value->List Bx}{v:Value}(h12:base1<=base2)(hBt:Bt<base2)
  (ho:OwnG W base2 111 2 v (out.map spC)) (hb:∀ p∈bx v,p.1<base2/\W.heap[p.1]? = some (.cells p.2.1 p.2.2 (0,0))) (ht:W.heap[Bt]? = w.heap[Bt]?) (hw:Below base1 w W) (hs:base2<=W.heap.size) (hB:Below W.heap.size W W') :
  OwnG W' base2 111 2 v (out.map spC)/\(∀ p∈bx v,p.1<base2/\W'.heap[p.1]? = some (.cells p.2.1 p.2.2 (0,0)))/\W'.heap[Bt]? = w.heap[Bt]?/\Below base1 w W'/\base2<=W'.heap.size/\KeepsOthers W W'/\KpA base1 [Bt] W W' :=
 ⟨ho.below hB nlr,fun p hp=>⟨(hb p hp).1,(hB.block _ (by have:=(hb p hp).1;omega)).trans (hb p hp).2⟩,(hB.block _ (by omega)).trans ht,hw.trans (hB.mono (by omega)),Nat.le_trans hs hB.size,
  KeepsOthers.of_grownBy (grown_of_below hB) (fun j o e=>by cases e),KpA.of_below hB (by omega) (by simp;omega)⟩
def addB (t3 t5 t6:Nat)(p q:Int)(b:Bool)(v:Value):List Bx:=[(t5,#[v],(32:TypeId)),(t3,#[.int .i64 p,.int .i64 q],(111:TypeId)),(t6,#[.bool b],(4:TypeId))]
theorem addB_bx {t3 t5 t6:Nat}{p q:Int}{b:Bool}{v v':Value}(h3:t3≠t5)(h6:t6≠t5):∀ x∈addB t3 t5 t6 p q b v',x=(t5,#[v'],(32:TypeId))\/(x.1≠t5/\x∈addB t3 t5 t6 p q b v):=by
 intro x hx;simp only[addB,List.mem_cons,List.mem_nil_iff,or_false] at hx;rcases hx with rfl|rfl|rfl
 ·exact .inl rfl
 ·exact .inr ⟨h3,by simp[addB]⟩
 ·exact .inr ⟨h6,by simp[addB]⟩
theorem iq_set {base1 base2 Bt b j:Nat}{w X:World}{out:List Sp}{bx bx':Value->List Bx}{v u:Value}(h12:base1<=base2)(hb1:base1<=b)(hb2:b<base2)(hB:Bt≠b)
  (ho:OwnG X base2 111 2 v (out.map spC)) (hb:∀ p∈bx v,p.1<base2/\X.heap[p.1]? = some (.cells p.2.1 p.2.2 (0,0))) (ht:X.heap[Bt]? = w.heap[Bt]?) (hw:Below base1 w X) (hs:base2<=X.heap.size)
  (hbx:∀ p∈bx' v,(p.1≠b/\p∈bx v)\/(p.1=b/\(X.setCell ⟨b,j,none⟩ u).heap[b]? = some (.cells p.2.1 p.2.2 (0,0)))) :
  OwnG (X.setCell ⟨b,j,none⟩ u) base2 111 2 v (out.map spC)/\(∀ p∈bx' v,p.1<base2/\(X.setCell ⟨b,j,none⟩ u).heap[p.1]? = some (.cells p.2.1 p.2.2 (0,0)))/\(X.setCell ⟨b,j,none⟩ u).heap[Bt]? = w.heap[Bt]?/\Below base1 w (X.setCell ⟨b,j,none⟩ u)/\base2<=(X.setCell ⟨b,j,none⟩ u).heap.size/\
   KeepsOthers X (X.setCell ⟨b,j,none⟩ u)/\KpA base1 [Bt] X (X.setCell ⟨b,j,none⟩ u):=by
 have hset:∀ k,k≠b->(X.setCell ⟨b,j,none⟩ u).heap[k]? = X.heap[k]? := fun k hk=>Below.heap_setCell _ _ _ k hk;have hbl:Below base1 X (X.setCell ⟨b,j,none⟩ u):=brf.setCell hb1 _;refine⟨ho.kept (Kept.set X b j u (N:=fun k=>k≠b) (by simp)) fun k hk e=>by have:=ho.ge k hk;omega,fun p hp=>?_,(hset Bt hB).trans ht,hw.trans hbl,by simpa using hs,KeepsOthers.setCell _ _ _,hbl,fun b9 hb9=>by simp at hb9;subst hb9;exact hset _ hB⟩;rcases hbx p hp with⟨hne,hp2⟩|⟨he,hc⟩
 ·exact⟨(hb p hp2).1,(hset _ hne).trans (hb p hp2).2⟩
 ·rw[he];exact⟨hb2,hc⟩
theorem iq_two {base1 base2 Bt t3 t5 t6:Nat}{w X:World}{out:List Sp}{v:Value}{ax ay p q:Int}{b:Bool}(h12:base1<=base2)(hb1:base1<=t3)(hb2:t3<base2)(hB:Bt≠t3)(h35:t5≠t3)(h36:t6≠t3)
  (ho:OwnG X base2 111 2 v (out.map spC)) (hb:∀ x∈addB t3 t5 t6 ax ay b v,x.1<base2/\X.heap[x.1]? = some (.cells x.2.1 x.2.2 (0,0))) (ht:X.heap[Bt]? = w.heap[Bt]?) (hw:Below base1 w X) (hs:base2<=X.heap.size) :
  KeepsOthers X ((X.setCell ⟨t3,0,none⟩ (.int .i64 p)).setCell ⟨t3,1,none⟩ (.int .i64 q))/\KpA base1 [Bt] X ((X.setCell ⟨t3,0,none⟩ (.int .i64 p)).setCell ⟨t3,1,none⟩ (.int .i64 q))/\
   IQ base1 base2 Bt w out (addB t3 t5 t6 p q b) ((X.setCell ⟨t3,0,none⟩ (.int .i64 p)).setCell ⟨t3,1,none⟩ (.int .i64 q)):=by
 have b3:=(hb (t3,#[.int .i64 ax,.int .i64 ay],111) (by simp[addB])).2;obtain⟨o1,e1,u1,w1,s1,k1,p1⟩:=iq_set (b:=t3) (j:=0) (u:=.int .i64 p) (bx':=addB t3 t5 t6 p ay b) h12 hb1 hb2 hB ho hb ht hw hs (by
  intro x hx;simp only[addB,List.mem_cons,List.mem_nil_iff,or_false] at hx;rcases hx with rfl|rfl|rfl
  ·exact .inl ⟨h35,by simp[addB]⟩
  ·exact .inr ⟨rfl,by simpa using heap_setCell_at X t3 0 (.int .i64 p) _ 111 _ b3⟩
  ·exact .inl ⟨h36,by simp[addB]⟩)
 have b3':=(e1 (t3,#[.int .i64 p,.int .i64 ay],111) (by simp[addB])).2;obtain⟨o2,e2,u2,w2,s2,k2,p2⟩:=iq_set (b:=t3) (j:=1) (u:=.int .i64 q) (bx':=addB t3 t5 t6 p q b) h12 hb1 hb2 hB o1 e1 u1 w1 s1 (by
  intro x hx;simp only[addB,List.mem_cons,List.mem_nil_iff,or_false] at hx;rcases hx with rfl|rfl|rfl
  ·exact .inl ⟨h35,by simp[addB]⟩
  ·exact .inr ⟨rfl,by simpa using heap_setCell_at _ t3 1 (.int .i64 q) _ 111 _ b3'⟩
  ·exact .inl ⟨h36,by simp[addB]⟩)
 exact⟨k1.trans k2,p1.trans p2,v,o2,e2,u2,w2,s2⟩
theorem add_in (n:Nat)(hn:3<=n)(l:List Sp)(s:Sp)(v:Value)(w:World)(hl:l.length<=10000000000)(h:SpS w w.heap.size v l) :
  CallsIn Fence.wide n prog 116 #[v,spV s] w fun e w'=>∃ v',e = .returned v'/\OwnG w' w.heap.size 111 2 v' ((addS l s).map spC)/\Below w.heap.size w w':=by
 have h1:1<=n:=by omega
 obtain⟨oa,sn,sc,rfl⟩:=slG_sh h;obtain⟨sx,sy⟩:=s;have HS:=hid h;have hb1:Below w.heap.size w ((w.alloc (.cells #[.int .i64 sx,.int .i64 sy] 111)).alloc (.cells #[.slice none 0 0] 32)):=(brf.alloc nlr _).alloc (by simp) _;have hq3:((w.alloc (.cells #[.int .i64 sx,.int .i64 sy] 111)).alloc (.cells #[.slice none 0 0] 32)).heap[w.heap.size]? = some (.cells #[.int .i64 sx,.int .i64 sy] 111 (0,0)):=(Below.heap_alloc _ _ _ (by simp)).trans (World.alloc_heap_new w _);have hq5:((w.alloc (.cells #[.int .i64 sx,.int .i64 sy] 111)).alloc (.cells #[.slice none 0 0] 32)).heap[w.heap.size+1]? = some (.cells #[.slice none 0 0] 32 (0,0)):=by
  have:=World.alloc_heap_new (w.alloc (.cells #[.int .i64 sx,.int .i64 sy] 111)) (.cells #[.slice none 0 0] 32);rwa[World.size_alloc] at this
 have hz1:((w.alloc (.cells #[.int .i64 sx,.int .i64 sy] 111)).alloc (.cells #[.slice none 0 0] 32)).heap.size=w.heap.size+2:=by simp
 have H1:=jd4 hb1 hq3 hq5 hz1;clear h hb1 hq3 hq5 hz1;refine callsIn_of_wp_marks func116 rfl trivial ?_ rfl;simp only[ntmps116,List.size_toArray,List.length_cons,List.length_nil,Nat.reduceAdd,Nat.reduceSub,Array.replicate_succ,Array.replicate_zero,List.push_toArray,List.append_toArray,List.nil_append,List.cons_append]
 gi_wp2_with fail
 refine⟨trivial,?_⟩
 gi_at_call 154
 refine(callsIn_wide.2 (may_any (sx,sy) _)).mono ?_;rintro e w2 ⟨rfl,hb2⟩;have H2:=hid hb2;clear hb2
 gi_wp2_with fail
 refine⟨trivial,?_⟩
 gi_at_call 131
 refine(callsIn_wide.2 (all_any oa sn sc _)).mono ?_;rintro e w4 ⟨rfl,hw4⟩
 gi_wp2_with fail
 have hq3:=(H2.out.block _ (by rw[H1.out.2.2.2];omega)).trans H1.out.2.1;have hq5:=(H2.out.block _ (by rw[H1.out.2.2.2];omega)).trans H1.out.2.2.1;have hb12:Below w.heap.size w w2:=H1.out.1.trans (H2.out.mono (by rw[H1.out.2.2.2];omega));have hz2:w.heap.size+2<=w2.heap.size:=by have:=H2.out.size;rw[H1.out.2.2.2] at this;exact this
 have hz4:w4.heap.size=w2.heap.size+2:=by rw[<-hw4];simp
 have hb24:Below w2.heap.size w2 w4:=by rw[<-hw4];exact(brf.alloc nlr _).alloc (by simp) _
 have q3:w4.heap[w.heap.size]? = some (.cells #[.int .i64 sx,.int .i64 sy] 111 (0,0)):=(hb24.block _ (by omega)).trans hq3;have q5:w4.heap[w.heap.size+1]? = some (.cells #[.slice none 0 0] 32 (0,0)):=(hb24.block _ (by omega)).trans hq5;have q6:w4.heap[w2.heap.size]? = some (.cells #[.bool !mayS (sx,sy)] 4 (0,0)):=by rw[<-hw4];exact(Below.heap_alloc _ _ _ (by simp)).trans (World.alloc_heap_new w2 _)
 have qt:w4.heap[w2.heap.size+1]? = some (.cells #[.slice oa sn sc] 32 (0,0)):=by
  rw[<-hw4];have:=World.alloc_heap_new (w2.alloc (.cells #[.bool !mayS (sx,sy)] 4)) (.cells #[.slice oa sn sc] 32);rwa[World.size_alloc] at this
 have hb4:Below w.heap.size w w4:=hb12.trans (hb24.mono (by omega));have hS4:=HS.out.below hb4 nlr;have hseq:=all_stops (n-1) (by omega) (w2.heap.size+1) w.heap.size (.slice oa sn sc) l hl w4 (by simp[World.cell?,qt]) (by omega) (by omega) hS4;obtain⟨base2,hbase⟩:∃ x,x=w4.heap.size:=⟨_,rfl⟩
 obtain⟨t6,ht6⟩:∃ x,x=w2.heap.size:=⟨_,rfl⟩
 obtain⟨t5,ht5⟩:∃ x,x=w.heap.size+1:=⟨_,rfl⟩
 obtain⟨t3,ht3⟩:∃ x,x=w.heap.size:=⟨_,rfl⟩
 have hpos:t3<base2/\t5<base2/\t6<base2/\t6+1<base2/\t3<t5/\t5<t6/\w.heap.size<=base2/\w.heap.size<=t5/\w.heap.size<=t3/\w.heap.size<=t6:=by omega
 rw[<-ht6] at q6 qt hseq;rw[<-ht5] at q5;rw[<-ht3] at q3;have HQ:=jd6 q3 q5 q6 qt hb4 hbase;rw[<-ht6,<-ht5,<-ht3];clear hq3 hq5 hb12 hz2 hz4 hb24 q3 q5 q6 qt hb4 hS4 hw4 ht6 ht5 ht3 hbase H1 H2;obtain⟨p1,p2,p3,p4,p5,p6,p7,p8,p9,p10⟩:=hpos;refine wpIn_rangeFunc_ownH rfl h1 (gf:=158) (lb := #[.pointer (some ⟨t6+1,0,none⟩)]) rfl trivial (enters_of func158 (by kernel_rfl) rfl) hseq KpA.trans (KpA.putObj (by have:=HQ.out.2.2.2.2.2;omega) (by have:=HQ.out.2.2.2.2.2;simp;omega)) brf (fun _=>rfl)
  (fun pre W=>IQ w.heap.size base2 (t6+1) w4 (addI (sx,sy) pre).out (addB t3 t5 t6 (addI (sx,sy) pre).s.1 (addI (sx,sy) pre).s.2 (addI (sx,sy) pre).laid) W)
  (fun _ _ _=>False)
  (iq_from HQ.out.2.2.2.1 (by have:=HQ.out.2.2.2.2.2;omega) (by have:=HQ.out.2.2.2.2.2;omega))
  (fun _ _ _ _ _ hs _ _=>hs)
  ⟨.slice none 0 0,OwnG.nil _ _ _ _,fun p hp=>by
   simp only[addB,addI,List.foldl_nil,List.mem_cons,List.mem_nil_iff,or_false] at hp;rcases hp with rfl|rfl|rfl
   ·exact⟨p2,HQ.out.2.1⟩
   ·exact⟨p1,HQ.out.1⟩
   ·exact⟨p3,HQ.out.2.2.1⟩,rfl,brf,by rw[HQ.out.2.2.2.2.2];exact nlr⟩
  (fun x a' W=>∃ Bx,W.heap[Bx]? = some (.cells #[.int .i64 x.1,.int .i64 x.2] 111 (0,0))/\base2<=Bx/\a'={tmps := #[.slice oa sn sc,.agg #[.int .i64 sx,.int .i64 sy],undef,.pointer (some ⟨t3,0,none⟩),.slice none 0 0,.pointer (some ⟨t5,0,none⟩),.pointer (some ⟨t6,0,none⟩),.pointer (some ⟨Bx,0,none⟩),.agg #[.int .i64 sx,.int .i64 sy],.bool (mayS (sx,sy)),.bool !mayS (sx,sy),.slice oa sn sc,.func (.func 158) #[] #[.pointer (some ⟨t6+1,0,none⟩)],.agg #[.int .i64 x.1,.int .i64 x.2],undef,undef,undef,undef,undef,undef,undef,undef,undef,undef,undef,undef,undef,undef,undef,undef,undef,undef,undef,undef,undef,undef,undef,undef,undef,undef,undef,undef,undef,undef,undef,undef,undef,undef,undef,undef,undef,undef,undef,undef,undef,undef,undef,undef,undef,undef,undef,undef,undef,undef,undef,undef,undef,undef,undef,undef,undef],defers:=[]})
  (fun x a' _ X Y row hs hg hr=>by
   obtain⟨Bx,h2,h4,h3⟩:=hs;exact⟨Bx,cells_kept hg (fun r e=>(hr r e).2) h2,h4,h3⟩)
  ?assign ?body ?done ?stop
 case assign =>
  rintro lp pre x W K' ⟨v,ho,hb,ht,hw,hs⟩ hK;obtain⟨x,y⟩:=x;have hbA:Below W.heap.size W (W.alloc (.cells #[.int .i64 x,.int .i64 y] 111)):=brf.alloc nlr _;obtain⟨ho2,hb2,ht2,hw2,hs2,hk2,hkp2⟩:=iq_below p7 p4 ho hb ht hw hs hbA;have HF:=jd7 ho2 hb2 ht2 hw2 hs2 hk2 hkp2;clear ho hb ht hw ho2 hb2 ht2 hw2 hs2 hk2 hkp2 hbA
  gi_wp2
  exact hK _ _ (HF.out.2.2.2.2.2.1.from _) HF.out.2.2.2.2.2.2 ⟨v,HF.out.1,HF.out.2.1,HF.out.2.2.1,HF.out.2.2.2.1,HF.out.2.2.2.2.1⟩ ⟨W.heap.size,World.alloc_heap_new W _,hs,rfl⟩
 case body =>
  rintro lp pre x a' W hlp ⟨r,hr⟩ ⟨v,ho,hb,ht,hw,hs⟩ ⟨Bx,bX,hBx,rfl⟩ hlt2;obtain⟨x,y⟩:=x;simp only;have hal:=addI_len (sx,sy) pre;have HI0:=addI_succ (sx,sy) pre (x,y);obtain⟨A,hA⟩:∃ A,A=addI (sx,sy) pre:=⟨_,rfl⟩
  rw[<-hA] at ho hb hal HI0;clear hA;have HI:Hid (∀ W',IQ w.heap.size base2 (t6+1) w4 (addR A (x,y)).out (addB t3 t5 t6 (addR A (x,y)).s.1 (addR A (x,y)).s.2 (addR A (x,y)).laid) W'->IQ w.heap.size base2 (t6+1) w4 (addI (sx,sy) (pre++[(x,y)])).out (addB t3 t5 t6 (addI (sx,sy) (pre++[(x,y)])).s.1 (addI (sx,sy) (pre++[(x,y)])).s.2 (addI (sx,sy) (pre++[(x,y)])).laid) W'):=hid fun W' h=>by rw[HI0];exact h
  clear HI0;obtain⟨⟨ax,ay⟩,hAs⟩:∃ p,A.s=p:=⟨_,rfl⟩
  rw[hAs] at hb;have b5:=(hb (t5,#[v],32) (by simp[addB])).2;have b3:=(hb (t3,#[.int .i64 ax,.int .i64 ay],111) (by simp[addB])).2;have b6:=(hb (t6,#[.bool A.laid],4) (by simp[addB])).2;obtain⟨va,vn,vc,rfl⟩:=ownG_sh2 ho;have hcells:∀ X:World,Below W.heap.size W X->X.cell? ⟨t5,0,none⟩=some (.slice va vn vc)/\X.cell? ⟨t3,0,none⟩=some (.int .i64 ax)/\X.cell? ⟨t3,1,none⟩=some (.int .i64 ay)/\X.cell? ⟨t6,0,none⟩=some (.bool A.laid)/\X.cell? ⟨Bx,0,none⟩=some (.int .i64 x)/\X.cell? ⟨Bx,1,none⟩=some (.int .i64 y):=fun X hX=>by
   have e5:=(hX.block _ (blk_lt b5)).trans b5;have e3:=(hX.block _ (blk_lt b3)).trans b3;have e6:=(hX.block _ (blk_lt b6)).trans b6;have eX:=(hX.block _ (blk_lt bX)).trans bX;refine⟨?_,?_,?_,?_,?_,?_⟩<;>simp[World.cell?,e5,e3,e6,eX]
  have HC:=hid hcells;have HX:=jd7 ho hb ht hw hs b3 b6;clear ho hb ht hw b5 b3 b6 bX hcells hr;obtain⟨c5,c3,c3',c6,x0,x1⟩:=HC.out W brf;cases hld:A.laid
  ·rw[hld] at c6 HX;have HL:=hid hld;clear hld
   gi_wp2_with fail
   refine⟨trivial,?_⟩;by_cases h2:y<ax
   ·have HR:Hid (addR A (x,y)={A with out:=A.out++[(x,y)]}):=hid (by unfold addR;rw[HL.out,hAs];simp[h2]);have t2:decide (y<ax)=true:=by simpa using h2
    have hAs2:=hid hAs;clear hAs;have hbA:Below W.heap.size W (W.alloc (.cells #[.int .i64 x,.int .i64 y] 111)):=brf.alloc nlr _;have hoA:=HX.out.1.below hbA nlr;have hcl:∀ j u,([spC (x,y)].flatten:List Value)[j]? = some u->(W.alloc (.cells #[.int .i64 x,.int .i64 y] 111)).cell? ⟨W.heap.size,j,none⟩=some u:=by
     intro j u hu;rw[World.cell?_alloc_at _ _ _ _ rfl];simpa using hu
    have hbs:base2<=(W.alloc (.cells #[.int .i64 x,.int .i64 y] 111)).heap.size:=Nat.le_trans HX.out.2.2.2.2.1 hbA.size;have HG:=jd3 hoA hcl hbs;clear hbA hoA hcl hbs
    gi_wp2_with (gi_at_builtin;refine append_gi _ rfl _ _ 32 111 _ 2 16 rfl underlying32 info111 rfl (by decide) base2 _ (A.out.map spC) rfl HG.out.1 W.heap.size 1 1 [spC (x,y)] rfl rfl (by simp) HG.out.2.1 (by intro u hu;simp at hu;rcases hu with rfl|rfl<;>rfl) (by rw[List.length_map];omega) (by rw[List.length_map];omega) HG.out.2.2 ?_)
    intro v' w1 ho' hg' hb';obtain⟨ga,gn,gc,rfl⟩:=ownG_sh2 ho';obtain⟨c5',f5',hk9,hkp9,hiq9⟩:=iq_app (t5:=t5) (news:=[(x,y)]) (bx':=addB t3 t5 t6 ax ay false) HQ.out.2.2.2.1 p7 p8 p4 (by omega) HX.out.1 HX.out.2.1 HX.out.2.2.1 HX.out.2.2.2.1 HX.out.2.2.2.2.1 (by simp[addB]) ho' hg' hb' (addB_bx (by omega) (by omega));have HZ:=jd3 (hk9) (hkp9) hiq9;clear hk9 hkp9 hiq9 ho' hg' hb'
    gi_wp2
    exact⟨HZ.out.1.from _,HZ.out.2.1,HI.out _ (by rw[HR.out];simp only;rw[hAs2.out,HL.out];exact HZ.out.2.2)⟩
   ·have t2:decide (y<ax)=false:=by simpa using h2
    by_cases h3:ay<x
    ·have HR:Hid (addR A (x,y)={A with out:=A.out++[(ax,ay),(x,y)],laid:=true}):=hid (by unfold addR;rw[HL.out,hAs];simp[h2,h3]);have t3':decide (ay<x)=true:=by simpa using h3
     have hAs2:=hid hAs;clear hAs;have hbA:Below W.heap.size W (W.alloc (.cells #[.int .i64 ax,.int .i64 ay,.int .i64 x,.int .i64 y] 111)):=brf.alloc nlr _;have hoA:=HX.out.1.below hbA nlr;have hcl:∀ j u,([spC (ax,ay),spC (x,y)].flatten:List Value)[j]? = some u->(W.alloc (.cells #[.int .i64 ax,.int .i64 ay,.int .i64 x,.int .i64 y] 111)).cell? ⟨W.heap.size,j,none⟩=some u:=by
      intro j u hu;rw[World.cell?_alloc_at _ _ _ _ rfl];simpa using hu
     have hbs:base2<=(W.alloc (.cells #[.int .i64 ax,.int .i64 ay,.int .i64 x,.int .i64 y] 111)).heap.size:=Nat.le_trans HX.out.2.2.2.2.1 hbA.size;have HG:=jd3 hoA hcl hbs;clear hbA hoA hcl hbs
     gi_wp2_with (gi_at_builtin;refine append_gi _ rfl _ _ 32 111 _ 2 16 rfl underlying32 info111 rfl (by decide) base2 _ (A.out.map spC) rfl HG.out.1 W.heap.size 2 2 [spC (ax,ay),spC (x,y)] rfl rfl (by simp) HG.out.2.1 (by intro u hu;simp at hu;rcases hu with rfl|rfl|rfl|rfl<;>rfl) (by rw[List.length_map];omega) (by rw[List.length_map];omega) HG.out.2.2 ?_)
     intro v' w1 ho' hg' hb';obtain⟨ga,gn,gc,rfl⟩:=ownG_sh2 ho';obtain⟨c5',f5',hk9,hkp9,hiq9⟩:=iq_app (t5:=t5) (news:=[(ax,ay),(x,y)]) (bx':=addB t3 t5 t6 ax ay false) HQ.out.2.2.2.1 p7 p8 p4 (by omega) HX.out.1 HX.out.2.1 HX.out.2.2.1 HX.out.2.2.2.1 HX.out.2.2.2.2.1 (by simp[addB]) ho' hg' hb' (addB_bx (by omega) (by omega));have HZ:=jd3 (hk9) (hkp9) hiq9;clear hk9 hkp9 hiq9 ho' hg' hb';obtain⟨v2,ho2,hb2,ht2,hw2,hs2⟩:=HZ.out.2.2;have b6':=(hb2 (t6,#[.bool false],4) (by simp[addB])).2;have hst:=iq_set (b:=t6) (j:=0) (u:=.bool true) (bx':=addB t3 t5 t6 ax ay true) p7 p10 p3 (by omega) ho2 hb2 ht2 hw2 hs2 (by
      intro p hp;simp only[addB,List.mem_cons,List.mem_nil_iff,or_false] at hp;rcases hp with rfl|rfl|rfl
      ·exact .inl ⟨by simp only;omega,by simp[addB]⟩
      ·exact .inl ⟨by simp only;omega,by simp[addB]⟩
      ·exact .inr ⟨rfl,Boxed.set _ b6'⟩)
     have c6':(w1.setCell ⟨t5,0,none⟩ (.slice ga gn gc)).cell? ⟨t6,0,none⟩=some (.bool false):=Boxed.cell b6';have f6':(w1.setCell ⟨t5,0,none⟩ (.slice ga gn gc)).frozen? ⟨t6,0,none⟩=false:=Boxed.frozen b6';have HW:=hid hst;clear hst ho2 hb2 ht2 hw2 hs2 b6'
     gi_wp2
     exact⟨(HZ.out.1.trans HW.out.2.2.2.2.2.1).from _,HZ.out.2.1.trans HW.out.2.2.2.2.2.2,HI.out _ (by rw[HR.out];simp only;rw[hAs2.out];exact⟨_,HW.out.1,HW.out.2.1,HW.out.2.2.1,HW.out.2.2.2.1,HW.out.2.2.2.2.1⟩)⟩
    ·have HR:Hid (addR A (x,y)={A with s:=(min ax x,max ay y)}):=hid (by unfold addR;rw[HL.out,hAs];simp[h2,h3]);have t3':decide (ay<x)=false:=by simpa using h3
     have hAs2:=hid hAs;clear hAs;have HD:Hid (∀ p q,p=min ax x->q=max ay y->KeepsOthers W ((W.setCell ⟨t3,0,none⟩ (.int .i64 p)).setCell ⟨t3,1,none⟩ (.int .i64 q))/\KpA w.heap.size [t6+1] W ((W.setCell ⟨t3,0,none⟩ (.int .i64 p)).setCell ⟨t3,1,none⟩ (.int .i64 q))/\
       IQ w.heap.size base2 (t6+1) w4 (addI (sx,sy) (pre++[(x,y)])).out (addB t3 t5 t6 (addI (sx,sy) (pre++[(x,y)])).s.1 (addI (sx,sy) (pre++[(x,y)])).s.2 (addI (sx,sy) (pre++[(x,y)])).laid) ((W.setCell ⟨t3,0,none⟩ (.int .i64 p)).setCell ⟨t3,1,none⟩ (.int .i64 q))):=hid fun p q hp hq=>by
      obtain⟨k9,p9,i9⟩:=iq_two (p:=p) (q:=q) p7 p9 p1 (by omega) (by omega) (by omega) HX.out.1 HX.out.2.1 HX.out.2.2.1 HX.out.2.2.2.1 HX.out.2.2.2.2.1;exact⟨k9,p9,HI.out _ (by rw[HR.out];simp only;rw[HL.out,<-hp,<-hq];exact i9)⟩
     have f3:W.frozen? ⟨t3,0,none⟩=false:=by simp[World.frozen?,HX.out.2.2.2.2.2.1]
     have f31:W.frozen? ⟨t3,1,none⟩=false:=by simp[World.frozen?,HX.out.2.2.2.2.2.1]
     gi_wp2_with fail
     all_goals
      refine⟨(HD.out _ _ ?_ ?_).1.from _,(HD.out _ _ ?_ ?_).2.1,(HD.out _ _ ?_ ?_).2.2⟩<;>omega
  ·rw[hld] at c6 HX;have HL:=hid hld;clear hld;have hm0:=may_any (ax,ay) W
   gi_wp2_with fail
   refine⟨trivial,fun _=>by omega,?_⟩;refine(CallsIn.inRound lp (callsIn_wide.2 hm0)).mono ?_;rintro e wm ⟨rfl,hbm⟩;clear hm0 c5 c3 c3' c6 x0 x1;obtain⟨c5,c3,c3',c6,x0,x1⟩:=HC.out wm hbm;have b3m:=hid ((hbm.block _ (blk_lt HX.out.2.2.2.2.2.1)).trans HX.out.2.2.2.2.2.1);have HM:=hid (iq_below p7 p4 HX.out.1 HX.out.2.1 HX.out.2.2.1 HX.out.2.2.2.1 HX.out.2.2.2.2.1 hbm);clear hbm;cases hmy:mayS (ax,ay)
   ·have HR:Hid (addR A (x,y)={A with out:=A.out++[(x,y)]}):=hid (by unfold addR;rw[HL.out,hAs,hmy];simp);clear hmy;have hAs2:=hid hAs;clear hAs;have hbA:Below wm.heap.size wm (wm.alloc (.cells #[.int .i64 x,.int .i64 y] 111)):=brf.alloc nlr _;have hoA:=HM.out.1.below hbA nlr;have hcl:∀ j u,([spC (x,y)].flatten:List Value)[j]? = some u->(wm.alloc (.cells #[.int .i64 x,.int .i64 y] 111)).cell? ⟨wm.heap.size,j,none⟩=some u:=by
     intro j u hu;rw[World.cell?_alloc_at _ _ _ _ rfl];simpa using hu
    have hbs:base2<=(wm.alloc (.cells #[.int .i64 x,.int .i64 y] 111)).heap.size:=Nat.le_trans HM.out.2.2.2.2.1 hbA.size;have HG:=jd3 hoA hcl hbs;clear hbA hoA hcl hbs
    gi_wp2_with (gi_at_builtin;refine append_gi _ rfl _ _ 32 111 _ 2 16 rfl underlying32 info111 rfl (by decide) base2 _ (A.out.map spC) rfl HG.out.1 wm.heap.size 1 1 [spC (x,y)] rfl rfl (by simp) HG.out.2.1 (by intro u hu;simp at hu;rcases hu with rfl|rfl<;>rfl) (by rw[List.length_map];omega) (by rw[List.length_map];omega) HG.out.2.2 ?_)
    intro v' w1 ho' hg' hb';obtain⟨ga,gn,gc,rfl⟩:=ownG_sh2 ho';obtain⟨c5',f5',hk9,hkp9,hiq9⟩:=iq_app (t5:=t5) (news:=[(x,y)]) (bx':=addB t3 t5 t6 ax ay true) HQ.out.2.2.2.1 p7 p8 p4 (by omega) HM.out.1 HM.out.2.1 HM.out.2.2.1 HM.out.2.2.2.1 HM.out.2.2.2.2.1 (by simp[addB]) ho' hg' hb' (addB_bx (by omega) (by omega));have HZ:=jd3 (HM.out.2.2.2.2.2.1.trans hk9) (HM.out.2.2.2.2.2.2.trans hkp9) hiq9;clear hk9 hkp9 hiq9 ho' hg' hb'
    gi_wp2
    exact⟨HZ.out.1.from _,HZ.out.2.1,HI.out _ (by rw[HR.out];simp only;rw[hAs2.out,HL.out];exact HZ.out.2.2)⟩
   ·by_cases h4:ay<x
    ·have HR:Hid (addR A (x,y)={A with out:=A.out++[(x,y)]}):=hid (by unfold addR;rw[HL.out,hAs,hmy];simp[h4]);have t4:decide (ay<x)=true:=by simpa using h4
     clear hmy;have hAs2:=hid hAs;clear hAs;have hbA:Below wm.heap.size wm (wm.alloc (.cells #[.int .i64 x,.int .i64 y] 111)):=brf.alloc nlr _;have hoA:=HM.out.1.below hbA nlr;have hcl:∀ j u,([spC (x,y)].flatten:List Value)[j]? = some u->(wm.alloc (.cells #[.int .i64 x,.int .i64 y] 111)).cell? ⟨wm.heap.size,j,none⟩=some u:=by
      intro j u hu;rw[World.cell?_alloc_at _ _ _ _ rfl];simpa using hu
     have hbs:base2<=(wm.alloc (.cells #[.int .i64 x,.int .i64 y] 111)).heap.size:=Nat.le_trans HM.out.2.2.2.2.1 hbA.size;have HG:=jd3 hoA hcl hbs;clear hbA hoA hcl hbs
     gi_wp2_with (gi_at_builtin;refine append_gi _ rfl _ _ 32 111 _ 2 16 rfl underlying32 info111 rfl (by decide) base2 _ (A.out.map spC) rfl HG.out.1 wm.heap.size 1 1 [spC (x,y)] rfl rfl (by simp) HG.out.2.1 (by intro u hu;simp at hu;rcases hu with rfl|rfl<;>rfl) (by rw[List.length_map];omega) (by rw[List.length_map];omega) HG.out.2.2 ?_)
     intro v' w1 ho' hg' hb';obtain⟨ga,gn,gc,rfl⟩:=ownG_sh2 ho';obtain⟨c5',f5',hk9,hkp9,hiq9⟩:=iq_app (t5:=t5) (news:=[(x,y)]) (bx':=addB t3 t5 t6 ax ay true) HQ.out.2.2.2.1 p7 p8 p4 (by omega) HM.out.1 HM.out.2.1 HM.out.2.2.1 HM.out.2.2.2.1 HM.out.2.2.2.2.1 (by simp[addB]) ho' hg' hb' (addB_bx (by omega) (by omega));have HZ:=jd3 (HM.out.2.2.2.2.2.1.trans hk9) (HM.out.2.2.2.2.2.2.trans hkp9) hiq9;clear hk9 hkp9 hiq9 ho' hg' hb'
     gi_wp2
     exact⟨HZ.out.1.from _,HZ.out.2.1,HI.out _ (by rw[HR.out];simp only;rw[hAs2.out,HL.out];exact HZ.out.2.2)⟩
    ·have t4:decide (ay<x)=false:=by simpa using h4
     by_cases h2:y<ax
     ·have HR:Hid (addR A (x,y)={A with out:=A.out++[(x,y)]}):=hid (by unfold addR;rw[HL.out,hAs,hmy];simp[h4,h2]);have t2:decide (y<ax)=true:=by simpa using h2
      clear hmy;have hAs2:=hid hAs;clear hAs;have hbA:Below wm.heap.size wm (wm.alloc (.cells #[.int .i64 x,.int .i64 y] 111)):=brf.alloc nlr _;have hoA:=HM.out.1.below hbA nlr;have hcl:∀ j u,([spC (x,y)].flatten:List Value)[j]? = some u->(wm.alloc (.cells #[.int .i64 x,.int .i64 y] 111)).cell? ⟨wm.heap.size,j,none⟩=some u:=by
       intro j u hu;rw[World.cell?_alloc_at _ _ _ _ rfl];simpa using hu
      have hbs:base2<=(wm.alloc (.cells #[.int .i64 x,.int .i64 y] 111)).heap.size:=Nat.le_trans HM.out.2.2.2.2.1 hbA.size;have HG:=jd3 hoA hcl hbs;clear hbA hoA hcl hbs
      gi_wp2_with (gi_at_builtin;refine append_gi _ rfl _ _ 32 111 _ 2 16 rfl underlying32 info111 rfl (by decide) base2 _ (A.out.map spC) rfl HG.out.1 wm.heap.size 1 1 [spC (x,y)] rfl rfl (by simp) HG.out.2.1 (by intro u hu;simp at hu;rcases hu with rfl|rfl<;>rfl) (by rw[List.length_map];omega) (by rw[List.length_map];omega) HG.out.2.2 ?_)
      intro v' w1 ho' hg' hb';obtain⟨ga,gn,gc,rfl⟩:=ownG_sh2 ho';obtain⟨c5',f5',hk9,hkp9,hiq9⟩:=iq_app (t5:=t5) (news:=[(x,y)]) (bx':=addB t3 t5 t6 ax ay true) HQ.out.2.2.2.1 p7 p8 p4 (by omega) HM.out.1 HM.out.2.1 HM.out.2.2.1 HM.out.2.2.2.1 HM.out.2.2.2.2.1 (by simp[addB]) ho' hg' hb' (addB_bx (by omega) (by omega));have HZ:=jd3 (HM.out.2.2.2.2.2.1.trans hk9) (HM.out.2.2.2.2.2.2.trans hkp9) hiq9;clear hk9 hkp9 hiq9 ho' hg' hb'
      gi_wp2
      exact⟨HZ.out.1.from _,HZ.out.2.1,HI.out _ (by rw[HR.out];simp only;rw[hAs2.out,HL.out];exact HZ.out.2.2)⟩
     ·have HR:Hid (addR A (x,y)={A with s:=(min ax x,max ay y)}):=hid (by unfold addR;rw[HL.out,hAs,hmy];simp[h4,h2]);have t2:decide (y<ax)=false:=by simpa using h2
      clear hmy;have hAs2:=hid hAs;clear hAs;have HD:Hid (∀ p q,p=min ax x->q=max ay y->KeepsOthers W ((wm.setCell ⟨t3,0,none⟩ (.int .i64 p)).setCell ⟨t3,1,none⟩ (.int .i64 q))/\KpA w.heap.size [t6+1] W ((wm.setCell ⟨t3,0,none⟩ (.int .i64 p)).setCell ⟨t3,1,none⟩ (.int .i64 q))/\
        IQ w.heap.size base2 (t6+1) w4 (addI (sx,sy) (pre++[(x,y)])).out (addB t3 t5 t6 (addI (sx,sy) (pre++[(x,y)])).s.1 (addI (sx,sy) (pre++[(x,y)])).s.2 (addI (sx,sy) (pre++[(x,y)])).laid) ((wm.setCell ⟨t3,0,none⟩ (.int .i64 p)).setCell ⟨t3,1,none⟩ (.int .i64 q))):=hid fun p q hp hq=>by
       obtain⟨k9,p9,i9⟩:=iq_two (p:=p) (q:=q) p7 p9 p1 (by omega) (by omega) (by omega) HM.out.1 HM.out.2.1 HM.out.2.2.1 HM.out.2.2.2.1 HM.out.2.2.2.2.1;exact⟨HM.out.2.2.2.2.2.1.trans k9,HM.out.2.2.2.2.2.2.trans p9,HI.out _ (by rw[HR.out];simp only;rw[HL.out,<-hp,<-hq];exact i9)⟩
      have f3:wm.frozen? ⟨t3,0,none⟩=false:=by simp[World.frozen?,b3m.out]
      have f31:wm.frozen? ⟨t3,1,none⟩=false:=by simp[World.frozen?,b3m.out]
      gi_wp2_with fail
      all_goals
       refine⟨(HD.out _ _ ?_ ?_).1.from _,(HD.out _ _ ?_ ?_).2.1,(HD.out _ _ ?_ ?_).2.2⟩<;>omega
 case done =>
  rintro D zs W hD rfl ⟨v,ho,hb,ht,hw,hs⟩ hK;have hal:=addI_len (sx,sy) (allS l);have hzl:(allS l).length<=l.length:=by unfold allS;split<;>simp
  have HI0:addS l (sx,sy)=if (addI (sx,sy) (allS l)).laid then(addI (sx,sy) (allS l)).out else(addI (sx,sy) (allS l)).out++[(addI (sx,sy) (allS l)).s]:=rfl
  obtain⟨A,hA⟩:∃ A,A=addI (sx,sy) (allS l):=⟨_,rfl⟩
  rw[<-hA] at ho hb hal HI0;clear hA;obtain⟨⟨ax,ay⟩,hAs⟩:∃ p,A.s=p:=⟨_,rfl⟩
  rw[hAs] at hb HI0;have b5:=(hb (t5,#[v],32) (by simp[addB])).2;have b3:=(hb (t3,#[.int .i64 ax,.int .i64 ay],111) (by simp[addB])).2;have b6:=(hb (t6,#[.bool A.laid],4) (by simp[addB])).2;obtain⟨va,vn,vc,rfl⟩:=ownG_sh2 ho;have c5:W.cell? ⟨t5,0,none⟩=some (.slice va vn vc):=by simp[World.cell?,b5]
  have c3:W.cell? ⟨t3,0,none⟩=some (.int .i64 ax):=by simp[World.cell?,b3]
  have c3':W.cell? ⟨t3,1,none⟩=some (.int .i64 ay):=by simp[World.cell?,b3]
  have c6:W.cell? ⟨t6,0,none⟩=some (.bool A.laid):=by simp[World.cell?,b6]
  have hb4:Below w.heap.size w w4:=HQ.out.2.2.2.2.1;have HX:=jd8 ho hb ht hw hs HI0 hK (hb4.trans hw);clear ho hb ht hw b5 b3 b6 HI0 hK hb4 hAs;cases hld:A.laid
  ·rw[hld] at c6 HX;have hbA:Below W.heap.size W (W.alloc (.cells #[.int .i64 ax,.int .i64 ay] 111)):=brf.alloc nlr _;have hoA:=HX.out.1.below hbA nlr;have hcl:∀ j u,([spC (ax,ay)].flatten:List Value)[j]? = some u->(W.alloc (.cells #[.int .i64 ax,.int .i64 ay] 111)).cell? ⟨W.heap.size,j,none⟩=some u:=by
    intro j u hu;rw[World.cell?_alloc_at _ _ _ _ rfl];simpa using hu
   have hbs:base2<=(W.alloc (.cells #[.int .i64 ax,.int .i64 ay] 111)).heap.size:=Nat.le_trans HX.out.2.2.2.2.1 hbA.size;have HG:=jd3 hoA hcl hbs;clear hbA hoA hcl hbs
   gi_wp2_with (gi_at_builtin;refine append_gi _ rfl _ _ 32 111 _ 2 16 rfl underlying32 info111 rfl (by decide) base2 _ (A.out.map spC) rfl HG.out.1 W.heap.size 1 1 [spC (ax,ay)] rfl rfl (by simp) HG.out.2.1 (by intro u hu;simp at hu;rcases hu with rfl|rfl<;>rfl) (by rw[List.length_map];omega) (by rw[List.length_map];omega) HG.out.2.2 ?_)
   intro v' w1 ho' hg' hb';obtain⟨ga,gn,gc,rfl⟩:=ownG_sh2 ho';obtain⟨c5',f5',hk9,hkp9,hiq9⟩:=iq_app (t5:=t5) (news:=[(ax,ay)]) (bx':=addB t3 t5 t6 ax ay false) HQ.out.2.2.2.1 p7 p8 p4 (by omega) HX.out.1 HX.out.2.1 HX.out.2.2.1 HX.out.2.2.2.1 HX.out.2.2.2.2.1 (by simp[addB]) ho' hg' hb' (addB_bx (by omega) (by omega));obtain⟨v2,ho2,hb2,ht2,hw2,hs2⟩:=hiq9;have b5':=(hb2 (t5,#[.slice ga gn gc],32))
   have c55:(w1.setCell ⟨t5,0,none⟩ (.slice ga gn gc)).cell? ⟨t5,0,none⟩=some (.slice ga gn gc):=by
    have h5:w1.heap[t5]? = some (.cells #[.slice va vn vc] 32 (0,0)):=by
     have h0:=(HX.out.2.1 (t5,#[.slice va vn vc],32) (by simp[addB])).2;have hA:(W.alloc (.cells #[.int .i64 ax,.int .i64 ay] 111)).heap[t5]? = W.heap[t5]? := Below.heap_alloc W _ _ (by omega);exact(hb'.block t5 p2).trans (hA.trans h0)
    exact Boxed.cell (Boxed.set (.slice ga gn gc) h5)
   have hoF:OwnG (w1.setCell ⟨t5,0,none⟩ (.slice ga gn gc)) base2 111 2 (.slice ga gn gc) ((A.out++[(ax,ay)]).map spC):=by
    rw[List.map_append];refine ho'.kept (Kept.set w1 t5 0 (.slice ga gn gc) (N:=fun k=>k≠t5) (by simp)) fun k hk e=>?_;have:=ho'.ge k hk;omega
   have hKF:=hk9.same D _ HX.out.2.2.2.2.2.2.1 rfl;have HZ:=jd3 hoF hKF hkp9;clear hk9 hkp9 ho2 hb2 ht2 hw2 hs2 hoF hKF ho' hg' hb' b5'
   gi_wp2
   refine⟨by simp,.inl ⟨_,_,rfl,run_takeDeferred HZ.out.2.1,?_⟩⟩;refine⟨_,results_tmp rfl _ _ _,_,rfl,?_,(HX.out.2.2.2.2.2.2.2.trans HZ.out.2.2.1).trans (belowK_b (w:=w4) (by have:=HQ.out.2.2.2.2.2;omega) _ D _ _ hD HZ.out.2.1 rfl rfl)⟩;have h9:=HZ.out.1.any_base p7;rw[HX.out.2.2.2.2.2.1];simp only[Bool.false_eq_true,if_false];exact⟨ownsRow_putObj h9.1 _ HZ.out.2.1 rfl,h9.2⟩
  ·rw[hld] at c6 HX;clear c3 c3'
   gi_wp2
   refine⟨by simp,.inl ⟨_,_,rfl,run_takeDeferred HX.out.2.2.2.2.2.2.1,?_⟩⟩;refine⟨_,results_tmp rfl _ _ _,_,rfl,?_,HX.out.2.2.2.2.2.2.2.trans (belowK_b (w:=w4) (by have:=HQ.out.2.2.2.2.2;omega) _ D _ _ hD HX.out.2.2.2.2.2.2.1 rfl rfl)⟩;have h9:=HX.out.1.any_base p7;rw[HX.out.2.2.2.2.2.1];simp only[if_true];exact⟨ownsRow_putObj h9.1 _ HX.out.2.2.2.2.2.2.1 rfl,h9.2⟩
 case stop =>
  rintro D c pre W _ _ h _;exact h.elim
theorem add_any (l:List Sp)(s:Sp)(v:Value)(w:World)(hl:l.length<=10000000000)(h:SpS w w.heap.size v l) :
  Calls prog 116 #[v,spV s] w fun e w'=>∃ v',e = .returned v'/\OwnG w' w.heap.size 111 2 v' ((addS l s).map spC)/\Below w.heap.size w w' :=
 callsIn_wide.1 (add_in 5 (by omega) l s v w hl h)
end Go.Proofs.YtgkabcaodnofnaaGreat
namespace Go.Mx
open Go.RowKit
theorem OwnG.empty (w:World)(e:TypeId)(s:Nat):OwnG (w.alloc (.cells #[] e)) w.heap.size e s (.slice (some ⟨w.heap.size,0,none⟩) 0 0) [] :=
 ⟨World.ownsRow_made w #[] 0 nlr (by simp[maxLen]) (by simp),by simp⟩
theorem flat_len {s:Nat}:∀ (l:List (List Value)),(∀ r∈l,r.length=s)->l.flatten.length=l.length*s
 | [],_=>by simp
 | r :: l,h=>by rw[List.flatten_cons,List.length_append,h r (by simp),flat_len l fun x hx=>h x (by simp[hx]),List.length_cons,Nat.succ_mul];omega
theorem toList_set {α:Type}(a:Array α)(i:Nat)(x:α):(a.setIfInBounds i x).toList=a.toList.set i x:=by simp
theorem heap_setCells_at:∀ (vs:List Value)(w:World)(g o:Nat)(cur:Array Value)(e:TypeId)(fr:Nat×Nat),w.heap[g]? = some (.cells cur e fr)->o+vs.length<=cur.size->
  ∃ cur':Array Value,(w.setCells g o vs).heap[g]? = some (.cells cur' e fr)/\cur'.toList=cur.toList.take o++(vs++cur.toList.drop (o+vs.length))
 | [],w,g,o,cur,e,fr,h,_=>⟨cur,h,by simp⟩
 | v :: r,w,g,o,cur,e,fr,h,hl=>by
  simp only[List.length_cons] at hl;obtain⟨cur',h1,h2⟩:=heap_setCells_at r (w.setCell ⟨g,o,none⟩ v) g (o+1) (cur.setIfInBounds o v) e fr (heap_setCell_at' w g o v cur e fr h) (by simp;omega);refine⟨cur',h1,?_⟩;have hol:o<cur.toList.length:=by simp;omega
  have e1:(cur.toList.set o v).take (o+1)=cur.toList.take o++[v]:=by
   rw[List.take_add_one,List.take_set_of_le nlr,List.getElem?_set_self (by omega)];rfl
  have e2:(cur.toList.set o v).drop (o+1+r.length)=cur.toList.drop (o+1+r.length):=by
   rw[List.drop_set];rw[if_pos (by omega)]
  rw[h2,toList_set,e1,e2,List.length_cons,show o+(r.length+1)=o+1+r.length by omega];simp
theorem Below.setCells {B:Nat}{w0:World}:∀ (vs:List Value) {w:World} (h:Below B w0 w) {g o:Nat} (hg:B<=g),Below B w0 (w.setCells g o vs)
 | [],_,h,_,_,_=>h
 | v :: r,w,h,g,o,hg=>Below.setCells r (h.setCell (p:=⟨g,o,none⟩) hg v) hg
theorem size_setCells:∀ (vs:List Value)(w:World)(g o:Nat),(w.setCells g o vs).heap.size=w.heap.size
 | [],_,_,_=>rfl
 | v :: r,w,g,o=>(size_setCells r _ g (o+1)).trans (by simp)
theorem Kept.setCells (w:World)(g o:Nat)(vs:List Value){N:Nat->Prop}(hn:¬ N g):Kept w (w.setCells g o vs) N :=
 ⟨Nat.le_of_eq (size_setCells vs w g o).symm,fun k hk hN=>World.heap_setCells_other w g o vs hk fun e=>hn (e▸hN),(Below.setCells vs (Below.refl 0 w) (g:=g) (o:=o) (Nat.zero_le _)).os,(Below.setCells vs (Below.refl 0 w) (g:=g) (o:=o) (Nat.zero_le _)).tape,(Below.setCells vs (Below.refl 0 w) (g:=g) (o:=o) (Nat.zero_le _)).output⟩
theorem flat_take {s:Nat}:∀ (rows:List (List Value)) (m:Nat),(∀ r∈rows,r.length=s)->rows.flatten.take (m*s)=(rows.take m).flatten
 | [],m,_=>by simp
 | r :: rows,0,_=>by simp
 | r :: rows,m+1,h=>by
  have hr:r.length=s:=h r (by simp);rw[List.flatten_cons,Nat.succ_mul,List.take_succ_cons,List.flatten_cons,<-flat_take rows m fun x hx=>h x (by simp[hx]),List.take_append,List.take_of_length_le (by omega),hr]
  congr 2;omega
theorem flat_drop {s:Nat}:∀ (rows:List (List Value)) (m:Nat),(∀ r∈rows,r.length=s)->rows.flatten.drop (m*s)=(rows.drop m).flatten
 | [],m,_=>by simp
 | r :: rows,0,_=>by simp
 | r :: rows,m+1,h=>by
  have hr:r.length=s:=h r (by simp);rw[List.flatten_cons,Nat.succ_mul,List.drop_succ_cons,<-flat_drop rows m fun x hx=>h x (by simp[hx]),List.drop_append,List.drop_of_length_le (by omega),hr];simp
section
variable {w:World}{base:Nat}{e:TypeId}{s g n c:Nat}{rows:List (List Value)}
theorem OwnG.parts (h:OwnG w base e s (.slice (some ⟨g,0,none⟩) n c) rows):n=rows.length/\base<=g/\rows.length<=c/\c<=maxLen/\∃ cur:Array Value,w.heap[g]? = some (.cells cur e (0,0))/\cur.size=c*s/\cur.toList.take (rows.length*s)=rows.flatten:=by
 have hf:=flat_len rows h.2;rcases h.1.2 with⟨hv,_⟩|⟨g',cap,cur,hv,hb,hg,hn,hm,hs,ht⟩
 ·cases hv
 ·cases hv
  exact⟨rfl,hb,hn,hm,cur,hg,hs,ht⟩
theorem OwnG.make (hb:base<=g)(hn:rows.length<=c)(hm:c<=maxLen){cur:Array Value}(hg:w.heap[g]? = some (.cells cur e (0,0)))(hs:cur.size=c*s)(ht:cur.toList.take (rows.length*s)=rows.flatten)(hr:∀ r∈rows,r.length=s) :
  OwnG w base e s (.slice (some ⟨g,0,none⟩) rows.length c) rows :=
 ⟨⟨flat_len rows hr,.inr ⟨g,c,cur,rfl,hb,hg,hn,hm,hs,ht⟩⟩,hr⟩
theorem OwnG.tail (h:OwnG w base e s (.slice (some ⟨g,0,none⟩) n c) rows)(m:Nat)(hm':m<=rows.length)(zs:List Value)(hz:m*s+zs.length<=c*s):OwnG (w.setCells g (m*s) zs) base e s (.slice (some ⟨g,0,none⟩) m c) (rows.take m):=by
 obtain⟨rfl,hb,hn,hm,cur,hg,hs,ht⟩:=h.parts;have hms:m*s<=rows.length*s:=Nat.mul_le_mul_right _ hm';obtain⟨cur',hg',ht'⟩:=heap_setCells_at zs w g (m*s) cur e (0,0) hg (by omega);have hsz:cur'.size=c*s:=by
  have:=congrArg List.length ht';simp only[List.length_append,List.length_take,List.length_drop,Array.length_toList] at this;omega
 have hl:(rows.take m).length=m:=by simp;omega
 have:=OwnG.make (w:=w.setCells g (m*s) zs) (rows:=rows.take m) hb (by omega) hm hg' hsz ?_ (fun r hr=>h.2 r (List.mem_of_mem_take hr))
 ·rwa[hl] at this
 ·rw[hl,ht',<-flat_take rows m h.2,<-ht,List.take_take,Nat.min_eq_left hms,List.take_append,List.take_take,Nat.min_self,List.length_take,Array.length_toList,Nat.min_eq_left (by omega),Nat.sub_self];simp
theorem OwnG.rangeAt (h:OwnG w base e s (.slice (some ⟨g,0,none⟩) n c) rows)(j:Nat)(hj:j<rows.length):w.rangeAt g (j*s) (rows.getD j []):=by
 intro i v hv;have h1:=World.ownsRow.cells h.1 (g:=g) rfl (j*s+i) v (flatten_at s rows j i v h.2 hj hv);rwa[addr_add] at h1
theorem OwnG.there (h:OwnG w base e s (.slice (some ⟨g,0,none⟩) n c) rows)(o m:Nat)(hm:o+m<=c*s):w.there g o m:=by
 obtain⟨rfl,hb,hn,_,cur,hg,hs,ht⟩:=h.parts;intro i hi;have hlt:o+i<cur.size:=by omega
 refine⟨?_,?_⟩
 ·simp[World.cell?,hg,hlt]
 ·simp[World.frozen?,hg]
end
theorem zero_cells_mem (zc:Array Value)(n:Nat)(h:∀ k,k<zc.size->(zc[k]!).oneCell'=true):∀ v∈(Builtin.zeroCells zc n).toList,v.oneCell'=true:=by
 intro v hv;unfold Builtin.zeroCells at hv;simp only[Array.toList_map,List.mem_map,Array.mem_toList_iff,Array.mem_range] at hv;obtain⟨i,hi,rfl⟩:=hv;refine h _ (Nat.mod_lt _ ?_);rcases Nat.eq_zero_or_pos zc.size with h0|h0
 ·rw[h0] at hi;simp at hi
 ·exact h0
theorem zero_cells_len (zc:Array Value)(n:Nat):(Builtin.zeroCells zc n).toList.length=n*zc.size:=by simp[Builtin.zeroCells]
theorem run_clear_rows {P:Program}(w:World)(t e ty:TypeId)(z:Value)(ht:P.underlying t=some (.slice e))(hv:∀ w,(zeroValue e).run P w = .ok z w)(h1:∀ k,k<z.cells.size->(z.cells[k]!).oneCell'=true)(b o n c:Nat)(hn:0<n)
  (hth:w.there b o (n*z.cells.size)) :
  (Builtin.clear_ #[t] ty #[.slice (some ⟨b,o,none⟩) n c]).run P w = .ok (.tuple #[]) (w.setCells b o (Builtin.zeroCells z.cells n).toList):=by
 have hl:=zero_cells_len z.cells n;have hst:=run_storeCells_cells (P:=P) b o (Builtin.zeroCells z.cells n).toList 0 w (fun j hj=>by simpa using(hth j (by omega)).1) (fun j hj=>by simpa using(hth j (by omega)).2) (zero_cells_mem _ _ h1);simp only[Nat.add_zero] at hst;obtain⟨m,rfl⟩:∃ m,n=m+1:=⟨n-1,by omega⟩
 simp[Builtin.clear_,run_underlying ht,hv,hst]
theorem OwnG.addr {P:Program}{t e:TypeId}{w:World}{base s g n c:Nat}{rows:List (List Value)}(h:OwnG w base e s (.slice (some ⟨g,0,none⟩) n c) rows)(ht:P.underlying t=some (.slice e))(hs:∀ w,(sizeOf e).run P w = .ok s w)(j:Nat)(hj:j<rows.length) :
  ∀ w' (k:IntKind),(Instr.indexAt t (.slice (some ⟨g,0,none⟩) n c) (.int k (j:Int))).run P w' = .ok (.pointer (some ⟨g,j*s,none⟩)) w':=by
 intro w' k;have ht':P.underlying t=some (.slice (P.elem t)):=by rw[ht];simp[Program.elem,ht]
 have hel:P.elem t=e:=by simp[Program.elem,ht]
 have:=h.parts.1;rw[run_indexAt_slice (h:=ht'),if_pos (by omega),hel,hs];simp[Result.andThen,Addr.add];exact fun h=>h.symm
theorem OwnG.from {P:Program}{t e:TypeId}{w:World}{base s g n c:Nat}{rows:List (List Value)}(h:OwnG w base e s (.slice (some ⟨g,0,none⟩) n c) rows)(ht:P.underlying t=some (.slice e))(hs:∀ w,(sizeOf e).run P w = .ok s w)(lo:Nat)(hl:lo<rows.length) :
  ∀ w' (k:IntKind),(Instr.slice t (.slice (some ⟨g,0,none⟩) n c) (some (.int k (lo:Int))) none none).run P w' = .ok (.slice (some ⟨g,lo*s,none⟩) (n-lo) (c-lo)) w':=by
 intro w' k;have ht':P.underlying t=some (.slice (P.elem t)):=by rw[ht];simp[Program.elem,ht]
 have hel:P.elem t=e:=by simp[Program.elem,ht]
 obtain⟨h1,_,h2,_⟩:=h.parts;rw[run_slice_l (l:=(lo:Int)) (ht:=ht') (h0:=by omega) (h1:=by omega),hel,hs];simp only[Result.andThen,sliced,Int.toNat_natCast];rw[if_neg (by omega)];simp[Addr.add];exact fun h=>h.symm
theorem OwnG.to {P:Program}{t e:TypeId}{w:World}{base s g n c:Nat}{rows:List (List Value)}(h:OwnG w base e s (.slice (some ⟨g,0,none⟩) n c) rows)(ht:P.underlying t=some (.slice e))(hs:∀ w,(sizeOf e).run P w = .ok s w)(hi:Nat)(hl:hi<=rows.length) :
  ∀ w' (k:IntKind),(Instr.slice t (.slice (some ⟨g,0,none⟩) n c) none (some (.int k (hi:Int))) none).run P w' = .ok (.slice (some ⟨g,0,none⟩) hi c) w':=by
 intro w' k;have ht':P.underlying t=some (.slice (P.elem t)):=by rw[ht];simp[Program.elem,ht]
 have hel:P.elem t=e:=by simp[Program.elem,ht]
 obtain⟨h1,_,h2,_⟩:=h.parts;rw[run_slice_h (h:=(hi:Int)) (ht:=ht') (h0:=by omega) (h2:=by omega),hel,hs];simp[Result.andThen,sliced,Addr.add]
end Go.Mx
