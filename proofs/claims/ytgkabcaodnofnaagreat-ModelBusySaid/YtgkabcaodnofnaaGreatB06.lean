import Derived.Test.YtgkabcaodnofnaaGreatB04
import Derived.Test.YtgkabcaodnofnaaGreatB05
import Derived.Deep.Cut
set_option linter.unusedSimpArgs false
set_option linter.unusedVariables false
set_option maxRecDepth 100000
set_option maxHeartbeats 2000000
open Go.Proofs.Tryz
namespace Go.Proofs.YtgkabcaodnofnaaGreat
open Go.RowKit Go.Mx Go.Md Go.Shelf
attribute [local go_sem] Oper.semAt_some
def subI (s:Sp)(pre:List Sp):List Sp:=pre.foldl (subR s) []
theorem subI_succ (s:Sp)(pre:List Sp)(x:Sp):subI s (pre++[x])=subR s (subI s pre) x:=by unfold subI;rw[List.foldl_append];rfl
theorem subR_len (s:Sp)(a:List Sp)(x:Sp):(subR s a x).length<=a.length+2:=by
 unfold subR;split
 ·simp
 ·rw[List.length_append];split<;>split<;>simp
theorem subI_len (s:Sp)(pre:List Sp):(subI s pre).length<=2*pre.length:=by
 have key:∀ (l:List Sp) (a:List Sp),(l.foldl (subR s) a).length<=a.length+2*l.length:=by
  intro l;induction l with
  | nil=>intro a;simp
  | cons x t ih=>intro a;have h1:=ih (subR s a x);have h2:=subR_len s a x;simp only[List.foldl_cons,List.length_cons];omega
 have:=key pre [];simpa[subI] using this
def subB (t3 t5:Nat)(p q:Int)(v:Value):List Bx:=[(t5,#[v],(32:TypeId)),(t3,#[.int .i64 p,.int .i64 q],(111:TypeId))]
theorem subB_bx {t3 t5:Nat}{p q:Int}{v v':Value}(h3:t3≠t5):∀ x∈subB t3 t5 p q v',x=(t5,#[v'],(32:TypeId))\/(x.1≠t5/\x∈subB t3 t5 p q v):=by
 intro x hx;simp only[subB,List.mem_cons,List.mem_nil_iff,or_false] at hx;rcases hx with rfl|rfl
 ·exact .inl rfl
 ·exact .inr ⟨h3,by simp[subB]⟩
theorem sub_in (n:Nat)(hn:3<=n)(l:List Sp)(s:Sp)(v:Value)(w:World)(hl:l.length<=10000000000)(h:SpS w w.heap.size v l) :
  CallsIn Fence.wide n prog 117 #[v,spV s] w fun e w'=>∃ v',e = .returned v'/\OwnG w' w.heap.size 111 2 v' ((subS l s).map spC)/\Below w.heap.size w w':=by
 have h1:1<=n:=by omega
 obtain⟨oa,sn,sc,rfl⟩:=slG_sh h;obtain⟨sx,sy⟩:=s;have HS:=hid h;have hb1:Below w.heap.size w ((w.alloc (.cells #[.int .i64 sx,.int .i64 sy] 111)).alloc (.cells #[.slice none 0 0] 32)):=(brf.alloc nlr _).alloc (by simp) _;have hq3:((w.alloc (.cells #[.int .i64 sx,.int .i64 sy] 111)).alloc (.cells #[.slice none 0 0] 32)).heap[w.heap.size]? = some (.cells #[.int .i64 sx,.int .i64 sy] 111 (0,0)):=(Below.heap_alloc _ _ _ (by simp)).trans (World.alloc_heap_new w _);have hq5:((w.alloc (.cells #[.int .i64 sx,.int .i64 sy] 111)).alloc (.cells #[.slice none 0 0] 32)).heap[w.heap.size+1]? = some (.cells #[.slice none 0 0] 32 (0,0)):=by
  have:=World.alloc_heap_new (w.alloc (.cells #[.int .i64 sx,.int .i64 sy] 111)) (.cells #[.slice none 0 0] 32);rwa[World.size_alloc] at this
 have hz1:((w.alloc (.cells #[.int .i64 sx,.int .i64 sy] 111)).alloc (.cells #[.slice none 0 0] 32)).heap.size=w.heap.size+2:=by simp
 have H1:=jd4 hb1 hq3 hq5 hz1;clear h hb1 hq3 hq5 hz1;refine callsIn_of_wp_marks func117 rfl trivial ?_ rfl;simp only[ntmps117,List.size_toArray,List.length_cons,List.length_nil,Nat.reduceAdd,Nat.reduceSub,Array.replicate_succ,Array.replicate_zero,List.push_toArray,List.append_toArray,List.nil_append,List.cons_append]
 gi_wp2_with fail
 refine⟨trivial,?_⟩
 gi_at_call 131
 refine(callsIn_wide.2 (all_any oa sn sc _)).mono ?_;rintro e w4 ⟨rfl,hw4⟩
 gi_wp2_with fail
 have hz4:w4.heap.size=w.heap.size+3:=by rw[<-hw4];simp
 have hb24:Below (w.heap.size+2) ((w.alloc (.cells #[.int .i64 sx,.int .i64 sy] 111)).alloc (.cells #[.slice none 0 0] 32)) w4:=by rw[<-hw4];exact brf.alloc (by simp) _
 have q3:w4.heap[w.heap.size]? = some (.cells #[.int .i64 sx,.int .i64 sy] 111 (0,0)):=(hb24.block _ (by omega)).trans H1.out.2.1;have q5:w4.heap[w.heap.size+1]? = some (.cells #[.slice none 0 0] 32 (0,0)):=(hb24.block _ (by omega)).trans H1.out.2.2.1;have qt:w4.heap[w.heap.size+2]? = some (.cells #[.slice oa sn sc] 32 (0,0)):=by
  rw[<-hw4];have:=World.alloc_heap_new ((w.alloc (.cells #[.int .i64 sx,.int .i64 sy] 111)).alloc (.cells #[.slice none 0 0] 32)) (.cells #[.slice oa sn sc] 32);rwa[World.size_alloc,World.size_alloc] at this
 have hb4:Below w.heap.size w w4:=H1.out.1.trans (hb24.mono (by omega));have hS4:=HS.out.below hb4 nlr;have hseq:=all_stops (n-1) (by omega) (w.heap.size+2) w.heap.size (.slice oa sn sc) l hl w4 (by simp[World.cell?,qt]) (by omega) (by omega) hS4;obtain⟨base2,hbase⟩:∃ x,x=w4.heap.size:=⟨_,rfl⟩
 obtain⟨tB,htB⟩:∃ x,x=w.heap.size+2:=⟨_,rfl⟩
 obtain⟨t5,ht5⟩:∃ x,x=w.heap.size+1:=⟨_,rfl⟩
 obtain⟨t3,ht3⟩:∃ x,x=w.heap.size:=⟨_,rfl⟩
 have hpos:t3<base2/\t5<base2/\tB<base2/\tB<base2/\t3<t5/\t5<tB/\w.heap.size<=base2/\w.heap.size<=t5/\w.heap.size<=t3/\w.heap.size<=tB:=by omega
 rw[<-htB] at qt hseq;rw[<-ht5] at q5;rw[<-ht3] at q3;have HQ:=jd5 q3 q5 qt hb4 hbase
 try simp only[World.size_alloc]
 rw[<-htB,<-ht5,<-ht3];clear hz4 hb24 q3 q5 qt hb4 hS4 hw4 htB ht5 ht3 hbase H1;obtain⟨p1,p2,p3,p4,p5,p6,p7,p8,p9,p10⟩:=hpos;refine wpIn_rangeFunc_ownH rfl h1 (gf:=158) (lb := #[.pointer (some ⟨tB,0,none⟩)]) rfl trivial (enters_of func158 (by kernel_rfl) rfl) hseq KpA.trans (KpA.putObj (by have:=HQ.out.2.2.2.2;omega) (by have:=HQ.out.2.2.2.2;simp;omega)) brf (fun _=>rfl)
  (fun pre W=>IQ w.heap.size base2 tB w4 (subI (sx,sy) pre) (subB t3 t5 sx sy) W)
  (fun _ _ _=>False)
  (iq_from HQ.out.2.2.1 (by have:=HQ.out.2.2.2.2;omega) (by have:=HQ.out.2.2.2.2;omega))
  (fun _ _ _ _ _ hs _ _=>hs)
  ⟨.slice none 0 0,OwnG.nil _ _ _ _,fun p hp=>by
   simp only[subB,subI,List.foldl_nil,List.mem_cons,List.mem_nil_iff,or_false] at hp;rcases hp with rfl|rfl
   ·exact⟨p2,HQ.out.2.1⟩
   ·exact⟨p1,HQ.out.1⟩,rfl,brf,by rw[HQ.out.2.2.2.2];exact nlr⟩
  (fun x a' W=>∃ Bx v0,W.heap[Bx]? = some (.cells #[.int .i64 x.1,.int .i64 x.2] 111 (0,0))/\base2<=Bx/\W.heap[t5]? = some (.cells #[v0] 32 (0,0))/\v0.ownBlock≠some Bx/\a'={tmps := #[.slice oa sn sc,.agg #[.int .i64 sx,.int .i64 sy],undef,.pointer (some ⟨t3,0,none⟩),.slice none 0 0,.pointer (some ⟨t5,0,none⟩),.pointer (some ⟨Bx,0,none⟩),.slice oa sn sc,.func (.func 158) #[] #[.pointer (some ⟨tB,0,none⟩)],.agg #[.int .i64 x.1,.int .i64 x.2],undef,undef,undef,undef,undef,undef,undef,undef,undef,undef,undef,undef,undef,undef,undef,undef,undef,undef,undef,undef,undef,undef,undef,undef,undef,undef,undef,undef,undef,undef,undef,undef,undef,undef,undef,undef,undef,undef,undef,undef,undef,undef,undef,undef,undef,undef,undef,undef],defers:=[]})
  (fun x a' _ X Y row hs hg hr=>by
   obtain⟨Bx,v0,h2,h4,h5,h6,h3⟩:=hs;exact⟨Bx,v0,cells_kept hg (fun r e=>(hr r e).2) h2,h4,cells_kept hg (fun r e=>(hr r e).2) h5,h6,h3⟩)
  ?assign ?body ?done ?stop
 case assign =>
  rintro lp pre x W K' ⟨v,ho,hb,ht,hw,hs⟩ hK;obtain⟨x,y⟩:=x;have hbA:Below W.heap.size W (W.alloc (.cells #[.int .i64 x,.int .i64 y] 111)):=brf.alloc nlr _;obtain⟨ho2,hb2,ht2,hw2,hs2,hk2,hkp2⟩:=iq_below p7 p4 ho hb ht hw hs hbA;have hne:v.ownBlock≠some W.heap.size:=fun e=>by have:=ho.lt _ e;omega
  have hv5:=(hb2 (t5,#[v],32) (by simp[subB])).2;have HF:=jd9 ho2 hb2 ht2 hw2 hs2 hk2 hkp2 hne hv5;clear ho hb ht hw ho2 hb2 ht2 hw2 hs2 hk2 hkp2 hbA hne hv5
  gi_wp2
  exact hK _ _ (HF.out.2.2.2.2.2.1.from _) HF.out.2.2.2.2.2.2.1 ⟨v,HF.out.1,HF.out.2.1,HF.out.2.2.1,HF.out.2.2.2.1,HF.out.2.2.2.2.1⟩ ⟨W.heap.size,v,World.alloc_heap_new W _,hs,HF.out.2.2.2.2.2.2.2.2,HF.out.2.2.2.2.2.2.2.1,rfl⟩
 case body =>
  rintro lp pre x a' W hlp ⟨r,hr⟩ ⟨v,ho,hb,ht,hw,hs⟩ ⟨Bx,v0,bX,hBx,b50,hv0,rfl⟩ hlt2;obtain⟨x,y⟩:=x;simp only;have hal:=subI_len (sx,sy) pre;have HI0:=subI_succ (sx,sy) pre (x,y);obtain⟨A,hA⟩:∃ A,A=subI (sx,sy) pre:=⟨_,rfl⟩
  rw[<-hA] at ho hal HI0;clear hA;have HLN:=hid (show(A.length+3)*16<=140737488355328 by omega);have HI:Hid (∀ W',IQ w.heap.size base2 tB w4 (subR (sx,sy) A (x,y)) (subB t3 t5 sx sy) W'->IQ w.heap.size base2 tB w4 (subI (sx,sy) (pre++[(x,y)])) (subB t3 t5 sx sy) W'):=hid (by rw[HI0];exact fun _ h=>h);clear HI0 hal;have b5:=(hb (t5,#[v],32) (by simp[subB])).2;obtain rfl:v=v0:=by rw[b5] at b50;simpa using b50
  have b3:=(hb (t3,#[.int .i64 sx,.int .i64 sy],111) (by simp[subB])).2;obtain⟨va,vn,vc,rfl⟩:=ownG_sh2 ho;have hcells:∀ X:World,Below W.heap.size W X->X.cell? ⟨t5,0,none⟩=some (.slice va vn vc)/\X.cell? ⟨t3,0,none⟩=some (.int .i64 sx)/\X.cell? ⟨t3,1,none⟩=some (.int .i64 sy)/\X.cell? ⟨Bx,0,none⟩=some (.int .i64 x)/\X.cell? ⟨Bx,1,none⟩=some (.int .i64 y):=fun X hX=>by
   have e5:=(hX.block _ (blk_lt b5)).trans b5;have e3:=(hX.block _ (blk_lt b3)).trans b3;have eX:=(hX.block _ (blk_lt bX)).trans bX;refine⟨?_,?_,?_,?_,?_⟩<;>simp[World.cell?,e5,e3,eX]
  have HC:=hid hcells;have HX:=jd8 ho hb ht hw hs b3 bX hv0;clear ho hb ht hw b5 b3 bX hcells hr b50 hv0;obtain⟨c5,c3,c3',x0,x1⟩:=HC.out W brf;have hm0:=may_any (sx,sy) W
  gi_wp2_with fail
  refine⟨trivial,fun _=>by omega,?_⟩;refine(CallsIn.inRound lp (callsIn_wide.2 hm0)).mono ?_;rintro e wm ⟨rfl,hbm⟩;clear hm0 c5 c3 c3' x0 x1;obtain⟨c5,c3,c3',x0,x1⟩:=HC.out wm hbm;have bXm:=(hbm.block _ (blk_lt HX.out.2.2.2.2.2.2.1)).trans HX.out.2.2.2.2.2.2.1;have HBX:=jd2 bXm HX.out.2.2.2.2.2.2.2;have HM:=hid (iq_below p7 p4 HX.out.1 HX.out.2.1 HX.out.2.2.1 HX.out.2.2.2.1 HX.out.2.2.2.2.1 hbm);clear hbm bXm;cases hmy:mayS (sx,sy)
  ·have HR:Hid (subR (sx,sy) A (x,y)=A++[(x,y)]):=hid (by unfold subR;rw[hmy];simp);clear hmy;have hbA:Below wm.heap.size wm (wm.alloc (.cells #[.int .i64 x,.int .i64 y] 111)):=brf.alloc nlr _;have hoA:=HM.out.1.below hbA nlr;have hcl:∀ j u,([spC (x,y)].flatten:List Value)[j]? = some u->(wm.alloc (.cells #[.int .i64 x,.int .i64 y] 111)).cell? ⟨wm.heap.size,j,none⟩=some u:=by
    intro j u hu;rw[World.cell?_alloc_at _ _ _ _ (by first|rfl|simp)];simpa using hu
   have hbs:base2<=(wm.alloc (.cells #[.int .i64 x,.int .i64 y] 111)).heap.size:=Nat.le_trans HM.out.2.2.2.2.1 hbA.size;have HG:=jd3 hoA hcl hbs;clear hbA hoA hcl hbs
   gi_wp2_with (gi_at_builtin;refine append_gi _ rfl _ _ 32 111 _ 2 16 rfl underlying32 info111 rfl (by decide) base2 _ ((A).map spC) rfl HG.out.1 wm.heap.size 1 1 [spC (x,y)] rfl rfl (by simp) HG.out.2.1 (by intro u hu;simp at hu;rcases hu with rfl|rfl<;>rfl) (by rw[List.length_map];have:=HLN.out;(try simp only[List.length_append,List.length_cons,List.length_nil]);omega) (by rw[List.length_map];have:=HLN.out;(try simp only[List.length_append,List.length_cons,List.length_nil]);omega) HG.out.2.2 ?_)
   intro v1 w1 ho' hg' hb';obtain⟨g1a,g1n,g1c,rfl⟩:=ownG_sh2 ho';obtain⟨c5',f5',hk9,hkp9,hiq9⟩:=iq_app (t5:=t5) (news:=[(x,y)]) (bx':=subB t3 t5 sx sy) HQ.out.2.2.1 p7 p8 p4 (by omega) HM.out.1 HM.out.2.1 HM.out.2.2.1 HM.out.2.2.2.1 HM.out.2.2.2.2.1 (by simp[subB]) (by simpa using ho') hg' hb' (subB_bx (by omega));have HZ:=jd3 (HM.out.2.2.2.2.2.1.trans (hk9)) (HM.out.2.2.2.2.2.2.trans (hkp9)) hiq9;clear hk9 hkp9 hiq9 ho' hg' hb'
   gi_wp2
   exact⟨HZ.out.1.from _,HZ.out.2.1,HI.out _ (by rw[HR.out];simpa[List.append_assoc] using HZ.out.2.2)⟩
  ·by_cases h2:y<=sx
   ·have t2:decide (y<=sx)=true:=by simpa using h2
    have HR:Hid (subR (sx,sy) A (x,y)=A++[(x,y)]):=hid (by unfold subR;rw[hmy];simp[h2]);clear hmy;have hbA:Below wm.heap.size wm (wm.alloc (.cells #[.int .i64 x,.int .i64 y] 111)):=brf.alloc nlr _;have hoA:=HM.out.1.below hbA nlr;have hcl:∀ j u,([spC (x,y)].flatten:List Value)[j]? = some u->(wm.alloc (.cells #[.int .i64 x,.int .i64 y] 111)).cell? ⟨wm.heap.size,j,none⟩=some u:=by
     intro j u hu;rw[World.cell?_alloc_at _ _ _ _ (by first|rfl|simp)];simpa using hu
    have hbs:base2<=(wm.alloc (.cells #[.int .i64 x,.int .i64 y] 111)).heap.size:=Nat.le_trans HM.out.2.2.2.2.1 hbA.size;have HG:=jd3 hoA hcl hbs;clear hbA hoA hcl hbs
    gi_wp2_with (gi_at_builtin;refine append_gi _ rfl _ _ 32 111 _ 2 16 rfl underlying32 info111 rfl (by decide) base2 _ ((A).map spC) rfl HG.out.1 wm.heap.size 1 1 [spC (x,y)] rfl rfl (by simp) HG.out.2.1 (by intro u hu;simp at hu;rcases hu with rfl|rfl<;>rfl) (by rw[List.length_map];have:=HLN.out;(try simp only[List.length_append,List.length_cons,List.length_nil]);omega) (by rw[List.length_map];have:=HLN.out;(try simp only[List.length_append,List.length_cons,List.length_nil]);omega) HG.out.2.2 ?_)
    intro v1 w1 ho' hg' hb';obtain⟨g1a,g1n,g1c,rfl⟩:=ownG_sh2 ho';obtain⟨c5',f5',hk9,hkp9,hiq9⟩:=iq_app (t5:=t5) (news:=[(x,y)]) (bx':=subB t3 t5 sx sy) HQ.out.2.2.1 p7 p8 p4 (by omega) HM.out.1 HM.out.2.1 HM.out.2.2.1 HM.out.2.2.2.1 HM.out.2.2.2.2.1 (by simp[subB]) (by simpa using ho') hg' hb' (subB_bx (by omega));have HZ:=jd3 (HM.out.2.2.2.2.2.1.trans (hk9)) (HM.out.2.2.2.2.2.2.trans (hkp9)) hiq9;clear hk9 hkp9 hiq9 ho' hg' hb'
    gi_wp2
    exact⟨HZ.out.1.from _,HZ.out.2.1,HI.out _ (by rw[HR.out];simpa[List.append_assoc] using HZ.out.2.2)⟩
   ·have t2:decide (y<=sx)=false:=by simpa using h2
    by_cases h3:sy<=x
    ·have t3a:decide (sy<=x)=true:=by simpa using h3
     have HR:Hid (subR (sx,sy) A (x,y)=A++[(x,y)]):=hid (by unfold subR;rw[hmy];simp[h2,h3]);clear hmy;have hbA:Below wm.heap.size wm (wm.alloc (.cells #[.int .i64 x,.int .i64 y] 111)):=brf.alloc nlr _;have hoA:=HM.out.1.below hbA nlr;have hcl:∀ j u,([spC (x,y)].flatten:List Value)[j]? = some u->(wm.alloc (.cells #[.int .i64 x,.int .i64 y] 111)).cell? ⟨wm.heap.size,j,none⟩=some u:=by
      intro j u hu;rw[World.cell?_alloc_at _ _ _ _ (by first|rfl|simp)];simpa using hu
     have hbs:base2<=(wm.alloc (.cells #[.int .i64 x,.int .i64 y] 111)).heap.size:=Nat.le_trans HM.out.2.2.2.2.1 hbA.size;have HG:=jd3 hoA hcl hbs;clear hbA hoA hcl hbs
     gi_wp2_with (gi_at_builtin;refine append_gi _ rfl _ _ 32 111 _ 2 16 rfl underlying32 info111 rfl (by decide) base2 _ ((A).map spC) rfl HG.out.1 wm.heap.size 1 1 [spC (x,y)] rfl rfl (by simp) HG.out.2.1 (by intro u hu;simp at hu;rcases hu with rfl|rfl<;>rfl) (by rw[List.length_map];have:=HLN.out;(try simp only[List.length_append,List.length_cons,List.length_nil]);omega) (by rw[List.length_map];have:=HLN.out;(try simp only[List.length_append,List.length_cons,List.length_nil]);omega) HG.out.2.2 ?_)
     intro v1 w1 ho' hg' hb';obtain⟨g1a,g1n,g1c,rfl⟩:=ownG_sh2 ho';obtain⟨c5',f5',hk9,hkp9,hiq9⟩:=iq_app (t5:=t5) (news:=[(x,y)]) (bx':=subB t3 t5 sx sy) HQ.out.2.2.1 p7 p8 p4 (by omega) HM.out.1 HM.out.2.1 HM.out.2.2.1 HM.out.2.2.2.1 HM.out.2.2.2.2.1 (by simp[subB]) (by simpa using ho') hg' hb' (subB_bx (by omega));have HZ:=jd3 (HM.out.2.2.2.2.2.1.trans (hk9)) (HM.out.2.2.2.2.2.2.trans (hkp9)) hiq9;clear hk9 hkp9 hiq9 ho' hg' hb'
     gi_wp2
     exact⟨HZ.out.1.from _,HZ.out.2.1,HI.out _ (by rw[HR.out];simpa[List.append_assoc] using HZ.out.2.2)⟩
    ·have t3a:decide (sy<=x)=false:=by simpa using h3
     by_cases h4:x<sx
     ·have t4:decide (x<sx)=true:=by simpa using h4
      by_cases h5:sy<y
      ·have t5a:decide (sy<y)=true:=by simpa using h5
       have HR:Hid (subR (sx,sy) A (x,y)=A++[(x,sx)]++[(sy,y)]):=hid (by unfold subR;rw[hmy];simp[h2,h3,h4,h5]);clear hmy;have hbA:Below wm.heap.size wm (wm.alloc (.cells #[.int .i64 x,.int .i64 sx] 111)):=brf.alloc nlr _;have hoA:=HM.out.1.below hbA nlr;have hcl:∀ j u,([spC (x,sx)].flatten:List Value)[j]? = some u->(wm.alloc (.cells #[.int .i64 x,.int .i64 sx] 111)).cell? ⟨wm.heap.size,j,none⟩=some u:=by
        intro j u hu;rw[World.cell?_alloc_at _ _ _ _ (by first|rfl|simp)];simpa using hu
       have hbs:base2<=(wm.alloc (.cells #[.int .i64 x,.int .i64 sx] 111)).heap.size:=Nat.le_trans HM.out.2.2.2.2.1 hbA.size;have HG:=jd3 hoA hcl hbs;clear hbA hoA hcl hbs
       gi_wp2_with (gi_at_builtin;refine append_gi _ rfl _ _ 32 111 _ 2 16 rfl underlying32 info111 rfl (by decide) base2 _ ((A).map spC) rfl HG.out.1 wm.heap.size 1 1 [spC (x,sx)] rfl rfl (by simp) HG.out.2.1 (by intro u hu;simp at hu;rcases hu with rfl|rfl<;>rfl) (by rw[List.length_map];have:=HLN.out;(try simp only[List.length_append,List.length_cons,List.length_nil]);omega) (by rw[List.length_map];have:=HLN.out;(try simp only[List.length_append,List.length_cons,List.length_nil]);omega) HG.out.2.2 ?_)
       intro v1 w1 ho' hg' hb';obtain⟨g1a,g1n,g1c,rfl⟩:=ownG_sh2 ho';obtain⟨c5',f5',hk9,hkp9,hiq9⟩:=iq_app (t5:=t5) (news:=[(x,sx)]) (bx':=subB t3 t5 sx sy) HQ.out.2.2.1 p7 p8 p4 (by omega) HM.out.1 HM.out.2.1 HM.out.2.2.1 HM.out.2.2.2.1 HM.out.2.2.2.2.1 (by simp[subB]) (by simpa using ho') hg' hb' (subB_bx (by omega));have hne2:(w1.setCell ⟨t5,0,none⟩ (.slice g1a g1n g1c)).heap[Bx]? = some (.cells #[.int .i64 x,.int .i64 y] 111 (0,0)):=by
        have hBA:(wm.alloc (.cells #[.int .i64 x,.int .i64 sx] 111)).heap[Bx]? = wm.heap[Bx]? := Below.heap_alloc wm _ _ (blk_lt HBX.out.1);have hB1:w1.heap[Bx]? = (wm.alloc (.cells #[.int .i64 x,.int .i64 sx] 111)).heap[Bx]? := hg'.block Bx (by have:=blk_lt HBX.out.1;simp;omega) (Ne.symm HBX.out.2);have hB2:(w1.setCell ⟨t5,0,none⟩ (.slice g1a g1n g1c)).heap[Bx]? = w1.heap[Bx]? := Below.heap_setCell _ _ _ Bx (show Bx≠t5 by omega);rw[hB2,hB1,hBA];exact HBX.out.1
       have HB2:=hid hne2;obtain⟨v2,ho2,hb2,ht2,hw2,hs2⟩:=hiq9;have b52:=(hb2 (t5,#[v2],32) (by simp[subB])).2;have b53:(w1.setCell ⟨t5,0,none⟩ (.slice g1a g1n g1c)).heap[t5]? = some (.cells #[.slice g1a g1n g1c] 32 (0,0)):=by
        have h5:w1.heap[t5]? = some (.cells #[.slice va vn vc] 32 (0,0)):=by
         have h0:=(HM.out.2.1 (t5,#[.slice va vn vc],32) (by simp[subB])).2;have hA:(wm.alloc (.cells #[.int .i64 x,.int .i64 sx] 111)).heap[t5]? = wm.heap[t5]? := Below.heap_alloc wm _ _ (blk_lt h0);exact(hb'.block t5 p2).trans (hA.trans h0)
        exact Boxed.set (.slice g1a g1n g1c) h5
       obtain rfl:v2 = .slice g1a g1n g1c:=by rw[b52] at b53;simpa using b53
       have b32:=(hb2 (t3,#[.int .i64 sx,.int .i64 sy],111) (by simp[subB])).2;have HK1:=jd2 (HM.out.2.2.2.2.2.1.trans hk9) (HM.out.2.2.2.2.2.2.trans hkp9);have HQ2:=jd6 ho2 hb2 ht2 hw2 hs2 trivial;clear hk9 hkp9 ho' hg' hb' b52 ho2 hb2 ht2 hw2 hs2 c5 c3 c3' x0 x1;have e5:(w1.setCell ⟨t5,0,none⟩ (.slice g1a g1n g1c)).cell? ⟨t5,0,none⟩=some (.slice g1a g1n g1c):=Boxed.cell b53;have e3:(w1.setCell ⟨t5,0,none⟩ (.slice g1a g1n g1c)).cell? ⟨t3,0,none⟩=some (.int .i64 sx):=by simp[World.cell?,b32]
       have e3':(w1.setCell ⟨t5,0,none⟩ (.slice g1a g1n g1c)).cell? ⟨t3,1,none⟩=some (.int .i64 sy):=by simp[World.cell?,b32]
       have ex0:(w1.setCell ⟨t5,0,none⟩ (.slice g1a g1n g1c)).cell? ⟨Bx,0,none⟩=some (.int .i64 x):=by have:=HB2.out;simp[World.cell?,this]
       have ex1:(w1.setCell ⟨t5,0,none⟩ (.slice g1a g1n g1c)).cell? ⟨Bx,1,none⟩=some (.int .i64 y):=by have:=HB2.out;simp[World.cell?,this]
       clear b32 b53 hne2;have hbA:Below (w1.setCell ⟨t5,0,none⟩ (.slice g1a g1n g1c)).heap.size (w1.setCell ⟨t5,0,none⟩ (.slice g1a g1n g1c)) ((w1.setCell ⟨t5,0,none⟩ (.slice g1a g1n g1c)).alloc (.cells #[.int .i64 sy,.int .i64 y] 111)):=brf.alloc nlr _;have hoA:=HQ2.out.1.below hbA nlr;have hcl:∀ j u,([spC (sy,y)].flatten:List Value)[j]? = some u->((w1.setCell ⟨t5,0,none⟩ (.slice g1a g1n g1c)).alloc (.cells #[.int .i64 sy,.int .i64 y] 111)).cell? ⟨w1.heap.size,j,none⟩=some u:=by
        intro j u hu;rw[World.cell?_alloc_at _ _ _ _ (by first|rfl|simp)];simpa using hu
       have hbs:base2<=((w1.setCell ⟨t5,0,none⟩ (.slice g1a g1n g1c)).alloc (.cells #[.int .i64 sy,.int .i64 y] 111)).heap.size:=Nat.le_trans HQ2.out.2.2.2.2.1 hbA.size;have HG:=jd3 hoA hcl hbs;clear hbA hoA hcl hbs
       gi_wp2_with (gi_at_builtin;refine append_gi _ rfl _ _ 32 111 _ 2 16 rfl underlying32 info111 rfl (by decide) base2 _ ((A++[(x,sx)]).map spC) rfl HG.out.1 w1.heap.size 1 1 [spC (sy,y)] rfl rfl (by simp) HG.out.2.1 (by intro u hu;simp at hu;rcases hu with rfl|rfl<;>rfl) (by rw[List.length_map];have:=HLN.out;(try simp only[List.length_append,List.length_cons,List.length_nil]);omega) (by rw[List.length_map];have:=HLN.out;(try simp only[List.length_append,List.length_cons,List.length_nil]);omega) HG.out.2.2 ?_)
       intro v2 w2 ho' hg' hb';obtain⟨g2a,g2n,g2c,rfl⟩:=ownG_sh2 ho';obtain⟨c5',f5',hk9,hkp9,hiq9⟩:=iq_app (t5:=t5) (news:=[(sy,y)]) (bx':=subB t3 t5 sx sy) HQ.out.2.2.1 p7 p8 p4 (by omega) HQ2.out.1 HQ2.out.2.1 HQ2.out.2.2.1 HQ2.out.2.2.2.1 HQ2.out.2.2.2.2.1 (by simp[subB]) (by simpa using ho') hg' hb' (subB_bx (by omega));have HZ:=jd3 (HK1.out.1.trans (hk9)) (HK1.out.2.trans (hkp9)) hiq9;clear hk9 hkp9 hiq9 ho' hg' hb'
       gi_wp2
       exact⟨HZ.out.1.from _,HZ.out.2.1,HI.out _ (by rw[HR.out];simpa[List.append_assoc] using HZ.out.2.2)⟩
      ·have t5a:decide (sy<y)=false:=by simpa using h5
       have HR:Hid (subR (sx,sy) A (x,y)=A++[(x,sx)]):=hid (by unfold subR;rw[hmy];simp[h2,h3,h4,h5]);clear hmy;have hbA:Below wm.heap.size wm (wm.alloc (.cells #[.int .i64 x,.int .i64 sx] 111)):=brf.alloc nlr _;have hoA:=HM.out.1.below hbA nlr;have hcl:∀ j u,([spC (x,sx)].flatten:List Value)[j]? = some u->(wm.alloc (.cells #[.int .i64 x,.int .i64 sx] 111)).cell? ⟨wm.heap.size,j,none⟩=some u:=by
        intro j u hu;rw[World.cell?_alloc_at _ _ _ _ (by first|rfl|simp)];simpa using hu
       have hbs:base2<=(wm.alloc (.cells #[.int .i64 x,.int .i64 sx] 111)).heap.size:=Nat.le_trans HM.out.2.2.2.2.1 hbA.size;have HG:=jd3 hoA hcl hbs;clear hbA hoA hcl hbs
       gi_wp2_with (gi_at_builtin;refine append_gi _ rfl _ _ 32 111 _ 2 16 rfl underlying32 info111 rfl (by decide) base2 _ ((A).map spC) rfl HG.out.1 wm.heap.size 1 1 [spC (x,sx)] rfl rfl (by simp) HG.out.2.1 (by intro u hu;simp at hu;rcases hu with rfl|rfl<;>rfl) (by rw[List.length_map];have:=HLN.out;(try simp only[List.length_append,List.length_cons,List.length_nil]);omega) (by rw[List.length_map];have:=HLN.out;(try simp only[List.length_append,List.length_cons,List.length_nil]);omega) HG.out.2.2 ?_)
       intro v1 w1 ho' hg' hb';obtain⟨g1a,g1n,g1c,rfl⟩:=ownG_sh2 ho';obtain⟨c5',f5',hk9,hkp9,hiq9⟩:=iq_app (t5:=t5) (news:=[(x,sx)]) (bx':=subB t3 t5 sx sy) HQ.out.2.2.1 p7 p8 p4 (by omega) HM.out.1 HM.out.2.1 HM.out.2.2.1 HM.out.2.2.2.1 HM.out.2.2.2.2.1 (by simp[subB]) (by simpa using ho') hg' hb' (subB_bx (by omega));have hne2:(w1.setCell ⟨t5,0,none⟩ (.slice g1a g1n g1c)).heap[Bx]? = some (.cells #[.int .i64 x,.int .i64 y] 111 (0,0)):=by
        have hBA:(wm.alloc (.cells #[.int .i64 x,.int .i64 sx] 111)).heap[Bx]? = wm.heap[Bx]? := Below.heap_alloc wm _ _ (blk_lt HBX.out.1);have hB1:w1.heap[Bx]? = (wm.alloc (.cells #[.int .i64 x,.int .i64 sx] 111)).heap[Bx]? := hg'.block Bx (by have:=blk_lt HBX.out.1;simp;omega) (Ne.symm HBX.out.2);have hB2:(w1.setCell ⟨t5,0,none⟩ (.slice g1a g1n g1c)).heap[Bx]? = w1.heap[Bx]? := Below.heap_setCell _ _ _ Bx (show Bx≠t5 by omega);rw[hB2,hB1,hBA];exact HBX.out.1
       have b32:(w1.setCell ⟨t5,0,none⟩ (.slice g1a g1n g1c)).heap[t3]? = some (.cells #[.int .i64 sx,.int .i64 sy] 111 (0,0)):=by
        obtain⟨v2,ho2,hb2,ht2,hw2,hs2⟩:=hiq9;exact(hb2 (t3,#[.int .i64 sx,.int .i64 sy],111) (by simp[subB])).2
       have e3':(w1.setCell ⟨t5,0,none⟩ (.slice g1a g1n g1c)).cell? ⟨t3,1,none⟩=some (.int .i64 sy):=by simp only[World.cell?,b32];rfl
       have ex1:(w1.setCell ⟨t5,0,none⟩ (.slice g1a g1n g1c)).cell? ⟨Bx,1,none⟩=some (.int .i64 y):=by simp only[World.cell?,hne2];rfl
       have HZ:=jd3 (HM.out.2.2.2.2.2.1.trans hk9) (HM.out.2.2.2.2.2.2.trans hkp9) hiq9;clear hk9 hkp9 hiq9 ho' hg' hb' hne2 b32
       gi_wp2
       exact⟨HZ.out.1.from _,HZ.out.2.1,HI.out _ (by rw[HR.out];exact HZ.out.2.2)⟩
     ·have t4:decide (x<sx)=false:=by simpa using h4
      by_cases h5:sy<y
      ·have t5a:decide (sy<y)=true:=by simpa using h5
       have HR:Hid (subR (sx,sy) A (x,y)=A++[(sy,y)]):=hid (by unfold subR;rw[hmy];simp[h2,h3,h4,h5]);clear hmy;have hbA:Below wm.heap.size wm (wm.alloc (.cells #[.int .i64 sy,.int .i64 y] 111)):=brf.alloc nlr _;have hoA:=HM.out.1.below hbA nlr;have hcl:∀ j u,([spC (sy,y)].flatten:List Value)[j]? = some u->(wm.alloc (.cells #[.int .i64 sy,.int .i64 y] 111)).cell? ⟨wm.heap.size,j,none⟩=some u:=by
        intro j u hu;rw[World.cell?_alloc_at _ _ _ _ (by first|rfl|simp)];simpa using hu
       have hbs:base2<=(wm.alloc (.cells #[.int .i64 sy,.int .i64 y] 111)).heap.size:=Nat.le_trans HM.out.2.2.2.2.1 hbA.size;have HG:=jd3 hoA hcl hbs;clear hbA hoA hcl hbs
       gi_wp2_with (gi_at_builtin;refine append_gi _ rfl _ _ 32 111 _ 2 16 rfl underlying32 info111 rfl (by decide) base2 _ ((A).map spC) rfl HG.out.1 wm.heap.size 1 1 [spC (sy,y)] rfl rfl (by simp) HG.out.2.1 (by intro u hu;simp at hu;rcases hu with rfl|rfl<;>rfl) (by rw[List.length_map];have:=HLN.out;(try simp only[List.length_append,List.length_cons,List.length_nil]);omega) (by rw[List.length_map];have:=HLN.out;(try simp only[List.length_append,List.length_cons,List.length_nil]);omega) HG.out.2.2 ?_)
       intro v1 w1 ho' hg' hb';obtain⟨g1a,g1n,g1c,rfl⟩:=ownG_sh2 ho';obtain⟨c5',f5',hk9,hkp9,hiq9⟩:=iq_app (t5:=t5) (news:=[(sy,y)]) (bx':=subB t3 t5 sx sy) HQ.out.2.2.1 p7 p8 p4 (by omega) HM.out.1 HM.out.2.1 HM.out.2.2.1 HM.out.2.2.2.1 HM.out.2.2.2.2.1 (by simp[subB]) (by simpa using ho') hg' hb' (subB_bx (by omega));have HZ:=jd3 (HM.out.2.2.2.2.2.1.trans (hk9)) (HM.out.2.2.2.2.2.2.trans (hkp9)) hiq9;clear hk9 hkp9 hiq9 ho' hg' hb'
       gi_wp2
       exact⟨HZ.out.1.from _,HZ.out.2.1,HI.out _ (by rw[HR.out];simpa[List.append_assoc] using HZ.out.2.2)⟩
      ·have t5a:decide (sy<y)=false:=by simpa using h5
       have HR:Hid (subR (sx,sy) A (x,y)=A):=hid (by unfold subR;rw[hmy];simp[h2,h3,h4,h5]);clear hmy
       gi_wp2
       exact⟨HM.out.2.2.2.2.2.1.from _,HM.out.2.2.2.2.2.2,HI.out _ (by rw[HR.out];exact⟨_,HM.out.1,HM.out.2.1,HM.out.2.2.1,HM.out.2.2.2.1,HM.out.2.2.2.2.1⟩)⟩
 case done =>
  rintro D zs W hD rfl ⟨v,ho,hb,ht,hw,hs⟩ hK;have HI0:subS l (sx,sy)=subI (sx,sy) (allS l):=rfl;obtain⟨A,hA⟩:∃ A,A=subI (sx,sy) (allS l):=⟨_,rfl⟩
  rw[<-hA] at ho HI0;clear hA;have b5:=(hb (t5,#[v],32) (by simp[subB])).2;obtain⟨va,vn,vc,rfl⟩:=ownG_sh2 ho;have c5:W.cell? ⟨t5,0,none⟩=some (.slice va vn vc):=by simp[World.cell?,b5]
  have hb4:Below w.heap.size w w4:=HQ.out.2.2.2.1;have HX:=jd4 ho HI0 hK (hb4.trans hw);clear ho hb ht hw b5 HI0 hK hb4
  gi_wp2
  refine⟨by simp,.inl ⟨_,_,rfl,run_takeDeferred HX.out.2.2.1,?_⟩⟩;refine⟨_,results_tmp rfl _ _ _,_,rfl,?_,HX.out.2.2.2.trans (belowK_b (w:=w4) (by have:=HQ.out.2.2.2.2;omega) _ D _ _ hD HX.out.2.2.1 rfl rfl)⟩;have h9:=HX.out.1.any_base p7;rw[HX.out.2.1];exact⟨ownsRow_putObj h9.1 _ HX.out.2.2.1 rfl,h9.2⟩
 case stop =>
  rintro D c pre W _ _ h _;exact h.elim
theorem sub_any (l:List Sp)(s:Sp)(v:Value)(w:World)(hl:l.length<=10000000000)(h:SpS w w.heap.size v l) :
  Calls prog 117 #[v,spV s] w fun e w'=>∃ v',e = .returned v'/\OwnG w' w.heap.size 111 2 v' ((subS l s).map spC)/\Below w.heap.size w w' :=
 callsIn_wide.1 (sub_in 5 (by omega) l s v w hl h)
open Go.RowKit Go.Mx Go.Md
section
variable {w w':World}{base:Nat}{v:Value}{l:List BM}{ps:List PB}
theorem sizes_any (h:BMS w base v l ps)(hbase:base<=w.heap.size)(was now:Nat)(hw:was<=100000)(hn:now<=100000):Calls prog 86 #[v,.int .i64 was,.int .i64 now] w fun e w'=>∃ v' ps',e = .returned v'/\BMS w' base v' (sizes l was now) ps'/\NewB w.heap.size v'/\Below w.heap.size w w':=by
 have HO:=hid (own_any h hbase);have H:=jd2 h hbase;have hsz:sizes l was now=l.map (sizeB was now):=by unfold sizes;rw[if_neg (by omega)]
 rw[hsz];obtain⟨oa,n,c,rfl⟩:=ownG_sh h.o;clear h hbase hsz;go_enter func86,ntmps86
 go_wp2_with fail
 refine HO.out.mono ?_;rintro e w1 ⟨v1,ps1,rfl,hB1,hnew,hb1⟩;obtain⟨xa,xn,xc,rfl⟩:=ownG_sh hB1.o;have hlen:=hB1.len;have H1:=jd3 hB1 hb1 hnew;clear hB1 hb1 hnew HO;have d1:decide ((was:Int)<0)=false:=by simp
 have d2:decide ((1073741824:Int)<(was:Int))=false:=by simp;omega
 have d3:decide ((now:Int)<0)=false:=by simp
 have d4:decide ((1073741824:Int)<(now:Int))=false:=by simp;omega
 go_wp2_with fail
 clear d1 d2 d3 d4
 go_loopw [28] (fun s11 wr=>∃ (i:Nat) (l':List BM) (ps':List PB),s11 = .int .i64 i/\i<=l.length/\l'=(l.take i).map (sizeB was now)++l.drop i/\BMS wr base (.slice xa xn xc) l' ps'/\Below w.heap.size w wr) (fun s11 _=>l.length-(intOf s11).toNat)
 case atStart=>exact⟨0,l,ps1,rfl,by omega,by simp,H1.out.1,H1.out.2.1⟩
 case round =>
  obtain⟨i,l',ps',rfl,hi,hl',hB,hbl⟩:=hrel;have hn100:l.length<=100:=H.out.1.n;have hll:l'.length=l.length:=by rw[hl'];simp;omega
  by_cases hlt:i<l.length
  ·obtain⟨p,hp,hlp⟩:=hB.get (by omega:i<l'.length);obtain⟨g,n',c',hv,hg,⟨cc,hgc⟩,hia⟩:=hB.place hp;simp only[Value.slice.injEq] at hv;obtain⟨rfl,rfl,rfl⟩:=hv;obtain⟨⟨nm,on,bl⟩,lv⟩:=p;have hc2:=hB.cellAt hp 2 _ rfl;have hpm:=List.mem_of_getElem? hp;have hlk:bl.length<=3000000000:=hB.k _ (List.mem_of_getElem? hlp);have hli:l[i]? = some ⟨nm,on,bl⟩:=by
    have:=hlp;simp only at this;rw[hl',List.getElem?_append_right (by simp;omega)] at this;simp only[List.length_map,List.length_take,Nat.min_eq_left hi,Nat.sub_self,List.getElem?_drop,Nat.add_zero] at this;exact this
   have hnx:∀ b',sizeB was now ⟨nm,on,bl⟩=b'->l'.set i b'=(l.take (i+1)).map (sizeB was now)++l.drop (i+1):=fun b' hb'=>by
    rw[hl',List.take_add_one,hli,List.map_append,List.drop_eq_getElem_cons hlt];have hlen:((l.take i).map (sizeB was now)).length=i:=by simp;omega
    rw[List.set_append_right _ _ (by omega),hlen,Nat.sub_self,List.set_cons_zero,<-hb'];simp
   have hnxx:=hnx _ rfl;obtain⟨o,ho⟩:∃ o,o=i*3:=⟨_,rfl⟩
   rw[<-ho] at hia hc2;have hsp:OwnG wr base 111 2 lv (bl.map spC):=hB.s _ hpm;have HA:=hid (sub_any bl (now,1073741824) lv wr (by omega) hsp.slG);obtain⟨la,ln,lc,rfl⟩:∃ a n c,lv = .slice a n c:=ownG_sh hsp;have HX:=jd7 hB hbl hnxx hp hlk ho hll;clear hB hbl hp hlp hlk hpm ho hg hgc hli hnx hl' hll hsp hnxx;go_upto_region 8 with(go_at_call 117;refine HA.out.mono ?_;rintro e w5 ⟨v5,rfl,ho5,hb5⟩;obtain⟨ya,yn,yc,rfl⟩:=ownG_sh ho5;have hf5:w5.frozen? ⟨g,o+2,none⟩=false:=(HX.out.1.below hb5).fz _;have hc5:w5.cell? ⟨g,o+2,none⟩=some (.slice la ln lc):=(by rw[HX.out.2.2.2.2.2.1];exact(HX.out.1.below hb5).cellAt HX.out.2.2.2.1 2 _ rfl))
   obtain⟨w6,hw6⟩:∃ z,z=w5.setCell ⟨g,o+2,none⟩ (.slice ya yn yc):=⟨_,rfl⟩
   rw[<-hw6];have hgw:w.heap.size<=g:=H1.out.2.2 g rfl;have hB6:=(HX.out.1.below hb5).setL HX.out.2.2.2.1 (ho5.any_base (Nat.le_trans H.out.2 HX.out.2.1.size)) (subS_len _ _);rw[<-HX.out.2.2.2.2.2.1,<-hw6] at hB6;have hb6:Below w.heap.size w w6:=by rw[hw6];exact(HX.out.2.1.trans (hb5.mono HX.out.2.1.size)).setCell hgw _
   have hp6:(ps'.set i ⟨⟨nm,on,subS bl (now,1073741824)⟩,.slice ya yn yc⟩)[i]? = some ⟨⟨nm,on,subS bl (now,1073741824)⟩,.slice ya yn yc⟩:=by
    rw[List.getElem?_set_self (by have:=(List.getElem?_eq_some_iff.1 HX.out.2.2.2.1).1;exact this)]
   have c1:=hB6.cellAt hp6 1 _ rfl;have c2:=hB6.cellAt hp6 2 _ rfl;rw[<-HX.out.2.2.2.2.2.1] at c1 c2;have hsp6:OwnG w6 base 111 2 (.slice ya yn yc) ((subS bl (now,1073741824)).map spC):=hB6.s _ (List.mem_of_getElem? hp6);have HA6:=hid (add_any (subS bl (now,1073741824)) (was,now) (.slice ya yn yc) w6 (by have:=subS_len bl (now,1073741824);omega) hsp6.slG);have HY:=jd4 hB6 hb6 hp6 hgw;clear hw6 hf5 hc5 ho5 hb5 hB6 hb6 hp6 hc2 hsp6 hgw HA;cases on
   ·go_wp2_with fail
    refine⟨⟨i+1,_,_,by go_num,by omega,?_,HY.out.1,HY.out.2.1⟩,by simp[intOf];omega⟩;have h9:=HX.out.2.2.1;rw[show sizeB was now ⟨nm,false,bl⟩=⟨nm,false,subS bl (now,1073741824)⟩ from rfl] at h9;exact h9
   ·by_cases hwn:was<now
    ·have t1:decide (was<now)=true:=by simpa using hwn
     have HWN:=hid hwn;clear hwn;go_upto_region 10 with(go_at_call 116;refine HA6.out.mono ?_;rintro e w7 ⟨v7,rfl,ho7,hb7⟩;obtain⟨za,zn,zc,rfl⟩:=ownG_sh ho7;have hf7:w7.frozen? ⟨g,o+2,none⟩=false:=(HY.out.1.below hb7).fz _;have hc7:w7.cell? ⟨g,o+2,none⟩=some (.slice ya yn yc):=(by rw[HX.out.2.2.2.2.2.1];exact(HY.out.1.below hb7).cellAt HY.out.2.2.1 2 _ rfl))
     obtain⟨w8,hw8⟩:∃ z,z=w7.setCell ⟨g,o+2,none⟩ (.slice za zn zc):=⟨_,rfl⟩
     rw[<-hw8];have hB8:=(HY.out.1.below hb7).setL HY.out.2.2.1 (ho7.any_base (Nat.le_trans H.out.2 HY.out.2.1.size)) (addS_len _ _);rw[<-HX.out.2.2.2.2.2.1,<-hw8] at hB8;have hb8:Below w.heap.size w w8:=by rw[hw8];exact(HY.out.2.1.trans (hb7.mono HY.out.2.1.size)).setCell HY.out.2.2.2 _
     have HZ:=jd2 hB8 hb8;clear hB8 hb8 hw8 hf7 hc7 ho7 hb7 c1 c2
     go_wp2_with fail
     refine⟨⟨i+1,_,_,by go_num,by omega,?_,HZ.out.1,HZ.out.2⟩,by simp[intOf];omega⟩;have h9:=HX.out.2.2.1;rw[show sizeB was now ⟨nm,true,bl⟩=⟨nm,true,addS (subS bl (now,1073741824)) (was,now)⟩ by unfold sizeB;simp[HWN.out]] at h9;rw[List.set_set];exact h9
    ·have t1:decide (was<now)=false:=by simpa using hwn
     have HWN:=hid hwn;clear hwn
     go_wp2_with fail
     refine⟨⟨i+1,_,_,by go_num,by omega,?_,HY.out.1,HY.out.2.1⟩,by simp[intOf];omega⟩;have h9:=HX.out.2.2.1;rw[show sizeB was now ⟨nm,true,bl⟩=⟨nm,true,subS bl (now,1073741824)⟩ by unfold sizeB;simp[HWN.out]] at h9;exact h9
  ·obtain rfl:i=l.length:=by omega
   have HX:=jd3 hB hbl hl';clear hB hbl hl'
   go_wp2_with fail
   go_ret
   refine⟨_,ps',rfl,?_,H1.out.2.2,HX.out.2.1⟩;have:=HX.out.2.2;rw[List.take_length,List.drop_length,List.append_nil] at this;rw[<-this];exact HX.out.1
end
end Go.Proofs.YtgkabcaodnofnaaGreat
