import Derived.Test.YtgkabcaodnofnaaGreatB02
import Derived.Test.YtgkabcaodnofnaaGreatB36
import Derived.Test.YtgkabcaodnofnaaGreatB37
set_option linter.unusedSimpArgs false
set_option linter.unusedVariables false
set_option maxRecDepth 100000
set_option maxHeartbeats 2000000
open Go.Proofs.Tryz
namespace Go.Proofs.YtgkabcaodnofnaaGreat
open Go.RowKit Go.Mx Go.Md Go.Str
structure ER (w2 wr:World)(bx:Nat)(full:Bool)(size:Nat)(ps:List (Rec×Value))(rv:Value):Prop where
 b:Below w2.heap.size w2 wr
 q:wr.heap[bx]? = some (.cells #[.bool full,.int .i64 size,rv] 54 (0,0))
 o:OwnG wr w2.heap.size 98 2 rv (ps.map fun p=>[.int .i64 p.1.at_,p.2])
 d:∀ p∈ps,OwnB wr w2.heap.size 5 p.2 p.1.data
 g:w2.heap.size<=bx
variable {w2 wr wr':World}{bx:Nat}{full:Bool}{size:Nat}{ps:List (Rec×Value)}{rv:Value}
theorem ER.below (h:ER w2 wr bx full size ps rv)(hb:Below wr.heap.size wr wr'):ER w2 wr' bx full size ps rv :=
 ⟨h.b.trans (hb.mono h.b.size),(hb.block bx (blk_lt h.q)).trans h.q,h.o.below hb nlr,fun p hp=>(h.d p hp).below hb (fun q hq=>(h.d p hp).lt q hq),h.g⟩
theorem ER.cells (h:ER w2 wr bx full size ps rv):wr.cell? ⟨bx,0,none⟩=some (.bool full)/\wr.cell? ⟨bx,1,none⟩=some (.int .i64 size)/\wr.cell? ⟨bx,2,none⟩=some rv/\wr.frozen? ⟨bx,2,none⟩=false:=by
 have h:=h.q;refine⟨?_,?_,?_,?_⟩<;>simp[World.cell?,World.frozen?,h]
theorem ER.slR (h:ER w2 wr bx full size ps rv):Sb.SlR wr wr.heap.size rv (ps.map (·.1)):=by
 refine⟨ps.map fun p=>[.int .i64 p.1.at_,p.2],by simp,h.o.slG,fun i hi=>?_⟩;have hi':i<ps.length:=by simpa using hi
 refine⟨ps[i].2,?_,?_⟩
 ·simp[List.getD_eq_getElem?_getD,List.getElem?_map,List.getElem?_eq_getElem hi']
 ·have:=(h.d ps[i] (List.getElem_mem _)).slB;simpa[List.getD_eq_getElem?_getD,List.getElem?_map,List.getElem?_eq_getElem hi'] using this
theorem ER.put {w9:World}(h:ER w2 wr bx full size ps rv)(p:Rec×Value)(hd:OwnB wr w2.heap.size 5 p.2 p.1.data){v9:Value}(ho:OwnG w9 w2.heap.size 98 2 v9 ((ps.map fun p=>[.int .i64 p.1.at_,p.2])++[[.int .i64 p.1.at_,p.2]]))(hg:wr.grownBy w9 rv.ownBlock)(hb:Below w2.heap.size wr w9) :
  w9.heap[bx]? = some (.cells #[.bool full,.int .i64 size,rv] 54 (0,0))/\ER w2 (w9.setCell ⟨bx,2,none⟩ v9) bx full size (ps++[p]) v9:=by
 have hnb:rv.ownBlock≠some bx:=fun e=>by
  obtain⟨c,f,h1⟩:=ownG_type h.o bx e;rw[h.q] at h1;cases h1
 have hq9:w9.heap[bx]? = some (.cells #[.bool full,.int .i64 size,rv] 54 (0,0)):=(hg.block bx (blk_lt h.q) (Ne.symm hnb)).trans h.q;have hk:Kept wr w9 (fun b=>rv.ownBlock≠some b):=Kept.grown hg fun k hk=>by rw[hk];simp
 have hd9:∀ y∈ps++[p],OwnB w9 w2.heap.size 5 y.2 y.1.data:=fun y hy=>by
  have hy0:OwnB wr w2.heap.size 5 y.2 y.1.data:=by
   rcases List.mem_append.1 hy with h1|h1
   ·exact h.d y h1
   ·rw[List.mem_singleton.1 h1];exact hd
  exact hy0.kept hk fun q hq e=>by
   obtain⟨c,f,h1⟩:=ownB_type hy0 q hq;obtain⟨c2,f2,h2⟩:=ownG_type h.o q e;rw[h1] at h2;cases h2
 refine⟨hq9,⟨(h.b.trans hb).setCell h.g _,by rw[heap_setCell_at' w9 bx 2 _ _ 54 _ hq9];rfl,?_,fun y hy=>?_,h.g⟩⟩
 ·rw[List.map_append];exact ho.kept (N:=(·≠bx)) (Kept.set _ _ _ _ (by simp)) fun q hq e=>by
   obtain⟨c1,f1,h1⟩:=ownG_type ho q hq;rw[e,hq9] at h1;cases h1
 ·exact(hd9 y hy).kept (N:=(·≠bx)) (Kept.set _ _ _ _ (by simp)) fun q hq e=>by
   obtain⟨c1,f1,h1⟩:=ownB_type (hd9 y hy) q hq;rw[e,hq9] at h1;cases h1
theorem info98':(prog.info? 98).map (fun i=>(i.zero,i.size,i.bytes))=some (some (.agg #[.int .i64 0,.slice none 0 0]),2,32):=by kernel_rfl
theorem ER.app (h:ER w2 wr bx full size ps rv)(p:Rec×Value)(hd:OwnB wr w2.heap.size 5 p.2 p.1.data) :
  OwnG (wr.alloc (.cells #[.int .i64 p.1.at_,p.2] 98)).drew w2.heap.size 98 2 rv (ps.map fun p=>[.int .i64 p.1.at_,p.2])/\(∀ (j:Nat) (u:Value),([.int .i64 p.1.at_,p.2]:List Value)[j]? = some u->(wr.alloc (.cells #[.int .i64 p.1.at_,p.2] 98)).drew.cell? ⟨wr.heap.size,j,none⟩=some u)/\
  w2.heap.size<=(wr.alloc (.cells #[.int .i64 p.1.at_,p.2] 98)).drew.heap.size/\Below wr.heap.size wr (wr.alloc (.cells #[.int .i64 p.1.at_,p.2] 98)).drew/\
  ∀ v9 w9,OwnG w9 w2.heap.size 98 2 v9 ((ps.map fun p=>[.int .i64 p.1.at_,p.2])++[[.int .i64 p.1.at_,p.2]])->(wr.alloc (.cells #[.int .i64 p.1.at_,p.2] 98)).drew.grownBy w9 rv.ownBlock->Below w2.heap.size (wr.alloc (.cells #[.int .i64 p.1.at_,p.2] 98)).drew w9->
   w9.frozen? ⟨bx,2,none⟩=false/\w9.cell? ⟨bx,2,none⟩=some rv/\ER w2 (w9.setCell ⟨bx,2,none⟩ v9) bx full size (ps++[p]) v9:=by
 have hb:Below wr.heap.size wr (wr.alloc (.cells #[.int .i64 p.1.at_,p.2] 98)).drew:=(brf.alloc nlr _).drew;have hrow:∀ (j:Nat) (u:Value),([.int .i64 p.1.at_,p.2]:List Value)[j]? = some u->(wr.alloc (.cells #[.int .i64 p.1.at_,p.2] 98)).drew.cell? ⟨wr.heap.size,j,none⟩=some u:=fun j u hu=>row_cells wr [.int .i64 p.1.at_,p.2] 98 j u hu;have h8:=h.below hb;refine⟨h8.o,hrow,h8.b.size,hb,fun v9 w9 ho hg hb9=>?_⟩;have h9:=h8.put p (hd.below hb (fun q hq=>hd.lt q hq)) ho hg hb9;exact⟨by simp[World.frozen?,h9.1],by simp[World.cell?,h9.1],h9.2⟩
theorem cmd52_any:CmdOk 52 HasN exportF:=by
 intro w base mb M X c dv h hM hbase hfr hC hp;obtain⟨da,dn,dc,rfl⟩:=slB_shape hC.d.slB;obtain⟨x,hx,hxn,hfx⟩:=has_x h hC hp;have hok:=h.a.ok x hx;obtain⟨ma,mn,mc,hmv⟩:=ownG_sh (h.a.i x hx).maps.o;obtain⟨w2,hw2,P⟩:=pro_of w c (.slice da dn dc);have f0:=P.m0 h;have f1:=P.c1;have f2:=P.c2;have lk:=P.l0 h hx hxn;have i0:=P.i0 h hx;have i1:=P.i1 h hx;have i3:=P.i3 h hx;have i5:∀ w',Below w2.heap.size w2 w'->w'.cell? ⟨x.ib,5,none⟩=some (.slice ma mn mc):=fun w' hB=>by rw[((P.mo h w' (P.wd _ hB)).a.i x hx).cells.2.2.2.2.2.1,hmv]
 have HB:=hid (fun w' (hB:Below w2.heap.size w2 w')=>place93 ((P.mo h w' (P.wd _ hB)).a.i x hx) (Nat.le_trans hbase (P.bel (P.wd _ hB)).size) hok.ns c.tt);have hcl6:=hok.cl;obtain⟨nk,hnk⟩:∃ nk,nk=x.i.size/2^x.i.cl:=⟨_,rfl⟩
 have hmin:min x.i.cl 64=x.i.cl:=Nat.min_eq_left (by omega);have hsh:((x.i.size:Int)/2^min x.i.cl 64)=(nk:Int):=by rw[hmin,hnk];push_cast;rfl
 have hnl:nk<=4096:=by rw[hnk];exact Nat.le_trans (Nat.div_le_self _ _) hok.size
 have hpow:2^x.i.cl<=64:=by have:=Nat.pow_le_pow_right (n:=2) (by omega) hcl6;omega
 have hmul:nk*2^x.i.cl<=4096:=by rw[hnk];exact Nat.le_trans (Nat.div_mul_le_self _ _) hok.size
 have hd8:dep M.all 8 x.i.back:=by
  obtain⟨e,h1,h2,_⟩:=dep_min hfx (hM.dp c.name);exact dep_le h2 (by omega)
 have HSH:=hid (fun w' (hB:Below w2.heap.size w2 w') (A N:Nat) (hA:A<=4096) (hN:N<=4096)=>sho_all 8 w' base mb X.am M.all X.xs x.i x.ib base x.x.om x.i.size _ x.i.own x.x.ol A N (P.mo h w' (P.wd _ hB)).mod0 (P.mo h w' (P.wd _ hB)).a ((P.mo h w' (P.wd _ hB)).a.i x hx).ic ((P.mo h w' (P.wd _ hB)).a.i x hx).own hok.own hok.cl hok.nb hd8 hok.size hA hN);have HMP:=hid (fun w' (hB:Below w2.heap.size w2 w')=>((P.mo h w' (P.wd _ hB)).a.i x hx).maps);have hsh2:((x.i.size:Int)/2^x.i.cl)=(nk:Int):=by rw[hnk];push_cast;rfl
 have HSH2:=hid hsh2;have HS:=jd6 hsh hmin hpow hmul hnk hnl;have HW:=hid hw2;have HP:=hid P;have HM:=hid h;have HK:=jd5 hM hbase hfr hC hp;have HX:=jd4 hx hxn hfx hok;have HMV:=hid hmv;have ef0:=f0 w2 brf;have ef1:=f1 w2 brf;have ef2:=f2 w2 brf;have elk:=lk w2 brf;have ei0:=i0 w2 brf;have ei1:=i1 w2 brf;have ei3:=i3 w2 brf;have ei5:=i5 w2 brf;clear hw2 P h hM hfr hC hp hxn hfx hok hmv hcl6 hnk hmin hsh hsh2 hnl hpow hmul hd8;go_enter func52,ntmps52
 go_upto_region 1 with(fail)
 rw[<-HW.out]
 go_region_held (fun w'=>Below w2.heap.size w2 w') (first|with_reducible exact brf.drew|with_reducible assumption|with_reducible exact Below.drew (by assumption)) (fail)
 obtain⟨w3,hw3⟩:∃ z,z=w2.drew:=⟨_,rfl⟩
 have hb3:Below w2.heap.size w2 w3:=by rw[hw3];exact brf.drew
 rw[<-hw3];clear hw3 ef0 ef1 ef2 elk ei0 ei1 ei3 ei5;have g2:=f2 w3 hb3;obtain⟨po,hpo⟩:∃ po,po=posN (x.i.maps.map (·.name)) c.tt:=⟨_,rfl⟩
 rw[posI_pv,<-hpo] at HB;have HPO:=hid hpo;clear hpo f0 f1 lk;by_cases ht:c.tt=[]
 ·have et:(c.tt==[])=true:=by simpa using ht
  have HT:=hid ht;clear ht;obtain⟨bl,hbl⟩:∃ bl,bl=(((posN (x.i.maps.map (·.name)) c.tt).bind fun k=>x.i.maps[k]?).elim [] (·.l)):=⟨_,rfl⟩
  have HBL:=hid hbl;clear hbl;obtain⟨pk,hpk⟩:∃ pk:Int,pk=pvO po:=⟨_,rfl⟩
  rw[<-hpk] at HB;clear hpk;go_upto_region 3 with(go_at_call 93;refine(HB.out _ hb3).mono ?_;rintro e w4 ⟨rfl,hb4⟩)
  have hb4':Below w2.heap.size w2 w4:=hb3.trans (hb4.mono hb3.size);have g24:=f2 w4 hb4';have gi1:=i1 w4 hb4';go_upto_region 5 with(fail)
  have hB0:Below w2.heap.size w2 w4.drew:=hb4'.drew;refine wp_region_K 9 (fun w'=>Below w2.heap.size w2 w') (by kernel_rfl) ?_;refine qk 0 ?_;try simp only[nk]
  refine rq 1 ?_;try simp only[nk]
  refine rq 2 ?_;try simp only[nk]
  refine qk 3 ?_;try simp only[nk]
  refine qk 4 ?_;try simp only[nk]
  refine qk 5 ?_;try simp only[nk]
  refine rq 6 ?_;try simp only[nk]
  refine qk 7 ?_;try simp only[nk]
  refine wpAnyK_ready (rs:=[8]) (by kernel_rfl) (by simp) (AllReadyK.cons rfl (fun K hK=>?_) AllReadyK.nil);go_simp
  refine hK.out _ _ (fun _=>Below.alloc (by assumption) (Below.size (by assumption)) _) ?_;clear hK K
  try simp only[nk]
  refine wpAnyK_ready (rs:=[9]) (by kernel_rfl) (by simp) (AllReadyK.cons rfl (fun K hK=>?_) AllReadyK.nil);go_simp
  refine hK.out _ _ (fun h=>by cases h) ?_;clear hK K
  try simp only[nk]
  refine wpAnyK_done (by kernel_rfl) ?_ _;obtain⟨w6,hw6⟩:∃ z,z=(w4.alloc (.cells #[.bool true,.int .i64 x.i.size,.slice none 0 0] 54)).drew:=⟨_,rfl⟩
  rw[<-hw6];have hb46:Below w4.heap.size w4 w6:=by rw[hw6];exact(brf.alloc nlr _).drew
  have hb6:Below w2.heap.size w2 w6:=hb4'.trans (hb46.mono hb4'.size);have q6:w6.heap[w4.heap.size]? = some (.cells #[.bool true,.int .i64 x.i.size,.slice none 0 0] 54 (0,0)):=by rw[hw6];exact alloc_new w4 _
  obtain⟨bx,hbx⟩:∃ q,q=w4.heap.size:=⟨_,rfl⟩
  rw[<-hbx] at q6 ⊢;have HI:=hid (⟨hb6,q6,OwnG.nil _ _ _ _,by simp,by rw[hbx];exact hb4'.size⟩:ER w2 w6 bx true x.i.size [] nilS);clear hw6 hb46 q6 hbx hb4' hb4 hB0 g24 gi1 f2;have hsh:=HS.out.1;have hnl:=HS.out.2.2.2.2.2;go_upto_region 6 with(fail)
  go_region_held (fun w'=>Below w2.heap.size w2 w') (first|with_reducible exact hb6.drew|with_reducible assumption|with_reducible exact Below.drew (by assumption)) (fail)
  obtain⟨w7,hw7⟩:∃ z,z=w6.drew:=⟨_,rfl⟩
  rw[<-hw7];have HI7:Hid (ER w2 w7 bx true x.i.size [] nilS):=hid (HI.out.below (by rw[hw7];exact brf.drew));clear hw7 hb6
  go_wp2_with fail
  clear hsh
  go_loopw [48] (fun s wr=>∃ (k:Nat) (rv:Value) (ps:List (Rec×Value)),s = .int .i64 k/\k<=nk/\Hid (ER w2 wr bx true x.i.size ps rv/\ps.map (·.1)=expS M.all x.i true bl k/\ps.length<=k)) (fun s _=>nk-(intOf s).toNat)
  case atStart=>exact⟨0,nilS,[],rfl,Nat.zero_le _,hid ⟨HI7.out,by rw[expS_zero];rfl,nlr⟩⟩
  case round =>
   obtain⟨k,rv,ps,rfl,hk,hR⟩:=hrel;obtain⟨wO,hwO⟩:∃ q,q=wr:=⟨_,rfl⟩
   subst hwO;obtain⟨ra,rn,rc,rfl⟩:=ownG_sh hR.out.1.o;by_cases hlt:k<nk
   ·obtain⟨A,hA⟩:∃ q,q=k*2^x.i.cl:=⟨_,rfl⟩
    obtain⟨N,hN⟩:∃ q,q=2^x.i.cl:=⟨_,rfl⟩
    have hNl:N<=64:=by rw[hN];exact HS.out.2.2.1
    have hAl:A<=4096:=by rw[hA];exact Nat.le_trans (Nat.mul_le_mul_right _ (Nat.le_of_lt hlt)) HS.out.2.2.2.1
    have hshl1:IntKind.i64.wrap ((k:Int)*2^min x.i.cl 64)=(A:Int):=by
     rw[HS.out.2.1,show((k:Int)*2^x.i.cl)=((k*2^x.i.cl:Nat):Int) by push_cast;rfl,<-hA,IntWalk.i64_in _ (by omega)]
    have hshl2:IntKind.i64.wrap ((1:Int)*2^min x.i.cl 64)=(N:Int):=by
     rw[HS.out.2.1,show((1:Int)*2^x.i.cl)=((2^x.i.cl:Nat):Int) by push_cast;omega,<-hN,IntWalk.i64_in _ (by omega)]
    have hshl3:IntKind.i64.wrap ((2:Int)^min x.i.cl 64)=(N:Int):=by rw[<-hshl2,Int.one_mul]
    have hshl4:IntKind.i64.wrap ((k:Int)*2^x.i.cl)=(A:Int):=by rw[<-hshl1,HS.out.2.1]
    have hshl5:IntKind.i64.wrap ((1:Int)*2^x.i.cl)=(N:Int):=by rw[<-hshl2,HS.out.2.1]
    have hshl6:IntKind.i64.wrap ((2:Int)^x.i.cl)=(N:Int):=by rw[<-hshl3,HS.out.2.1]
    obtain⟨BS,hBS⟩:∃ q,q=secs (secIn M.all 8 x.i x.i.size x.i.own) A N:=⟨_,rfl⟩
    have HSQ:Hid (∀ w',Below wO.heap.size wO w'->Calls prog 27 #[pt mb,pt x.ib,.int .i64 x.i.size,.map (some x.x.om),.int .i64 A,.int .i64 N] w' fun e w''=>∃ v,e = .returned v/\FullB w'' w'.heap.size v BS/\Below w'.heap.size w' w''):=hid (fun w' hB=>by rw[hBS];exact HSH.out w' (hR.out.1.b.trans (hB.mono hR.out.1.b.size)) A N hAl (by omega));have HAN:=jd3 hA hN hBS;have d0:∀ w',Below wO.heap.size wO w'->w'.cell? ⟨bx,0,none⟩=some (.bool true):=fun w' hB=>(hR.out.1.below hB).cells.1;have k0:∀ w',Below wO.heap.size wO w'->w'.cell? ⟨x.ib,0,none⟩=some (.int .i64 x.i.cl):=fun w' hB=>i0 w' (hR.out.1.b.trans (hB.mono hR.out.1.b.size));have k1:∀ w',Below wO.heap.size wO w'->w'.cell? ⟨x.ib,1,none⟩=some (.int .i64 x.i.size):=fun w' hB=>i1 w' (hR.out.1.b.trans (hB.mono hR.out.1.b.size))
    have k3:∀ w',Below wO.heap.size wO w'->w'.cell? ⟨x.ib,3,none⟩=some (.map (some x.x.om)):=fun w' hB=>i3 w' (hR.out.1.b.trans (hB.mono hR.out.1.b.size));have dO:=d0 wO brf;clear hA hN hBS hshl4 hshl5 hshl6;go_upto_region 10 with(fail)
    go_region_held (fun w'=>Below wO.heap.size wO w') (first|with_reducible exact brf.drew|with_reducible assumption|with_reducible exact Below.drew (by assumption)) (first
     | (go_at_call 27;refine(HSQ.out _ (by assumption)).mono ?_;rintro e w5 ⟨v5,rfl,hf5,hb5⟩;have hb5':=Below.trans (by assumption) (Below.mono hb5 (Below.size (by assumption)));obtain⟨fa,fn,fc,rfl⟩:=ownB_sh hf5.o;have HF5:=jd2 hf5 (Below.size (show Below wO.heap.size wO _ by assumption));clear hf5 hb5))
    obtain⟨b0,hb0⟩:∃ q,q=BS.all (· == 0):=⟨_,rfl⟩
    have HNG:=hid (nought_any HF5.out.1.o.slB);rw[<-hb0] at HNG;have HB0:=hid hb0;clear hb0;have d05:=d0 w5 hb5';cases b0
    ·have HST:Hid (expS M.all x.i true bl (k+1)=expS M.all x.i true bl k++[⟨((A:Nat):Int),BS⟩]):=hid (by
      rw[expS_succ];unfold expR;rw[<-HAN.out.1,<-HAN.out.2.1,<-HAN.out.2.2,if_pos (.inl rfl),if_pos (.inr HB0.out.symm)];rfl)
     go_upto_region 12 with(go_at_call 98;refine HNG.out.mono ?_;rintro e w9 ⟨rfl,hw9⟩;obtain rfl:=hw9.symm)
     have hfd:OwnB w5 w2.heap.size 5 (.slice fa fn fc) BS:=HF5.out.1.o.any_base (by first|exact hR.out.1.b.size|exact Nat.le_trans hR.out.1.b.size hb8'.size);have hER5:=hR.out.1.below hb5';obtain⟨hoA,hrowA,hsA,hbA,hpA⟩:=hER5.app (⟨((A:Nat):Int),BS⟩,.slice fa fn fc) hfd;have HPA:=hid hpA;have hlA2:((List.map (fun p:Rec×Value=>[Value.int .i64 p.1.at_,p.2]) ps).length+1)*32<=140737488355328:=by rw[List.length_map];have:=hR.out.2.2;omega
     have hlA3:(List.map (fun p:Rec×Value=>[Value.int .i64 p.1.at_,p.2]) ps).length+1<=140737488355328:=by rw[List.length_map];have:=hR.out.2.2;omega
     have d2:∀ w',Below w5.heap.size w5 w'->w'.cell? ⟨bx,2,none⟩=some (.slice ra rn rc):=fun w' hB=>(hER5.below hB).cells.2.2.1;have k05:∀ w',Below w5.heap.size w5 w'->w'.cell? ⟨x.ib,0,none⟩=some (.int .i64 x.i.cl):=fun w' hB=>k0 w' (hb5'.trans (hB.mono hb5'.size));have hB05:Below w5.heap.size w5 w5.drew:=brf.drew;clear hpA hER5 hfd d0 d05 k0 k1 k3;refine wp_region_K 11 (fun w'=>Below w5.heap.size w5 w') (by kernel_rfl) ?_;refine qk 0 ?_;try simp only[nk]
     refine rq 1 ?_;try simp only[nk]
     refine qk 2 ?_;try simp only[nk]
     refine qk 3 ?_;try simp only[nk]
     refine qk 4 ?_;try simp only[nk]
     refine qk 5 ?_;try simp only[nk]
     refine rq 6 ?_;try simp only[nk]
     refine rq 7 ?_;try simp only[nk]
     refine qk 8 ?_;try simp only[nk]
     refine qk 9 ?_;try simp only[nk]
     refine wpAnyK_ready (rs:=[10]) (by kernel_rfl) (by simp) (AllReadyK.cons rfl (fun K hK=>?_) AllReadyK.nil);go_simp
     refine hK.out _ _ (fun _=>hbA) ?_;clear hK K
     try simp only[nk]
     refine wpAnyK_ready (rs:=[11]) (by kernel_rfl) (by simp) (AllReadyK.cons rfl (fun K hK=>?_) AllReadyK.nil);refine step_append_gn _ (by rfl) (.tmp 98) (.tmp 107) 52 98 _ 2 32 (by rfl) underlying52 info98' rfl (by decide) w2.heap.size _ _ (by rfl) hoA w5.heap.size 1 [.int .i64 A,.slice fa fn fc] (by rfl) rfl hrowA (by simp[Value.oneCell']) hlA2 hlA3 hsA ?_;intro v9 w9 ho9 hg9 hb9 hq9;obtain⟨ka,kn,kc,rfl⟩:=ownG_sh ho9;obtain⟨z9,c9,hER9⟩:=HPA.out _ _ ho9 hg9 hb9;refine hK.out _ _ (fun h=>by cases h) ?_;clear hK K
     try simp only[nk]
     refine qk 12 ?_;try simp only[nk]
     refine wpAnyK_ready (rs:=[13]) (by kernel_rfl) (by simp) (AllReadyK.cons rfl (fun K hK=>?_) AllReadyK.nil);go_simp
     refine hK.out _ _ (fun h=>by cases h) ?_;clear hK K
     try simp only[nk]
     refine wpAnyK_done (by kernel_rfl) ?_ _
     go_wp2_with fail
     have HB9:=hid hER9
     go_roundw
     case measure=>simp only[intOf];omega
     case rel=>exact⟨k+1,_,_,by go_num,by omega,hid ⟨HB9.out,by rw[List.map_append,hR.out.2.1,HST.out];rfl,by rw[List.length_append];have:=hR.out.2.2;simp;omega⟩⟩
    ·have HST:Hid (expS M.all x.i true bl (k+1)=expS M.all x.i true bl k):=hid (by
      rw[expS_succ];unfold expR;rw[<-HAN.out.1,<-HAN.out.2.1,<-HAN.out.2.2,if_pos (.inl rfl),if_neg (by rintro(h|h);cases h;rw[<-HB0.out] at h;cases h)];simp)
     go_wp2_with (go_at_call 98;refine HNG.out.mono ?_;rintro e w9 ⟨rfl,hw9⟩;obtain rfl:=hw9.symm)
     have HBQ:=hid hb5'
     go_roundw
     case measure=>simp only[intOf];omega
     case rel=>exact⟨k+1,_,ps,by go_num,by omega,hid ⟨hR.out.1.below HBQ.out,by rw[HST.out];exact hR.out.2.1,by have:=hR.out.2.2;omega⟩⟩
   ·obtain rfl:k=nk:=by omega
    have hc:=hR.out.1.cells;have v0:=hc.1;have v1:=hc.2.1;have v2:=hc.2.2.1;obtain⟨st,hst⟩:∃ q,q=expT M.all x.i true bl:=⟨_,rfl⟩
    have hstq:st=⟨true,x.i.size,ps.map (·.1)⟩:=by rw[hst,hR.out.2.1,HS.out.2.2.2.2.1];rfl
    have HPT:=hid (Sb.sput_any ⟨true,x.i.size,ps.map (·.1)⟩ (.slice ra rn rc) wO hR.out.1.slR);rw[<-hstq] at HPT;obtain⟨pc,hpc⟩:∃ q,q=(putR st).2:=⟨_,rfl⟩
    obtain⟨pb,hpb⟩:∃ q,q=(putR st).1:=⟨_,rfl⟩
    rw[<-hpc,<-hpb] at HPT;have HPT2:Hid (Calls prog 99 #[.agg #[.bool true,.int .i64 x.i.size,.slice ra rn rc]] wO fun e w'=>∃ v,e = .returned (.tuple #[v,.int .i64 pc])/\OwnB w' wO.heap.size 5 v pb/\Below wO.heap.size wO w'):=hid (by have h9:=HPT.out;rw[hstq] at h9;exact h9);have HF:Hid (exportF M c=if pc=0 then(M,{data:=pb},0) else(M,failR pc,0)):=hid (by rw[hpc,hpb,hst];unfold exportF;rw[HX.out.2.2.1];simp only;rw[if_neg (fun h=>h.1 HT.out),decide_eq_true HT.out];exact(by rw[HBL.out]));have hRb:=hR.out.1.b;clear HPT hc hst hstq hpc hpb;by_cases hp0:pc=0
    ·subst hp0;have HF0:Hid (exportF M c=(M,{data:=pb},0)):=hid (by rw[HF.out,if_pos rfl]);go_upto_region 17 with(go_at_call 99;refine HPT2.out.mono ?_;rintro e w8 ⟨v8,rfl,ho8,hb8⟩;obtain⟨ga,gn,gc,rfl⟩:=ownB_sh ho8)
     have hb28:=hRb.trans (hb8.mono hRb.size);obtain⟨x0,x1,x2,x3,x4,x5,xz⟩:=zcells (HP.out.z hb28);have hrep:RepOK w8 w.heap.size (rpV 0 (.slice ga gn gc) nilS nilS 0 0) {data:=pb}:=⟨_,_,_,rfl,ho8.any_base (Nat.le_trans HP.out.b.size hRb.size),OwnG.nil _ _ _ _,OwnG.nil _ _ _ _⟩
     obtain⟨W,hW,⟨y0,y1,y2,y3,y4,y5⟩,r1,r2,r3⟩:=end_same HP.out HM.out hb28 hrep;have HR:=jd3 r1 r2 r3;have HWW:=hid hW;clear r1 r2 r3 hW hrep
     go_wp2_with fail
     change bodyPost _ _ _ _ _ (st6 w8 (w.heap.size+1) (.int .i64 0) (.slice ga gn gc) nilS nilS (.int .i64 0) (.int .i64 0));rw[<-HWW.out,HF0.out];clear x0 x1 x2 x3 x4 x5 xz v0 v1 v2;exact bodyPost_ret (v:=rpV 0 (.slice ga gn gc) nilS nilS 0 0) (by simp[results,results52,go_sem,y0,y1,y2,y3,y4,y5]) rfl ⟨_,X,rfl,HR.out.1,HR.out.2.1,rfl,nlr,rfl,HR.out.2.2⟩
    ·have ep0:((pc:Int)==0)=false:=by simpa using(show ¬ (pc:Int)=0 by omega)
     go_upto_region 16 with(go_at_call 99;refine HPT2.out.mono ?_;rintro e w8 ⟨v8,rfl,ho8,hb8⟩;obtain⟨ga,gn,gc,rfl⟩:=ownB_sh ho8)
     have hb28:=hRb.trans (hb8.mono hRb.size);have hbZ:=hb28
     go_wp2_with (go_at_call 21;refine(failed_any (pc:Int) _).mono ?_;rintro e w9 ⟨rfl,hb9⟩;obtain⟨x0,x1,x2,x3,x4,x5,xz⟩:=zcells (HP.out.z (hbZ.trans (hb9.mono hbZ.size))))
     obtain⟨W,hW,⟨y0,y1,y2,y3,y4,y5⟩,r1,r2,r3⟩:=end_fail HP.out HM.out (hbZ.trans (hb9.mono hbZ.size)) (pc:Int);have hF:exportF M c=(M,failR (pc:Int),0):=by
      rw[HF.out,if_neg hp0]
     rw[hF];clear x0 x1 x2 x3 x4 x5 xz hF;change bodyPost _ _ _ _ _ (st6 w9 (w.heap.size+1) (.int .i64 (pc:Int)) nilS nilS nilS (.int .i64 0) (.int .i64 0));rw[<-hW];exact bodyPost_ret (v:=failV (pc:Int)) (by simp[results,results52,go_sem,y0,y1,y2,y3,y4,y5]) rfl ⟨_,X,rfl,r1,r2,rfl,nlr,rfl,r3⟩
 ·have et:(c.tt==[])=false:=by simpa using ht
  have HT:=hid ht;clear ht;cases po with
  | none =>
   rw[show pvO none = -1 from rfl] at HB;go_upto_region 3 with(go_at_call 93;refine(HB.out _ hb3).mono ?_;rintro e w4 ⟨rfl,hb4⟩)
   have hb4':Below w2.heap.size w2 w4:=hb3.trans (hb4.mono hb3.size);have g24:=f2 w4 hb4';go_upto_region 4 with(fail)
   have hbZ:=hb4'
   go_wp2_with (go_at_call 21;refine(failed_any 15 _).mono ?_;rintro e w9 ⟨rfl,hb9⟩;obtain⟨x0,x1,x2,x3,x4,x5,xz⟩:=zcells (HP.out.z (hbZ.trans (hb9.mono hbZ.size))))
   obtain⟨W,hW,⟨y0,y1,y2,y3,y4,y5⟩,r1,r2,r3⟩:=end_fail HP.out HM.out (hbZ.trans (hb9.mono hbZ.size)) 15;have hF:exportF M c=(M,failR 15,0):=by
    unfold exportF;rw[HX.out.2.2.1];simp only;rw[if_pos ⟨HT.out,HPO.out.symm⟩]
   rw[hF];clear x0 x1 x2 x3 x4 x5 xz hF;change bodyPost _ _ _ _ _ (st6 w9 (w.heap.size+1) (.int .i64 15) nilS nilS nilS (.int .i64 0) (.int .i64 0));rw[<-hW];exact bodyPost_ret (v:=failV 15) (by simp[results,results52,go_sem,y0,y1,y2,y3,y4,y5]) rfl ⟨_,X,rfl,r1,r2,rfl,nlr,rfl,r3⟩
  | some kp =>
   rw[show pvO (some kp)=(kp:Int) from rfl] at HB;have hpk0:=(posN_some HPO.out.symm).1;rw[List.getElem?_map] at hpk0;obtain⟨bm,hbm,_⟩:=Option.map_eq_some_iff.1 hpk0;clear hpk0;have hbmm:=List.mem_of_getElem? hbm;obtain⟨p,hp,hpb⟩:=(HMP.out w2 brf).pAt hbm;have hplv:OwnG w2 base 111 2 p.lv (bm.l.map spC):=by have:=(HMP.out w2 brf).s p (List.mem_of_getElem? hp);rw[hpb] at this;exact this
   obtain⟨la,ln,lc,hlv⟩:=ownG_sh hplv;rw[hlv] at hplv;obtain⟨bl,hbl⟩:∃ bl,bl=bm.l:=⟨_,rfl⟩
   rw[<-hbl] at hplv;have HLV:=hid (fun w' (hB:Below w2.heap.size w2 w')=>hplv.below hB nlr);have HLL:Hid (bl.length<=10000000000):=hid (by rw[hbl];exact Nat.le_trans ((HMP.out w2 brf).k bm hbmm) (by omega));have HPLC:Hid (∀ w',Below w2.heap.size w2 w'->∃ b o,(∀ w' (k:IntKind),(Instr.indexAt 43 (.slice ma mn mc) (.int k (kp:Int))).run prog w' = .ok (.pointer (some ⟨b,o,none⟩)) w')/\w'.cell? ⟨b,o+2,none⟩=some (.slice la ln lc)):=hid (fun w' hB=>by
    have h9:=(HMP.out w2 brf).o.slG;rw[HMV.out] at h9;obtain⟨b,o,h1,h2⟩:=slG_addrs h9 (t:=43) underlying43 size108' kp (by rw[List.length_map];exact(List.getElem?_eq_some_iff.1 hp).1);refine⟨b,o,h1,?_⟩;have h3:=h2 w' hB 2 (.slice la ln lc);rw[show(x.x.ps.map pbrow).getD kp []=pbrow p by rw[List.getD_eq_getElem?_getD,List.getElem?_map,hp];rfl] at h3;exact h3 (by simp[hlv]))
   have HBL:Hid (((some kp).bind fun k=>x.i.maps[k]?).elim [] (·.l)=bl):=hid (by simp only[Option.bind_some];rw[hbm,hbl];rfl);clear hbm hbmm hp hpb hplv hlv hbl;go_upto_region 3 with(go_at_call 93;refine(HB.out _ hb3).mono ?_;rintro e w4 ⟨rfl,hb4⟩)
   have hb4':Below w2.heap.size w2 w4:=hb3.trans (hb4.mono hb3.size);have g24:=f2 w4 hb4';have gi1:=i1 w4 hb4';go_upto_region 5 with(fail)
   have hB0:Below w2.heap.size w2 w4.drew:=hb4'.drew;refine wp_region_K 9 (fun w'=>Below w2.heap.size w2 w') (by kernel_rfl) ?_;refine qk 0 ?_;try simp only[nk]
   refine rq 1 ?_;try simp only[nk]
   refine rq 2 ?_;try simp only[nk]
   refine qk 3 ?_;try simp only[nk]
   refine qk 4 ?_;try simp only[nk]
   refine qk 5 ?_;try simp only[nk]
   refine rq 6 ?_;try simp only[nk]
   refine qk 7 ?_;try simp only[nk]
   refine wpAnyK_ready (rs:=[8]) (by kernel_rfl) (by simp) (AllReadyK.cons rfl (fun K hK=>?_) AllReadyK.nil);go_simp
   refine hK.out _ _ (fun _=>Below.alloc (by assumption) (Below.size (by assumption)) _) ?_;clear hK K
   try simp only[nk]
   refine wpAnyK_ready (rs:=[9]) (by kernel_rfl) (by simp) (AllReadyK.cons rfl (fun K hK=>?_) AllReadyK.nil);go_simp
   refine hK.out _ _ (fun h=>by cases h) ?_;clear hK K
   try simp only[nk]
   refine wpAnyK_done (by kernel_rfl) ?_ _;obtain⟨w6,hw6⟩:∃ z,z=(w4.alloc (.cells #[.bool false,.int .i64 x.i.size,.slice none 0 0] 54)).drew:=⟨_,rfl⟩
   rw[<-hw6];have hb46:Below w4.heap.size w4 w6:=by rw[hw6];exact(brf.alloc nlr _).drew
   have hb6:Below w2.heap.size w2 w6:=hb4'.trans (hb46.mono hb4'.size);have q6:w6.heap[w4.heap.size]? = some (.cells #[.bool false,.int .i64 x.i.size,.slice none 0 0] 54 (0,0)):=by rw[hw6];exact alloc_new w4 _
   obtain⟨bx,hbx⟩:∃ q,q=w4.heap.size:=⟨_,rfl⟩
   rw[<-hbx] at q6 ⊢;have HI:=hid (⟨hb6,q6,OwnG.nil _ _ _ _,by simp,by rw[hbx];exact hb4'.size⟩:ER w2 w6 bx false x.i.size [] nilS);clear hw6 hb46 q6 hbx hb4' hb4 hB0 g24 gi1 f2;have hsh:=HS.out.1;have hnl:=HS.out.2.2.2.2.2;go_upto_region 6 with(fail)
   go_region_held (fun w'=>Below w2.heap.size w2 w') (first|with_reducible exact hb6.drew|with_reducible assumption|with_reducible exact Below.drew (by assumption)) (fail)
   obtain⟨w7,hw7⟩:∃ z,z=w6.drew:=⟨_,rfl⟩
   rw[<-hw7];have HI7:Hid (ER w2 w7 bx false x.i.size [] nilS):=hid (HI.out.below (by rw[hw7];exact brf.drew));clear hw7 hb6
   go_wp2_with fail
   clear hsh
   go_loopw [48] (fun s wr=>∃ (k:Nat) (rv:Value) (ps:List (Rec×Value)),s = .int .i64 k/\k<=nk/\Hid (ER w2 wr bx false x.i.size ps rv/\ps.map (·.1)=expS M.all x.i false bl k/\ps.length<=k)) (fun s _=>nk-(intOf s).toNat)
   case atStart=>exact⟨0,nilS,[],rfl,Nat.zero_le _,hid ⟨HI7.out,by rw[expS_zero];rfl,nlr⟩⟩
   case round =>
    obtain⟨k,rv,ps,rfl,hk,hR⟩:=hrel;obtain⟨wO,hwO⟩:∃ q,q=wr:=⟨_,rfl⟩
    subst hwO;obtain⟨ra,rn,rc,rfl⟩:=ownG_sh hR.out.1.o;by_cases hlt:k<nk
    ·obtain⟨A,hA⟩:∃ q,q=k*2^x.i.cl:=⟨_,rfl⟩
     obtain⟨N,hN⟩:∃ q,q=2^x.i.cl:=⟨_,rfl⟩
     have hNl:N<=64:=by rw[hN];exact HS.out.2.2.1
     have hAl:A<=4096:=by rw[hA];exact Nat.le_trans (Nat.mul_le_mul_right _ (Nat.le_of_lt hlt)) HS.out.2.2.2.1
     have hshl1:IntKind.i64.wrap ((k:Int)*2^min x.i.cl 64)=(A:Int):=by
      rw[HS.out.2.1,show((k:Int)*2^x.i.cl)=((k*2^x.i.cl:Nat):Int) by push_cast;rfl,<-hA,IntWalk.i64_in _ (by omega)]
     have hshl2:IntKind.i64.wrap ((1:Int)*2^min x.i.cl 64)=(N:Int):=by
      rw[HS.out.2.1,show((1:Int)*2^x.i.cl)=((2^x.i.cl:Nat):Int) by push_cast;omega,<-hN,IntWalk.i64_in _ (by omega)]
     have hshl3:IntKind.i64.wrap ((2:Int)^min x.i.cl 64)=(N:Int):=by rw[<-hshl2,Int.one_mul]
     have hshl4:IntKind.i64.wrap ((k:Int)*2^x.i.cl)=(A:Int):=by rw[<-hshl1,HS.out.2.1]
     have hshl5:IntKind.i64.wrap ((1:Int)*2^x.i.cl)=(N:Int):=by rw[<-hshl2,HS.out.2.1]
     have hshl6:IntKind.i64.wrap ((2:Int)^x.i.cl)=(N:Int):=by rw[<-hshl3,HS.out.2.1]
     obtain⟨BS,hBS⟩:∃ q,q=secs (secIn M.all 8 x.i x.i.size x.i.own) A N:=⟨_,rfl⟩
     have HSQ:Hid (∀ w',Below wO.heap.size wO w'->Calls prog 27 #[pt mb,pt x.ib,.int .i64 x.i.size,.map (some x.x.om),.int .i64 A,.int .i64 N] w' fun e w''=>∃ v,e = .returned v/\FullB w'' w'.heap.size v BS/\Below w'.heap.size w' w''):=hid (fun w' hB=>by rw[hBS];exact HSH.out w' (hR.out.1.b.trans (hB.mono hR.out.1.b.size)) A N hAl (by omega));have HAN:=jd3 hA hN hBS;have d0:∀ w',Below wO.heap.size wO w'->w'.cell? ⟨bx,0,none⟩=some (.bool false):=fun w' hB=>(hR.out.1.below hB).cells.1;have k0:∀ w',Below wO.heap.size wO w'->w'.cell? ⟨x.ib,0,none⟩=some (.int .i64 x.i.cl):=fun w' hB=>i0 w' (hR.out.1.b.trans (hB.mono hR.out.1.b.size));have k1:∀ w',Below wO.heap.size wO w'->w'.cell? ⟨x.ib,1,none⟩=some (.int .i64 x.i.size):=fun w' hB=>i1 w' (hR.out.1.b.trans (hB.mono hR.out.1.b.size))
     have k3:∀ w',Below wO.heap.size wO w'->w'.cell? ⟨x.ib,3,none⟩=some (.map (some x.x.om)):=fun w' hB=>i3 w' (hR.out.1.b.trans (hB.mono hR.out.1.b.size));have dO:=d0 wO brf;clear hA hN hBS hshl4 hshl5 hshl6;obtain⟨mb_,mo_,hia,hmc⟩:=HPLC.out wO hR.out.1.b;have k5:wO.cell? ⟨x.ib,5,none⟩=some (.slice ma mn mc):=i5 wO hR.out.1.b;have HHS:=hid (has_any bl (k:Int) (.slice la ln lc) wO (HLL.out) (((HLV.out wO hR.out.1.b).slG)));obtain⟨hh,hhh⟩:∃ q,q=hasS bl (k:Int):=⟨_,rfl⟩
     rw[<-hhh] at HHS;have HHH:=hid hhh;clear hhh;cases hh
     ·have HST:Hid (expS M.all x.i false bl (k+1)=expS M.all x.i false bl k):=hid (by
       rw[expS_succ];unfold expR;rw[if_neg (by rintro(h|h);cases h;rw[<-HHH.out] at h;cases h)];simp)
      go_wp2_with (go_at_call 97;refine HHS.out.mono ?_;rintro e w5 ⟨rfl,hb5'⟩)
      have HBQ:=hid hb5'
      go_roundw
      case measure=>simp only[intOf];omega
      case rel=>exact⟨k+1,_,ps,by go_num,by omega,hid ⟨hR.out.1.below HBQ.out,by rw[HST.out];exact hR.out.2.1,by have:=hR.out.2.2;omega⟩⟩
     ·have HST:Hid (expS M.all x.i false bl (k+1)=expS M.all x.i false bl k++[⟨((A:Nat):Int),BS⟩]):=hid (by
       rw[expS_succ];unfold expR;rw[<-HAN.out.1,<-HAN.out.2.1,<-HAN.out.2.2,if_pos (.inr HHH.out.symm),if_pos (.inl rfl)];rfl)
      go_upto_region 10 with(go_at_call 97;refine HHS.out.mono ?_;rintro e w8 ⟨rfl,hb8⟩)
      have hb8':=hb8.drew;clear dO k5 hmc
      go_region_held (fun w'=>Below wO.heap.size wO w') (first|with_reducible exact hb8'|with_reducible assumption|with_reducible exact Below.drew (by assumption)) (first
       | (go_at_call 27;refine(HSQ.out _ (by assumption)).mono ?_;rintro e w5 ⟨v5,rfl,hf5,hb5⟩;have hb5':=Below.trans (by assumption) (Below.mono hb5 (Below.size (by assumption)));obtain⟨fa,fn,fc,rfl⟩:=ownB_sh hf5.o;have HF5:=jd2 hf5 (Below.size (show Below wO.heap.size wO _ by assumption));clear hf5 hb5))
      have d05:=d0 w5 hb5';go_upto_region 12 with(fail)
      have hfd:OwnB w5 w2.heap.size 5 (.slice fa fn fc) BS:=HF5.out.1.o.any_base (by first|exact hR.out.1.b.size|exact Nat.le_trans hR.out.1.b.size hb8'.size);have hER5:=hR.out.1.below hb5';obtain⟨hoA,hrowA,hsA,hbA,hpA⟩:=hER5.app (⟨((A:Nat):Int),BS⟩,.slice fa fn fc) hfd;have HPA:=hid hpA;have hlA2:((List.map (fun p:Rec×Value=>[Value.int .i64 p.1.at_,p.2]) ps).length+1)*32<=140737488355328:=by rw[List.length_map];have:=hR.out.2.2;omega
      have hlA3:(List.map (fun p:Rec×Value=>[Value.int .i64 p.1.at_,p.2]) ps).length+1<=140737488355328:=by rw[List.length_map];have:=hR.out.2.2;omega
      have d2:∀ w',Below w5.heap.size w5 w'->w'.cell? ⟨bx,2,none⟩=some (.slice ra rn rc):=fun w' hB=>(hER5.below hB).cells.2.2.1;have k05:∀ w',Below w5.heap.size w5 w'->w'.cell? ⟨x.ib,0,none⟩=some (.int .i64 x.i.cl):=fun w' hB=>k0 w' (hb5'.trans (hB.mono hb5'.size));have hB05:Below w5.heap.size w5 w5.drew:=brf.drew;clear hpA hER5 hfd d0 d05 k0 k1 k3;refine wp_region_K 11 (fun w'=>Below w5.heap.size w5 w') (by kernel_rfl) ?_;refine qk 0 ?_;try simp only[nk]
      refine rq 1 ?_;try simp only[nk]
      refine qk 2 ?_;try simp only[nk]
      refine qk 3 ?_;try simp only[nk]
      refine qk 4 ?_;try simp only[nk]
      refine qk 5 ?_;try simp only[nk]
      refine rq 6 ?_;try simp only[nk]
      refine rq 7 ?_;try simp only[nk]
      refine qk 8 ?_;try simp only[nk]
      refine qk 9 ?_;try simp only[nk]
      refine wpAnyK_ready (rs:=[10]) (by kernel_rfl) (by simp) (AllReadyK.cons rfl (fun K hK=>?_) AllReadyK.nil);go_simp
      refine hK.out _ _ (fun _=>hbA) ?_;clear hK K
      try simp only[nk]
      refine wpAnyK_ready (rs:=[11]) (by kernel_rfl) (by simp) (AllReadyK.cons rfl (fun K hK=>?_) AllReadyK.nil);refine step_append_gn _ (by rfl) (.tmp 98) (.tmp 107) 52 98 _ 2 32 (by rfl) underlying52 info98' rfl (by decide) w2.heap.size _ _ (by rfl) hoA w5.heap.size 1 [.int .i64 A,.slice fa fn fc] (by rfl) rfl hrowA (by simp[Value.oneCell']) hlA2 hlA3 hsA ?_;intro v9 w9 ho9 hg9 hb9 hq9;obtain⟨ka,kn,kc,rfl⟩:=ownG_sh ho9;obtain⟨z9,c9,hER9⟩:=HPA.out _ _ ho9 hg9 hb9;refine hK.out _ _ (fun h=>by cases h) ?_;clear hK K
      try simp only[nk]
      refine qk 12 ?_;try simp only[nk]
      refine wpAnyK_ready (rs:=[13]) (by kernel_rfl) (by simp) (AllReadyK.cons rfl (fun K hK=>?_) AllReadyK.nil);go_simp
      refine hK.out _ _ (fun h=>by cases h) ?_;clear hK K
      try simp only[nk]
      refine wpAnyK_done (by kernel_rfl) ?_ _
      go_wp2_with fail
      have HB9:=hid hER9
      go_roundw
      case measure=>simp only[intOf];omega
      case rel=>exact⟨k+1,_,_,by go_num,by omega,hid ⟨HB9.out,by rw[List.map_append,hR.out.2.1,HST.out];rfl,by rw[List.length_append];have:=hR.out.2.2;simp;omega⟩⟩
    ·obtain rfl:k=nk:=by omega
     have hc:=hR.out.1.cells;have v0:=hc.1;have v1:=hc.2.1;have v2:=hc.2.2.1;obtain⟨st,hst⟩:∃ q,q=expT M.all x.i false bl:=⟨_,rfl⟩
     have hstq:st=⟨false,x.i.size,ps.map (·.1)⟩:=by rw[hst,hR.out.2.1,HS.out.2.2.2.2.1];rfl
     have HPT:=hid (Sb.sput_any ⟨false,x.i.size,ps.map (·.1)⟩ (.slice ra rn rc) wO hR.out.1.slR);rw[<-hstq] at HPT;obtain⟨pc,hpc⟩:∃ q,q=(putR st).2:=⟨_,rfl⟩
     obtain⟨pb,hpb⟩:∃ q,q=(putR st).1:=⟨_,rfl⟩
     rw[<-hpc,<-hpb] at HPT;have HPT2:Hid (Calls prog 99 #[.agg #[.bool false,.int .i64 x.i.size,.slice ra rn rc]] wO fun e w'=>∃ v,e = .returned (.tuple #[v,.int .i64 pc])/\OwnB w' wO.heap.size 5 v pb/\Below wO.heap.size wO w'):=hid (by have h9:=HPT.out;rw[hstq] at h9;exact h9);have HF:Hid (exportF M c=if pc=0 then(M,{data:=pb},0) else(M,failR pc,0)):=hid (by rw[hpc,hpb,hst];unfold exportF;rw[HX.out.2.2.1];simp only;rw[if_neg (fun h=>by rw[<-HPO.out] at h;cases h.2),decide_eq_false HT.out,<-HPO.out,HBL.out]);have hRb:=hR.out.1.b;clear HPT hc hst hstq hpc hpb;by_cases hp0:pc=0
     ·subst hp0;have HF0:Hid (exportF M c=(M,{data:=pb},0)):=hid (by rw[HF.out,if_pos rfl]);go_upto_region 17 with(go_at_call 99;refine HPT2.out.mono ?_;rintro e w8 ⟨v8,rfl,ho8,hb8⟩;obtain⟨ga,gn,gc,rfl⟩:=ownB_sh ho8)
      have hb28:=hRb.trans (hb8.mono hRb.size);obtain⟨x0,x1,x2,x3,x4,x5,xz⟩:=zcells (HP.out.z hb28);have hrep:RepOK w8 w.heap.size (rpV 0 (.slice ga gn gc) nilS nilS 0 0) {data:=pb}:=⟨_,_,_,rfl,ho8.any_base (Nat.le_trans HP.out.b.size hRb.size),OwnG.nil _ _ _ _,OwnG.nil _ _ _ _⟩
      obtain⟨W,hW,⟨y0,y1,y2,y3,y4,y5⟩,r1,r2,r3⟩:=end_same HP.out HM.out hb28 hrep;have HR:=jd3 r1 r2 r3;have HWW:=hid hW;clear r1 r2 r3 hW hrep
      go_wp2_with fail
      change bodyPost _ _ _ _ _ (st6 w8 (w.heap.size+1) (.int .i64 0) (.slice ga gn gc) nilS nilS (.int .i64 0) (.int .i64 0));rw[<-HWW.out,HF0.out];clear x0 x1 x2 x3 x4 x5 xz v0 v1 v2;exact bodyPost_ret (v:=rpV 0 (.slice ga gn gc) nilS nilS 0 0) (by simp[results,results52,go_sem,y0,y1,y2,y3,y4,y5]) rfl ⟨_,X,rfl,HR.out.1,HR.out.2.1,rfl,nlr,rfl,HR.out.2.2⟩
     ·have ep0:((pc:Int)==0)=false:=by simpa using(show ¬ (pc:Int)=0 by omega)
      go_upto_region 16 with(go_at_call 99;refine HPT2.out.mono ?_;rintro e w8 ⟨v8,rfl,ho8,hb8⟩;obtain⟨ga,gn,gc,rfl⟩:=ownB_sh ho8)
      have hb28:=hRb.trans (hb8.mono hRb.size);have hbZ:=hb28
      go_wp2_with (go_at_call 21;refine(failed_any (pc:Int) _).mono ?_;rintro e w9 ⟨rfl,hb9⟩;obtain⟨x0,x1,x2,x3,x4,x5,xz⟩:=zcells (HP.out.z (hbZ.trans (hb9.mono hbZ.size))))
      obtain⟨W,hW,⟨y0,y1,y2,y3,y4,y5⟩,r1,r2,r3⟩:=end_fail HP.out HM.out (hbZ.trans (hb9.mono hbZ.size)) (pc:Int);have hF:exportF M c=(M,failR (pc:Int),0):=by
       rw[HF.out,if_neg hp0]
      rw[hF];clear x0 x1 x2 x3 x4 x5 xz hF;change bodyPost _ _ _ _ _ (st6 w9 (w.heap.size+1) (.int .i64 (pc:Int)) nilS nilS nilS (.int .i64 0) (.int .i64 0));rw[<-hW];exact bodyPost_ret (v:=failV (pc:Int)) (by simp[results,results52,go_sem,y0,y1,y2,y3,y4,y5]) rfl ⟨_,X,rfl,r1,r2,rfl,nlr,rfl,r3⟩
end Go.Proofs.YtgkabcaodnofnaaGreat
