import Derived.Test.YtgkabcaodnofnaaGreatB02
import Derived.Test.YtgkabcaodnofnaaGreatB18
import Derived.Test.YtgkabcaodnofnaaGreatB25
import Derived.Test.YtgkabcaodnofnaaGreatB21
import Derived.Test.YtgkabcaodnofnaaGreatB19
set_option linter.unusedSimpArgs false
set_option linter.unusedVariables false
set_option maxRecDepth 100000
set_option maxHeartbeats 2000000
open Go.Proofs.Tryz
namespace Go.Md
def remM (M:MM)(n:Bs):MM:=⟨delI M.all n,delI M.kept n,fun m=>if m=n then false else M.ch m⟩
def removeF (M:MM)(c:Cm):MM×Rp×Nat:=if Go.Proofs.YtgkabcaodnofnaaGreat.aboveN M.all c.name≠0 then(M,failR 14,0) else(remM M c.name,{},1)
end Go.Md
namespace Go.Proofs.YtgkabcaodnofnaaGreat
open Go.RowKit Go.Mx Go.Md
theorem MO.rem {w w5 w6 w7:World}{base mb:Nat}{M:MM}{X:MX}(h:MO w base mb M X)(n:Bs)(hg5:GM ES prog 9 w5 X.am (Mx.del (X.xs.map fun x=>(x.n,pt x.ib)) n))(hk5:Kept w w5 (·≠X.am))
  (hg6:GM ES prog 9 w6 X.km (Mx.del (X.ks.map fun x=>(x.n,pt x.ib)) n)) (hk6:Kept w5 w6 (·≠X.km)) (hg7:GM ES prog 9 w7 X.hm (Mx.del X.cl n)) (hk7:Kept w6 w7 (·≠X.hm)) :
  MO w7 base mb (remM M n) {X with xs:=X.xs.filter (fun x => !decide (x.n=n)),ks:=X.ks.filter (fun x => !decide (x.n=n)),cl:=Mx.del X.cl n}/\
   Stp w w7 (X.fp mb) (MX.fp mb {X with xs:=X.xs.filter (fun x => !decide (x.n=n)),ks:=X.ks.filter (fun x => !decide (x.n=n)),cl:=Mx.del X.cl n}):=by
 have hap:=Ap.of h.nd;have ham:X.am∈fpA X.am X.xs:=List.mem_cons_self ..;have hkm:X.km∈fpA X.km X.ks:=List.mem_cons_self ..;have hak:X.am≠X.km:=fun e=>(hap.a X.am ham).2.2 (e▸hkm);have hah:X.am≠X.hm:=(hap.a _ ham).2.1;have hkh:X.km≠X.hm:=(hap.k _ hkm).2;have hm0:mb≠X.am:=Ne.symm (hap.a _ ham).1;have hm1:mb≠X.km:=Ne.symm (hap.k _ hkm).1;have hN5:NI w (·≠X.am):=fun b c t f hb _ e=>by obtain⟨es,k,h1⟩:=h.a.g.isMap;rw[e,h1] at hb;cases hb
 have hmap5:∃ es k,w5.heap[X.km]? = some (.map es k):=by obtain⟨es,k,h1⟩:=h.k.g.isMap;exact⟨es,k,(hk5.block _ h.k.g.lt (Ne.symm hak)).trans h1⟩
 have hN6:NI w5 (·≠X.km):=fun b c t f hb _ e=>by obtain⟨es,k,h1⟩:=hmap5;rw[e,h1] at hb;cases hb
 have hk56:Kept w w6 (fun b=>b≠X.am/\b≠X.km):=(hk5.imp fun b hb=>hb.1).trans (hk6.imp fun b hb=>hb.2);have hgh6:GM ES prog 9 w6 X.hm X.cl:=h.h.block (hk56.block _ h.h.lt ⟨Ne.symm hah,Ne.symm hkh⟩);have hN7:NI w6 (·≠X.hm):=fun b c t f hb _ e=>by obtain⟨es,k,h1⟩:=hgh6.isMap;rw[e,h1] at hb;cases hb
 have hk67:Kept w5 w7 (fun b=>b≠X.km/\b≠X.hm):=(hk6.imp fun b hb=>hb.1).trans (hk7.imp fun b hb=>hb.2);have hN67:NI w5 (fun b=>b≠X.km/\b≠X.hm):=fun b c t f hb h3=>⟨hN6 b c t f hb h3,fun e=>by
  obtain⟨es,k,h1⟩:=h.h.isMap;have h2:=(hk5.block _ h.h.lt (Ne.symm hah)).trans h1;rw[e,h2] at hb;cases hb⟩
 have hkA:Kept w w7 (fun b=>b≠X.am/\b≠X.km/\b≠X.hm):=(hk56.imp fun b hb=>⟨hb.1,hb.2.1⟩).trans (hk7.imp fun b hb=>hb.2.2);have hsa:∀ b,b∈fpA X.am (X.xs.filter fun x => !decide (x.n=n))->b∈fpA X.am X.xs:=fun b hb=>(fpA_drop _).subset hb;have hsk:∀ b,b∈fpA X.km (X.ks.filter fun x => !decide (x.n=n))->b∈fpA X.km X.ks:=fun b hb=>(fpA_drop _).subset hb;have hA:=(h.a.drop hap.na n hg5 hk5).kept hk67 (fun b hb=>⟨fun e=>(hap.a b (hsa b hb)).2.2 (e▸hkm),(hap.a b (hsa b hb)).2.1⟩) hN67;have hK5:=h.k.kept hk5 (fun b hb e=>(hap.a X.am ham).2.2 (e▸hb)) hN5;have hK:=(hK5.drop hap.nk n hg6 hk6).kept hk7 (fun b hb=>(hap.k b (hsk b hb)).2) hN7;have hap':Ap mb {X with xs:=X.xs.filter (fun x => !decide (x.n=n)),ks:=X.ks.filter (fun x => !decide (x.n=n)),cl:=Mx.del X.cl n} :=
  ⟨hap.mh,fun q e=>⟨(hap.d q e).1,(hap.d q e).2.1,(hap.d q e).2.2.1,fun h2=>(hap.d q e).2.2.2.1 (hsa q h2),fun h2=>(hap.d q e).2.2.2.2 (hsk q h2)⟩,
   fun q e=>⟨(hap.f q e).1,(hap.f q e).2.1,fun h2=>(hap.f q e).2.2.1 (hsa q h2),fun h2=>(hap.f q e).2.2.2 (hsk q h2)⟩,
   fun b hb=>⟨(hap.a b (hsa b hb)).1,(hap.a b (hsa b hb)).2.1,fun h2=>(hap.a b (hsa b hb)).2.2 (hsk b h2)⟩,fun b hb=>hap.k b (hsk b hb),(fpA_drop _).nodup hap.na,(fpA_drop _).nodup hap.nk⟩
 refine⟨⟨(hkA.block mb (blk_lt h.ck) ⟨hm0,hm1,hap.mh⟩).trans h.ck,hA,hK,hg7,fun p hp=>h.ht p (mem_del.1 hp).1,fun m=>?_,fun dm e=>(h.d dm e).block (hkA.block _ (h.d dm e).lt ⟨fun e2=>(hap.d dm e).2.2.2.1 (e2▸ham),fun e2=>(hap.d dm e).2.2.2.2 (e2▸hkm),(hap.d dm e).2.1⟩),h.f.kept hkA fun q e=>⟨fun e2=>(hap.f q e).2.2.1 (e2▸ham),fun e2=>(hap.f q e).2.2.2 (e2▸hkm),(hap.f q e).2.1⟩,hap'.nd⟩,hkA.imp fun b hb=>⟨fun e=>hb (MX.mem.2 (.inr (.inr (.inr (.inr (.inl (e▸ham))))))),fun e=>hb (MX.mem.2 (.inr (.inr (.inr (.inr (.inr (e▸hkm))))))),fun e=>hb (MX.mem.2 (.inr (.inl e)))⟩,fun b hb => .inl ?_⟩
 ·show(if m=n then false else M.ch m)=(Mx.look (Mx.del X.cl n) m).isSome;rw[look_del];split
  ·rfl
  ·exact h.hc m
 ·rw[MX.mem] at hb ⊢;rcases hb with h1|h1|h1|h1|h1|h1
  ·exact .inl h1
  ·exact .inr (.inl h1)
  ·exact .inr (.inr (.inl h1))
  ·exact .inr (.inr (.inr (.inl h1)))
  ·exact .inr (.inr (.inr (.inr (.inl (hsa b h1)))))
  ·exact .inr (.inr (.inr (.inr (.inr (hsk b h1)))))
theorem cmd37_any:CmdOk 37 (fun _ _=>True) removeF:=by
 intro w base mb M X c dv h hM hbase hfr hC hp;obtain⟨da,dn,dc,rfl⟩:=slB_shape hC.d.slB;obtain⟨w2,hw2,P⟩:=pro_of w c (.slice da dn dc);have f0:=P.m0 h;have f1:=P.c1;have hnl:c.name.length<=maxLen:=Nat.le_trans hC.nl (by unfold maxLen;omega);have hMle:=hM.le;have hMkl:=hM.kl;have HAB0:=hid (above_any (P.mo h w2 brf).mod0 (P.mo h w2 brf).a (by rw[h.a.len];omega) c.name);obtain⟨A,hA⟩:∃ A,A=aboveN M.all c.name:=⟨_,rfl⟩
 rw[<-hA] at HAB0;have HAA:=hid hA;have hA100:A<=100:=by rw[hA];exact Nat.le_trans (List.length_filter_le _ _) (by omega)
 have HW:=hid hw2;have HP:=hid P;have HM:=hid h;have HK:=jd5 hM hbase hfr hC hp;have ef0:=f0 w2 brf;have ef1:=f1 w2 brf;clear hw2 P h hM hfr hC hp hA ef0;go_enter func37,ntmps37
 go_upto_region 1 with(fail)
 rw[<-HW.out];have hlen:∀ oa cc w',(Builtin.len_ #[31] 3 #[.slice oa A cc]).run prog w' = .ok (.int .i64 A) w':=fun oa cc w'=>len_sl underlying31 rfl w';by_cases hz:0<A
 ·have tz:decide (0<A)=true:=by simpa using hz
  have HZ:=hid hz;clear hz;go_upto_region 2 with(go_at_call 78;refine HAB0.out.mono ?_;rintro e w4 ⟨oa,cc,rfl,hb4⟩)
  have hbZ:=hb4
  go_wp2_with (go_at_call 21;refine(failed_any 14 _).mono ?_;rintro e w9 ⟨rfl,hb9⟩;obtain⟨x0,x1,x2,x3,x4,x5,xz⟩:=zcells (HP.out.z (hbZ.trans (hb9.mono hbZ.size))))
  obtain⟨W,hW,⟨y0,y1,y2,y3,y4,y5⟩,r1,r2,r3⟩:=end_fail HP.out HM.out (hbZ.trans (hb9.mono hbZ.size)) 14;have hF:removeF M c=(M,failR 14,0):=by
   unfold removeF;rw[if_pos (by have:=HAA.out;have:=HZ.out;omega)]
  rw[hF];clear x0 x1 x2 x3 x4 x5 xz hF;change bodyPost _ _ _ _ _ (st6 w9 (w.heap.size+1) (.int .i64 14) nilS nilS nilS (.int .i64 0) (.int .i64 0));rw[<-hW];exact bodyPost_ret (v:=failV 14) (by simp[results,results37,go_sem,y0,y1,y2,y3,y4,y5]) rfl ⟨_,X,rfl,r1,r2,rfl,nlr,rfl,r3⟩
 ·have tz:decide (0<A)=false:=by simpa using hz
  have HZ:=hid hz;clear hz;go_upto_region 3 with(go_at_call 78;refine HAB0.out.mono ?_;rintro e w4 ⟨oa,cc,rfl,hb4⟩)
  have hM4:=HP.out.mo HM.out w4 (HP.out.wd _ hb4);have hap:=Ap.of hM4.nd;have ham:X.am∈fpA X.am X.xs:=List.mem_cons_self ..;have hkm:X.km∈fpA X.km X.ks:=List.mem_cons_self ..;have hak:X.am≠X.km:=fun e=>(hap.a X.am ham).2.2 (e▸hkm);have hah:X.am≠X.hm:=(hap.a _ ham).2.1;have hkh:X.km≠X.hm:=(hap.k _ hkm).2;have hm0:mb≠X.am:=Ne.symm (hap.a _ ham).1;have hm1:mb≠X.km:=Ne.symm (hap.k _ hkm).1;have hwn:∀ q,q<w.heap.size->w.heap.size≠q:=fun q hq=>by omega
  have hlam:=HM.out.a.g.lt;have hlkm:=HM.out.k.g.lt;have hlhm:=HM.out.h.lt;have hn0:=f1 w4 hb4;have hq4:w.heap.size<w4.heap.size:=by have:=HP.out.s;have:=hb4.size;omega
  obtain⟨w5,hrun5,hg5,hgr5,hs5,_⟩:=(hM4.a.g.block (w':=w4.drew) rfl).del K9 (t:=57) underlying57 c.name hnl 0;have hdel5:(Builtin.delete_ #[57,9] 0 #[.map (some X.am),str c.name]).run prog w4.drew = .ok (.tuple #[]) w5:=hrun5;have hk5:Kept w4 w5 (·≠X.am):=(Kept.drew _ _).trans (Kept.grown hgr5 fun k hk=>by cases hk;simp);obtain⟨w6,hrun6,hg6,hgr6,hs6,_⟩:=(hM4.k.g.block (w':=w5.drew) (hk5.block _ hM4.k.g.lt (Ne.symm hak))).del K9 (t:=57) underlying57 c.name hnl 0;have hdel6:(Builtin.delete_ #[57,9] 0 #[.map (some X.km),str c.name]).run prog w5.drew = .ok (.tuple #[]) w6:=hrun6;have hk6:Kept w5 w6 (·≠X.km):=(Kept.drew _ _).trans (Kept.grown hgr6 fun k hk=>by cases hk;simp);have hk46:Kept w4 w6 (fun b=>b≠X.am/\b≠X.km):=(hk5.imp fun b hb=>hb.1).trans (hk6.imp fun b hb=>hb.2)
  obtain⟨w7,hrun7,hg7,hgr7,hs7,_⟩:=(hM4.h.block (w':=w6.drew) (hk46.block _ hM4.h.lt ⟨Ne.symm hah,Ne.symm hkh⟩)).del K9 (t:=58) underlying58 c.name hnl 0;have hdel7:(Builtin.delete_ #[58,9] 0 #[.map (some X.hm),str c.name]).run prog w6.drew = .ok (.tuple #[]) w7:=hrun7;have hk7:Kept w6 w7 (·≠X.hm):=(Kept.drew _ _).trans (Kept.grown hgr7 fun k hk=>by cases hk;simp);have hrem:=hM4.rem c.name hg5 hk5 hg6 hk6 hg7 hk7;have p40:∀ w',Below w4.heap.size w4 w'->w'.cell? ⟨mb,0,none⟩=some (.map (some X.am)):=fun w' hB=>(hM4.below hB).cells.1;have p4n:∀ w',Below w4.heap.size w4 w'->w'.cell? ⟨w.heap.size,1,none⟩=some (str c.name):=fun w' hB=>(hB.cell (p:=⟨w.heap.size,1,none⟩) hq4).trans hn0;have hmb5:w5.heap[mb]? = some (.cells (mcells X) 73 (0,0)):=(hk5.block mb (blk_lt hM4.ck) hm0).trans hM4.ck;have hmb6:w6.heap[mb]? = some (.cells (mcells X) 73 (0,0)):=(hk6.block mb (blk_lt hmb5) hm1).trans hmb5
  have n5:w5.cell? ⟨w.heap.size,1,none⟩=some (str c.name):=(hk5.cell hq4 (hwn _ hlam)).trans hn0;have n6:w6.cell? ⟨w.heap.size,1,none⟩=some (str c.name):=(hk6.cell (Nat.lt_of_lt_of_le hq4 hk5.size) (hwn _ hlkm)).trans n5;have p50:∀ w',Below w5.heap.size w5 w'->w'.cell? ⟨mb,1,none⟩=some (.map (some X.km)):=fun w' hB=>by rw[World.cell?_of_block (hB.block mb (blk_lt hmb5))];simp[World.cell?,hmb5]
  have p5n:∀ w',Below w5.heap.size w5 w'->w'.cell? ⟨w.heap.size,1,none⟩=some (str c.name):=fun w' hB=>(hB.cell (p:=⟨w.heap.size,1,none⟩) (Nat.lt_of_lt_of_le hq4 hk5.size)).trans n5;have p60:∀ w',Below w6.heap.size w6 w'->w'.cell? ⟨mb,2,none⟩=some (.map (some X.hm)):=fun w' hB=>by rw[World.cell?_of_block (hB.block mb (blk_lt hmb6))];simp[World.cell?,hmb6]
  have p6n:∀ w',Below w6.heap.size w6 w'->w'.cell? ⟨w.heap.size,1,none⟩=some (str c.name):=fun w' hB=>(hB.cell (p:=⟨w.heap.size,1,none⟩) (Nat.lt_of_lt_of_le hq4 hk46.size)).trans n6;have s4:Below w4.heap.size w4 w4.drew:=brf.drew;have s5:Below w5.heap.size w5 w5.drew:=brf.drew;have s6:Below w6.heap.size w6 w6.drew:=brf.drew;obtain⟨X7,hX7⟩:∃ Z:MX,Z={X with xs:=X.xs.filter (fun x => !decide (x.n=c.name)),ks:=X.ks.filter (fun x => !decide (x.n=c.name)),cl:=Mx.del X.cl c.name}:=⟨_,rfl⟩
  rw[<-hX7] at hrem;have hX7':X7.fv=X.fv/\X7.fr=X.fr/\X7.dm=X.dm/\X7.cl.length<=X.cl.length/\X7.ks.length<=X.ks.length:=by rw[hX7];exact⟨rfl,rfl,rfl,by unfold Mx.del;exact List.length_filter_le _ _,List.length_filter_le _ _⟩
  obtain⟨hMO7,hst47⟩:=hrem;have hbase7:base<=w7.heap.size:=Nat.le_trans (Nat.le_trans hbase (HP.out.bel (HP.out.wd _ hb4)).size) hst47.k.size;have HKM:=HK;have HK:=hid (kept_any (w:=w7.drew) (M:=remM M c.name) (X:=X7) ⟨_,hMO7.ck,rfl⟩ (hMO7.k.below brf.drew) hbase7 (by rw[hMO7.k.len];exact Nat.le_trans (List.length_filter_le _ _) (by omega)));obtain⟨fa,fn,fc,hfv⟩:=ownG_sh hMO7.f;have p7:∀ w',Below w7.heap.size w7 w'->w'.cell? ⟨mb,7,none⟩=some (.slice fa fn fc):=fun w' hB=>by rw[(hMO7.below hB).cells.2.2.2.2.2.2.2.1,hfv]
  have f7:w7.drew.cell? ⟨mb,7,none⟩=some (.slice fa fn fc):=p7 _ brf.drew;have s7:Below w7.heap.size w7 w7.drew:=brf.drew;have hfrl:X7.fr.length<=1000000:=by rw[hX7'.2.1];have:=HK.out;have:=HKM.out.2.2.1;omega
  have H7:=jd7 hMO7 hfv hbase7 hfrl hst47 hX7' hb4;have HD:=jd3 hdel5 hdel6 hdel7;clear hM4 hap ham hkm hak hah hkh hm0 hm1 hwn hlam hlkm hlhm hn0 hq4 hrun5 hg5 hgr5 hs5 hk5 hrun6 hg6 hgr6 hs6 hk6 hk46 hrun7 hg7 hgr7 hs7 hk7 hmb5 hmb6 n5 n6 hX7 hX7' hMO7 hst47 hbase7 hfv hfrl hdel6 hdel7 f0 f1 hb4 f7;refine wp_region_K 6 (fun w'=>Below w4.heap.size w4 w') (by kernel_rfl) ?_;refine qk 0 ?_;try simp only[nk]
  refine qk 1 ?_;try simp only[nk]
  refine qk 2 ?_;try simp only[nk]
  refine rq 3 ?_;try simp only[nk]
  refine qk 4 ?_;try simp only[nk]
  refine rq 5 ?_;try simp only[nk]
  refine wpAnyK_ready (rs:=[6]) (by kernel_rfl) (by simp) (AllReadyK.cons rfl (fun K hK=>?_) AllReadyK.nil);go_simp
  refine hK.out _ _ (fun h=>by cases h) ?_;clear hK K
  try simp only[nk]
  refine wpAnyK_done (by kernel_rfl) ?_ _;clear hdel5;have hdel6:=HD.out.2.1;go_upto_region 4 with(fail)
  refine wp_region_K 6 (fun w'=>Below w5.heap.size w5 w') (by kernel_rfl) ?_;refine qk 0 ?_;try simp only[nk]
  refine qk 1 ?_;try simp only[nk]
  refine qk 2 ?_;try simp only[nk]
  refine rq 3 ?_;try simp only[nk]
  refine qk 4 ?_;try simp only[nk]
  refine rq 5 ?_;try simp only[nk]
  refine wpAnyK_ready (rs:=[6]) (by kernel_rfl) (by simp) (AllReadyK.cons rfl (fun K hK=>?_) AllReadyK.nil);go_simp
  refine hK.out _ _ (fun h=>by cases h) ?_;clear hK K
  try simp only[nk]
  refine wpAnyK_done (by kernel_rfl) ?_ _;clear hdel6;have hdel7:=HD.out.2.2;go_upto_region 5 with(fail)
  refine wp_region_K 6 (fun w'=>Below w6.heap.size w6 w') (by kernel_rfl) ?_;refine qk 0 ?_;try simp only[nk]
  refine qk 1 ?_;try simp only[nk]
  refine qk 2 ?_;try simp only[nk]
  refine rq 3 ?_;try simp only[nk]
  refine qk 4 ?_;try simp only[nk]
  refine rq 5 ?_;try simp only[nk]
  refine wpAnyK_ready (rs:=[6]) (by kernel_rfl) (by simp) (AllReadyK.cons rfl (fun K hK=>?_) AllReadyK.nil);go_simp
  refine hK.out _ _ (fun h=>by cases h) ?_;clear hK K
  try simp only[nk]
  refine wpAnyK_done (by kernel_rfl) ?_ _;clear hdel7;go_upto_region 6 with(fail)
  have f7:w7.drew.cell? ⟨mb,7,none⟩=some (.slice fa fn fc):=p7 _ brf.drew;clear p40 p4n p50 p5n p60 p6n s4 s5 s6;refine wp_region_K 8 (fun w'=>Below w7.heap.size w7 w') (by kernel_rfl) ?_;refine qk 0 ?_;try simp only[nk]
  refine qk 1 ?_;try simp only[nk]
  refine qk 2 ?_;try simp only[nk]
  refine qk 3 ?_;try simp only[nk]
  refine rq 4 ?_;try simp only[nk]
  refine qk 5 ?_;try simp only[nk]
  refine wpAnyK_ready (rs:=[6]) (by kernel_rfl) (by simp) (AllReadyK.cons rfl (fun K hK=>?_) AllReadyK.nil);go_simp
  go_wp2_with (go_at_call 16;refine HK.out.mono ?_;rintro e w8 ⟨nb,X8,rfl,hMO8,hge8,hfr8,hb8⟩;have f8:w8.cell? ⟨mb,7,none⟩=some (.slice fa fn fc):=(World.cell?_of_block (hb8.block mb (blk_lt H7.out.1.ck))).trans f7;have hb88:Below w7.heap.size w7 w8:=brf.drew.trans hb8;obtain⟨hoA,hrowA,hl8,hl9,hbA,hz9,hc9,f9⟩:=flA H7.out.1 H7.out.2.1 H7.out.2.2.1 H7.out.2.2.2.1 hb8 nb)
  refine hK.out _ _ (fun _=>hb88) ?_;clear hK K
  try simp only[nk]
  refine wpAnyK_ready (rs:=[7]) (by kernel_rfl) (by simp) (AllReadyK.cons rfl (fun K hK=>?_) AllReadyK.nil);go_simp
  refine hK.out _ _ (fun _=>hb88.alloc hb88.size _) ?_;clear hK K
  try simp only[nk]
  have hbA8:Below w7.heap.size w7 (w8.alloc (.cells #[pt nb] 28)):=hb88.alloc hb88.size _;refine wpAnyK_ready (rs:=[8]) (by kernel_rfl) (by simp) (AllReadyK.cons rfl (fun K hK=>?_) AllReadyK.nil);refine step_append_gn _ (by rfl) (.tmp 34) (.tmp 37) 35 28 _ 1 8 (by rfl) underlying35 info28 rfl (by decide) base _ (X7.fr.map fun v=>[v]) (by rfl) hoA w8.heap.size 1 [pt nb] (by rfl) rfl hrowA (by simp[Value.oneCell']) hl8 hl9 hbA ?_;intro v9 w9 ho9 hg9 hb9 hq9;obtain⟨ga,gn,gc,rfl⟩:=ownG_sh ho9;have z9:=hz9 _ hg9;have c9:=hc9 _ hg9;refine hK.out _ _ (fun h=>by cases h) ?_;clear hK K
  try simp only[nk]
  refine qk 9 ?_;try simp only[nk]
  refine qk 10 ?_;try simp only[nk]
  refine wpAnyK_ready (rs:=[11]) (by kernel_rfl) (by simp) (AllReadyK.cons rfl (fun K hK=>?_) AllReadyK.nil);go_simp
  refine hK.out _ _ (fun h=>by cases h) ?_;clear hK K
  try simp only[nk]
  refine wpAnyK_done (by kernel_rfl) ?_ _;have h9:=flB H7.out.1 H7.out.2.1 hb8 nb ho9 hg9 hq9;obtain⟨w10,hw10⟩:∃ z,z=w9.setCell ⟨mb,7,none⟩ (.slice ga gn gc):=⟨_,rfl⟩
  rw[<-hw10] at h9;obtain⟨_,_,_,_,hst47,⟨q1,q2,q3,q4,q5⟩,hb4⟩:=H7.out;have hst:Stp w2 w10 (X.fp mb) (MX.fp mb {X7 with fv:=.slice ga gn gc,fr:=X7.fr++[pt nb]}):=((Stp.of_below hb4 (X.fp mb)).trans hst47).trans h9.2;have hF:removeF M c=(remM M c.name,{},1):=by unfold removeF;rw[if_neg (by have:=HAA.out;have:=HZ.out;omega)]
  have HF:=hid hF;have HE:=jd2 h9.1 hst;have HXX:=jd3 q3 q4 q2;have HW10:=hid hw10;obtain⟨x0,x1,x2,x3,x4,x5,xz⟩:=zcells (HP.out.zs HM.out hst);clear h9 hst47 q1 q2 q3 q4 q5 hb4 hst hF hw10 z9 c9 ho9 hg9 hb9 hq9 hoA hrowA hl8 hl9 hbA hz9 hc9 hbA8 f9 f8 hMO8 hge8 hfr8 hb8 hb88 p7 s7 f7;go_upto_region 7 with(fail)
  rw[<-HW10.out];obtain⟨W,hW,⟨y0,y1,y2,y3,y4,y5⟩,r1,r2,r3⟩:=end_ok HP.out HM.out HE.out.1 HE.out.2;have HWW:=hid hW;have HR:=jd3 r1 r2 r3;clear hW r1 r2 r3
  go_wp2_with fail
  change bodyPost _ _ _ _ _ (st6 w10 (w.heap.size+1) (.int .i64 0) nilS nilS nilS (.int .i64 0) (.int .i64 0));rw[<-HWW.out,HF.out];clear x0 x1 x2 x3 x4 x5 xz;refine bodyPost_ret (v:=failV 0) (by simp[results,results37,go_sem,y0,y1,y2,y3,y4,y5]) rfl ?_
  first
   | exact⟨_,rfl,HR.out.1,_,HR.out.2.1,HXX.out.1,HXX.out.2.1,by simp[HXX.out.2.2],HR.out.2.2⟩
   | exact⟨_,_,rfl,HR.out.1,HR.out.2.1,HXX.out.1,HXX.out.2.1,by simp[HXX.out.2.2],HR.out.2.2⟩
end Go.Proofs.YtgkabcaodnofnaaGreat
namespace Go.Md
open Go.Proofs.YtgkabcaodnofnaaGreat
theorem setI_len {S:IL}{n:Bs}(h:(fnd S n).isSome=true)(i':IM):(setI S n i').length=S.length:=by
 unfold setI;rw[if_pos h,List.length_map]
theorem ok_changed {M:MM}(h:MOk M){n:Bs}{i i':IM}(hf:fnd M.all n=some i)(hb:i'.back=i.back):MOk {M with all:=setI M.all n i',ch:=fun m=>if m=n then true else M.ch m} where
 nm:=fun m j hj=>by
  rw[fnd_setI] at hj;by_cases e:m=n
  ·subst e;exact h.nm _ _ hf
  ·rw[if_neg e] at hj;exact h.nm _ _ hj
 bk:=fun m j hj=>by
  rw[fnd_setI] at hj;have key:∀ b:Bs,(fnd M.all b).isSome=true->(fnd (setI M.all n i') b).isSome=true:=fun b hb=>by
   rw[fnd_setI];split
   ·rfl
   ·exact hb
  by_cases e:m=n
  ·subst e;rw[if_pos rfl] at hj;cases hj
   rw[hb];exact(h.bk _ _ hf).imp id (key _)
  ·rw[if_neg e] at hj;exact(h.bk _ _ hj).imp id (key _)
 dp:=fun m=>dep_setI hf hb (h.dp m)
 le:=by show(setI M.all n i').length<=16;rw[setI_len (by rw[hf];rfl)];exact h.le
 kl:=h.kl
 kb:=fun m=>by
  show _=(fnd (setI M.all n i') m).map (·.back);rw[fnd_setI,h.kb m];by_cases e:m=n
  ·subst e;rw[if_pos rfl,hf];simp[hb]
  ·rw[if_neg e]
 ch:=fun m hm=>by
  have hm:(if m=n then true else M.ch m)=false:=hm;by_cases e:m=n
  ·rw[if_pos e] at hm;cases hm
  ·rw[if_neg e] at hm;show fnd M.kept m=fnd (setI M.all n i') m;rw[fnd_setI,if_neg e];exact h.ch m hm
 cn:=fun m hm=>by
  show(fnd (setI M.all n i') m).isSome=true;rw[fnd_setI];by_cases e:m=n
  ·rw[if_pos e];rfl
  ·rw[if_neg e];have hm:(if m=n then true else M.ch m)=true:=hm;rw[if_neg e] at hm;exact h.cn m hm
theorem fnd_flushM_kept (M:MM){n:Bs}{i:IM}(hf:fnd M.all n=some i)(m:Bs):fnd (flushM M n).kept m=if m=n then some i else fnd M.kept m:=by
 unfold flushM;rw[hf];exact fnd_setI _ _ _ _
theorem ok_flush {M:MM}(h:MOk M)(n:Bs):MOk (flushM M n):=by
 cases hf:fnd M.all n with
 | none=>unfold flushM;rw[hf];exact h
 | some i =>
  have hk:(fnd M.kept n).isSome=true:=by
   have:=h.kb n;rw[hf] at this;cases hk:fnd M.kept n with
   | none=>rw[hk] at this;cases this
   | some _=>rfl
  have ea:(flushM M n).all=M.all:=flushM_all M n;refine⟨by rw[ea];exact h.nm,by rw[ea];exact h.bk,by rw[ea];exact h.dp,by rw[ea];exact h.le,?_,fun m=>?_,fun m hm=>?_,fun m hm=>?_⟩
  ·unfold flushM;rw[hf];show(setI M.kept n i).length<=16;rw[setI_len hk];exact h.kl
  ·rw[ea,fnd_flushM_kept M hf];by_cases e:m=n
   ·rw[if_pos e,e,hf]
   ·rw[if_neg e];exact h.kb m
  ·rw[ea,fnd_flushM_kept M hf];by_cases e:m=n
   ·rw[if_pos e,e,hf]
   ·rw[if_neg e];refine h.ch m ?_;unfold flushM at hm;rw[hf] at hm;have hm:(if m=n then false else M.ch m)=false:=hm;rwa[if_neg e] at hm
  ·rw[ea];unfold flushM at hm;rw[hf] at hm;have hm:(if m=n then false else M.ch m)=true:=hm;by_cases e:m=n
   ·rw[if_pos e] at hm;cases hm
   ·rw[if_neg e] at hm;exact h.cn m hm
theorem ok_flushed {M:MM}(h:MOk M)(n:Bs):MOk (flushedM M n):=by
 unfold flushedM;split
 ·exact ok_flush h n
 ·exact h
theorem above_none {S:IL}{n:Bs}(h:aboveN S n=0){m:Bs}{i:IM}(hf:fnd S m=some i):i.back≠n:=fun e=>by
 unfold aboveN at h;have:=List.length_eq_zero_iff.1 h;have hm:(m,i)∈S.filter fun p=>decide (p.2.back=n):=List.mem_filter.2 ⟨fnd_mem hf,by simpa using e⟩;rw[this] at hm;cases hm
theorem dep_del {S:IL}{n:Bs}:∀ (d:Nat) (m:Bs),dep S d m->dep (delI S n) d m
 | 0,m,h=>by
  have h:fnd S m=none:=h;show fnd (delI S n) m=none;rw[fnd_delI];split
  ·rfl
  ·exact h
 | d+1,m,h=>by
  unfold dep at h ⊢;rw[fnd_delI];by_cases e:m=n
  ·rw[if_pos e];trivial
  ·rw[if_neg e];cases hf:fnd S m with
   | none=>trivial
   | some i=>rw[hf] at h;exact dep_del d i.back h
theorem ok_remove {M:MM}(h:MOk M){n:Bs}(ha:aboveN M.all n=0):MOk (remM M n) where
 nm:=fun m j hj=>by
  have hj:fnd (delI M.all n) m=some j:=hj;rw[fnd_delI] at hj;split at hj
  ·cases hj
  ·exact h.nm _ _ hj
 bk:=fun m j hj=>by
  have hj:fnd (delI M.all n) m=some j:=hj;show j.back=[]\/(fnd (delI M.all n) j.back).isSome=true;rw[fnd_delI] at hj;split at hj
  ·cases hj
  ·rw[fnd_delI,if_neg (above_none ha hj)];exact h.bk _ _ hj
 dp:=fun m=>dep_del 8 m (h.dp m)
 le:=Nat.le_trans (List.length_filter_le _ _) h.le
 kl:=Nat.le_trans (List.length_filter_le _ _) h.kl
 kb:=fun m=>by
  show(fnd (delI M.kept n) m).map (·.back)=(fnd (delI M.all n) m).map (·.back);rw[fnd_delI,fnd_delI];split
  ·rfl
  ·exact h.kb m
 ch:=fun m hm=>by
  have hm:(if m=n then false else M.ch m)=false:=hm;show fnd (delI M.kept n) m=fnd (delI M.all n) m;rw[fnd_delI,fnd_delI];by_cases e:m=n
  ·rw[if_pos e,if_pos e]
  ·rw[if_neg e] at hm;rw[if_neg e,if_neg e];exact h.ch m hm
 cn:=fun m hm=>by
  have hm:(if m=n then false else M.ch m)=true:=hm;by_cases e:m=n
  ·rw[if_pos e] at hm;cases hm
  ·rw[if_neg e] at hm;show(fnd (delI M.all n) m).isSome=true;rw[fnd_delI,if_neg e];exact h.cn m hm
end Go.Md
namespace Go.Proofs.YtgkabcaodnofnaaGreat
open Go.RowKit Go.Mx Go.Md
theorem cmd40_any:CmdOk 40 HasN (noughtsF false):=by
 intro w base mb M X c dv h hM hbase hfr hC hp;obtain⟨da,dn,dc,rfl⟩:=slB_shape hC.d.slB;obtain⟨x,hx,hxn,hfx⟩:=has_x h hC hp;have hok:=h.a.ok x hx;obtain⟨w2,hw2,P⟩:=pro_of w c (.slice da dn dc);have HC:=hid (noughts_any false w2 base mb M X c (.slice da dn dc) (P.mo h w2 brf) hM (Nat.le_trans hbase P.b.size) hfr (hC.stp (Stp.of_below P.b (X.fp mb))) hp);have HW:=hid hw2;have HP:=hid P;have HM:=hid h;have HK:=jd5 hM hbase hfr hC hp;have HX:=jd4 hx hxn hfx hok;clear hw2 P h hM hfr hC hp hxn hfx hok;go_enter func40,ntmps40
 go_upto_region 1 with(fail)
 rw[<-HW.out];have b0:=HP.out.cb 0 _ rfl w2 brf;have b1:=HP.out.cb 1 _ rfl w2 brf;have b2:=HP.out.cb 2 _ rfl w2 brf;have b3:=HP.out.cb 3 _ rfl w2 brf;have b4:=HP.out.cb 4 _ rfl w2 brf;have b5:=HP.out.cb 5 _ rfl w2 brf;have b6:=HP.out.cb 6 _ rfl w2 brf;have HXP:=hid HP.out
 go_wp2_with (go_at_call 82;refine HC.out.mono ?_;rintro e w5 ⟨r,X5,rfl,hrp,hMO5,hdm5,hcl5,hfr5,hst5⟩;obtain⟨rdv,rnv,rsv,rfl,ro1,ro2,ro3⟩:=hrp.ex;obtain⟨ra1,rn1,rc1,rfl⟩:=ownB_sh ro1;obtain⟨ra2,rn2,rc2,rfl⟩:=ownG_sh ro2;obtain⟨ra3,rn3,rc3,rfl⟩:=ownG_sh ro3;obtain⟨x0,x1,x2,x3,x4,x5,xz⟩:=zcells (HP.out.zs HM.out hst5))
 obtain⟨W,hW,⟨y0,y1,y2,y3,y4,y5⟩,q1,q2,q3⟩:=end_rep HP.out HM.out hMO5 hst5 hrp HP.out.b.size;change bodyPost _ _ _ _ _ (st6 w5 (w.heap.size+1) _ _ _ _ _ _);rw[<-hW];clear x0 x1 x2 x3 x4 x5 xz hW;refine bodyPost_ret (v:=rpV ((noughtsF false) M c).2.1.code (.slice ra1 rn1 rc1) (.slice ra2 rn2 rc2) (.slice ra3 rn3 rc3) ((noughtsF false) M c).2.1.n ((noughtsF false) M c).2.1.m) (by simp[results,results40,go_sem,y0,y1,y2,y3,y4,y5]) rfl ?_
 first
  | exact⟨_,X5,rfl,q1,q2,hdm5,hcl5,hfr5,q3⟩
  | exact⟨_,rfl,q1,X5,q2,hdm5,hcl5,hfr5,q3⟩
theorem cmd41_any:CmdOk 41 HasN (noughtsF true):=by
 intro w base mb M X c dv h hM hbase hfr hC hp;obtain⟨da,dn,dc,rfl⟩:=slB_shape hC.d.slB;obtain⟨x,hx,hxn,hfx⟩:=has_x h hC hp;have hok:=h.a.ok x hx;obtain⟨w2,hw2,P⟩:=pro_of w c (.slice da dn dc);have HC:=hid (noughts_any true w2 base mb M X c (.slice da dn dc) (P.mo h w2 brf) hM (Nat.le_trans hbase P.b.size) hfr (hC.stp (Stp.of_below P.b (X.fp mb))) hp);have HW:=hid hw2;have HP:=hid P;have HM:=hid h;have HK:=jd5 hM hbase hfr hC hp;have HX:=jd4 hx hxn hfx hok;clear hw2 P h hM hfr hC hp hxn hfx hok;go_enter func41,ntmps41
 go_upto_region 1 with(fail)
 rw[<-HW.out];have b0:=HP.out.cb 0 _ rfl w2 brf;have b1:=HP.out.cb 1 _ rfl w2 brf;have b2:=HP.out.cb 2 _ rfl w2 brf;have b3:=HP.out.cb 3 _ rfl w2 brf;have b4:=HP.out.cb 4 _ rfl w2 brf;have b5:=HP.out.cb 5 _ rfl w2 brf;have b6:=HP.out.cb 6 _ rfl w2 brf;have HXP:=hid HP.out
 go_wp2_with (go_at_call 82;refine HC.out.mono ?_;rintro e w5 ⟨r,X5,rfl,hrp,hMO5,hdm5,hcl5,hfr5,hst5⟩;obtain⟨rdv,rnv,rsv,rfl,ro1,ro2,ro3⟩:=hrp.ex;obtain⟨ra1,rn1,rc1,rfl⟩:=ownB_sh ro1;obtain⟨ra2,rn2,rc2,rfl⟩:=ownG_sh ro2;obtain⟨ra3,rn3,rc3,rfl⟩:=ownG_sh ro3;obtain⟨x0,x1,x2,x3,x4,x5,xz⟩:=zcells (HP.out.zs HM.out hst5))
 obtain⟨W,hW,⟨y0,y1,y2,y3,y4,y5⟩,q1,q2,q3⟩:=end_rep HP.out HM.out hMO5 hst5 hrp HP.out.b.size;change bodyPost _ _ _ _ _ (st6 w5 (w.heap.size+1) _ _ _ _ _ _);rw[<-hW];clear x0 x1 x2 x3 x4 x5 xz hW;refine bodyPost_ret (v:=rpV ((noughtsF true) M c).2.1.code (.slice ra1 rn1 rc1) (.slice ra2 rn2 rc2) (.slice ra3 rn3 rc3) ((noughtsF true) M c).2.1.n ((noughtsF true) M c).2.1.m) (by simp[results,results41,go_sem,y0,y1,y2,y3,y4,y5]) rfl ?_
 first
  | exact⟨_,X5,rfl,q1,q2,hdm5,hcl5,hfr5,q3⟩
  | exact⟨_,rfl,q1,X5,q2,hdm5,hcl5,hfr5,q3⟩
end Go.Proofs.YtgkabcaodnofnaaGreat
namespace Go.Md
def mergeL (more:List Sp)(b:BM):BM:={b with l:=if rightS (-1) more then more.foldl addS (addS b.l (0,0)) else addS b.l (0,0)}
def mergeBM (l:List BM)(n o:Bs):Int×List BM:=match posN (l.map (·.name)) o with
 | none=>(4,[])
 | some k=>match l[k]? with
  | none=>(4,[])
  | some m=>modBM l n (mergeL m.l)
end Go.Md
namespace Go.Proofs.YtgkabcaodnofnaaGreat
open Go.RowKit Go.Mx Go.Md
section
variable {w w':World}{base:Nat}{v:Value}{l:List BM}{ps:List PB}
theorem BMS.pAt (h:BMS w base v l ps){k:Nat}{b:BM}(hb:l[k]? = some b):∃ p,ps[k]? = some p/\p.b=b:=by
 rw[h.e,List.getElem?_map] at hb;cases hp:ps[k]? with
 | none=>rw[hp] at hb;cases hb
 | some p=>rw[hp] at hb;simp at hb;exact⟨p,rfl,hb⟩
theorem on121 {g n c:Nat}(h:BMS w base (.slice (some ⟨g,0,none⟩) n c) l ps){k:Nat}{b:BM}(hb:l[k]? = some b)(on:Bool){nb:Nat}(hq:w.heap[nb]? = some (.cells #[.bool on] 4 (0,0)))(o:Nat)(ho:o=k*3) :
  Calls prog 121 #[.pointer (some ⟨g,o,none⟩),pt nb] w fun e w'=>e = .returned (.tuple #[])/\w'=w.setCell ⟨g,o+1,none⟩ (.bool on)/\∃ ps',BMS w' base (.slice (some ⟨g,0,none⟩) n c) (l.set k {b with on:=on}) ps':=by
 obtain⟨p,hp,rfl⟩:=h.pAt hb;have c1:=h.cellAt hp 1 _ rfl;rw[<-ho] at c1;have z1:=h.fz (o+1);have h9:=h.setOn hp on;rw[<-ho] at h9;have H9:=hid h9;have c0:w.cell? ⟨nb,0,none⟩=some (.bool on):=by simp[World.cell?,hq]
 clear h hp h9 hq hb ho;go_enter func121,ntmps121
 go_wp2_with fail
 go_end0
 exact⟨rfl,rfl,_,H9.out⟩
theorem clear122 {g n c:Nat}(h:BMS w base (.slice (some ⟨g,0,none⟩) n c) l ps){k:Nat}{b:BM}(hb:l[k]? = some b)(o:Nat)(ho:o=k*3) :
  Calls prog 122 #[.pointer (some ⟨g,o,none⟩)] w fun e w'=>e = .returned (.tuple #[])/\w'=w.setCell ⟨g,o+2,none⟩ (.slice none 0 0)/\∃ ps',BMS w' base (.slice (some ⟨g,0,none⟩) n c) (l.set k {b with l:=[]}) ps':=by
 obtain⟨p,hp,rfl⟩:=h.pAt hb;obtain⟨la,ln,lc,hlv⟩:=ownG_sh (h.s p (List.mem_of_getElem? hp));have c1:=h.cellAt hp 2 _ rfl;rw[<-ho,hlv] at c1;have z1:=h.fz (o+2);have h9:=h.setL hp (lv:=.slice none 0 0) (ls:=[]) (OwnG.nil _ _ _ _) (by simp);rw[<-ho] at h9;have H9:=hid h9;clear h hp h9 hb ho;go_enter func122,ntmps122
 go_wp2_with fail
 go_end0
 exact⟨rfl,rfl,_,H9.out⟩
theorem turnOn (h:BMS w base v l ps)(hbase:base<=w.heap.size)(n:Bs)(on:Bool){nb:Nat}(hq:w.heap[nb]? = some (.cells #[.bool on] 4 (0,0))):Calls prog 120 #[v,str n,.func (.func 121) #[] #[pt nb]] w fun e w'=>∃ v' ps',e = .returned (.tuple #[v',.int .i64 (modBM l n (fun b=>{b with on:=on})).1])/\BMS w' base v' (modBM l n (fun b=>{b with on:=on})).2 ps'/\Below w.heap.size w w':=by
 have HPL:=hid (place118 h n);have HO:=hid (fun w' (hB:Below w.heap.size w w')=>own_any (h.below hB) (Nat.le_trans hbase hB.size));have H:=jd2 h hbase;obtain⟨sa,sn,sc,hsv⟩:=ownG_sh h.o;rw[hsv] at HPL HO ⊢;clear h hbase hsv;have HQ:=hid hq;clear hq;cases hpn:posN (l.map (·.name)) n with
 | none =>
  have hF:modBM l n (fun b=>{b with on:=on})=(4,[]):=by unfold modBM;rw[hpn]
  rw[hF];rw[posI_none hpn] at HPL;clear hpn hF;go_enter func120,ntmps120
  go_wp2_with (go_at_call 118;refine HPL.out.mono ?_;rintro e w5 ⟨rfl,hb5⟩)
  go_ret2
  exact⟨_,[],rfl,BMS.nil _ _,hb5⟩
 | some k =>
  have hk:=posN_lt hpn;rw[List.length_map] at hk;obtain⟨b,hlb⟩:∃ b,l[k]? = some b:=⟨_,List.getElem?_eq_getElem hk⟩
  have hF:modBM l n (fun b=>{b with on:=on})=(0,l.set k ((fun b=>{b with on:=on}) b)):=by unfold modBM;rw[hpn];simp only;rw[hlb]
  rw[hF];rw[posI_some hpn] at HPL;have HLB:=jd2 hlb hk;clear hpn hF hk hlb;go_enter func120,ntmps120
  go_upto_region 4 with(go_at_call 118;refine HPL.out.mono ?_;rintro e w5 ⟨rfl,hb5⟩)
  go_wp2_with fail
  refine(HO.out _ hb5).mono ?_;rintro e w6 ⟨v6,ps6,rfl,hB6,hnew6,hb6⟩;obtain⟨p,hp,rfl⟩:=hB6.pAt HLB.out.1;obtain⟨gb,n6,c6,rfl,_,_,hia⟩:=hB6.place hp;obtain⟨o,ho⟩:∃ o,o=k*3:=⟨_,rfl⟩
  rw[<-ho] at hia;have hgb:w5.heap.size<=gb:=hnew6 gb rfl;have hb06:Below w.heap.size w w6:=hb5.trans (hb6.mono hb5.size);have hgw:w.heap.size<=gb:=Nat.le_trans hb5.size hgb;have HC:=hid (on121 hB6 HLB.out.1 on ((hb06.block nb (blk_lt HQ.out)).trans HQ.out) o ho);have H6:=jd3 hB6 hb06 hgw;clear hB6 hnew6 hb6 hb5 hb06 hgw hgb hp ho
  go_wp2_with fail
  refine HC.out.mono ?_;rintro e w7 ⟨rfl,hw7,ps7,hB7⟩;have HB7:=jd2 hB7 (show Below w.heap.size w w7 by rw[hw7];exact H6.out.2.1.setCell H6.out.2.2 _);clear hB7 hw7
  go_wp2_with fail
  go_ret2
  exact⟨_,ps7,rfl,HB7.out.1,HB7.out.2⟩
theorem turnClear (h:BMS w base v l ps)(hbase:base<=w.heap.size)(n:Bs)  : Calls prog 120 #[v,str n,.func (.func 122) #[] #[]] w fun e w'=>∃ v' ps',e = .returned (.tuple #[v',.int .i64 (modBM l n (fun b=>{b with l:=[]})).1])/\BMS w' base v' (modBM l n (fun b=>{b with l:=[]})).2 ps'/\Below w.heap.size w w':=by
 have HPL:=hid (place118 h n);have HO:=hid (fun w' (hB:Below w.heap.size w w')=>own_any (h.below hB) (Nat.le_trans hbase hB.size));have H:=jd2 h hbase;obtain⟨sa,sn,sc,hsv⟩:=ownG_sh h.o;rw[hsv] at HPL HO ⊢;clear h hbase hsv;cases hpn:posN (l.map (·.name)) n with
 | none =>
  have hF:modBM l n (fun b=>{b with l:=[]})=(4,[]):=by unfold modBM;rw[hpn]
  rw[hF];rw[posI_none hpn] at HPL;clear hpn hF;go_enter func120,ntmps120
  go_wp2_with (go_at_call 118;refine HPL.out.mono ?_;rintro e w5 ⟨rfl,hb5⟩)
  go_ret2
  exact⟨_,[],rfl,BMS.nil _ _,hb5⟩
 | some k =>
  have hk:=posN_lt hpn;rw[List.length_map] at hk;obtain⟨b,hlb⟩:∃ b,l[k]? = some b:=⟨_,List.getElem?_eq_getElem hk⟩
  have hF:modBM l n (fun b=>{b with l:=[]})=(0,l.set k ((fun b=>{b with l:=[]}) b)):=by unfold modBM;rw[hpn];simp only;rw[hlb]
  rw[hF];rw[posI_some hpn] at HPL;have HLB:=jd2 hlb hk;clear hpn hF hk hlb;go_enter func120,ntmps120
  go_upto_region 4 with(go_at_call 118;refine HPL.out.mono ?_;rintro e w5 ⟨rfl,hb5⟩)
  go_wp2_with fail
  refine(HO.out _ hb5).mono ?_;rintro e w6 ⟨v6,ps6,rfl,hB6,hnew6,hb6⟩;obtain⟨p,hp,rfl⟩:=hB6.pAt HLB.out.1;obtain⟨gb,n6,c6,rfl,_,_,hia⟩:=hB6.place hp;obtain⟨o,ho⟩:∃ o,o=k*3:=⟨_,rfl⟩
  rw[<-ho] at hia;have hgb:w5.heap.size<=gb:=hnew6 gb rfl;have hb06:Below w.heap.size w w6:=hb5.trans (hb6.mono hb5.size);have hgw:w.heap.size<=gb:=Nat.le_trans hb5.size hgb;have HC:=hid (clear122 hB6 HLB.out.1 o ho);have H6:=jd3 hB6 hb06 hgw;clear hB6 hnew6 hb6 hb5 hb06 hgw hgb hp ho
  go_wp2_with fail
  refine HC.out.mono ?_;rintro e w7 ⟨rfl,hw7,ps7,hB7⟩;have HB7:=jd2 hB7 (show Below w.heap.size w w7 by rw[hw7];exact H6.out.2.1.setCell H6.out.2.2 _);clear hB7 hw7
  go_wp2_with fail
  go_ret2
  exact⟨_,ps7,rfl,HB7.out.1,HB7.out.2⟩
theorem turn90 (h:BMS w base v l ps)(hbase:base<=w.heap.size)(n:Bs)(on:Bool):Calls prog 90 #[v,str n,.bool on] w fun e w'=>∃ v' ps',e = .returned (.tuple #[v',.int .i64 (modBM l n (fun b=>{b with on:=on})).1])/\BMS w' base v' (modBM l n (fun b=>{b with on:=on})).2 ps'/\Below w.heap.size w w':=by
 have hbA:Below w.heap.size w (w.alloc (.cells #[.bool on] 4)):=brf.alloc nlr _;have HT:=hid (turnOn (h.below hbA) (Nat.le_trans hbase hbA.size) n on (alloc_new w _));have HB:=hid hbA;obtain⟨sa,sn,sc,hsv⟩:=ownG_sh h.o;rw[hsv] at HT ⊢;clear h hbase hbA hsv;go_enter func90,ntmps90
 go_wp2_with (go_at_call 120;refine HT.out.mono ?_;rintro e w5 ⟨v5,ps5,rfl,hB5,hb5⟩;obtain⟨ya,yn,yc,rfl⟩:=ownG_sh hB5.o)
 go_ret2
 exact⟨_,ps5,rfl,hB5,HB.out.trans (hb5.mono HB.out.size)⟩
theorem clear91 (h:BMS w base v l ps)(hbase:base<=w.heap.size)(n:Bs)  : Calls prog 91 #[v,str n] w fun e w'=>∃ v' ps',e = .returned (.tuple #[v',.int .i64 (modBM l n (fun b=>{b with l:=[]})).1])/\BMS w' base v' (modBM l n (fun b=>{b with l:=[]})).2 ps'/\Below w.heap.size w w':=by
 have HT:=hid (turnClear h hbase n);obtain⟨sa,sn,sc,hsv⟩:=ownG_sh h.o;rw[hsv] at HT ⊢;clear h hbase hsv;go_enter func91,ntmps91
 go_wp2_with (go_at_call 120;refine HT.out.mono ?_;rintro e w5 ⟨v5,ps5,rfl,hB5,hb5⟩;obtain⟨ya,yn,yc,rfl⟩:=ownG_sh hB5.o)
 go_ret2
 exact⟨_,ps5,rfl,hB5,hb5⟩
end
end Go.Proofs.YtgkabcaodnofnaaGreat
