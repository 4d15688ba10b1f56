import Derived.Test.YtgkabcaodnofnaaGreatB02
import Derived.Test.YtgkabcaodnofnaaGreatB22
set_option linter.unusedSimpArgs false
set_option linter.unusedVariables false
set_option maxRecDepth 100000
set_option maxHeartbeats 4000000
open Go.Proofs.Tryz
namespace Go.Proofs.YtgkabcaodnofnaaGreat
open Go.RowKit Go.Mx Go.Md
theorem moved_any {w:World}{base mb:Nat}{M:MM}{X:MX}(h:MO w base mb M X)(hM:MOk M)(hbase:base<=w.heap.size)(hfr:X.fr.length<=10){x:XI}(hx:x∈X.xs)(tg:Bs)(htl:tg.length<=100) :
  Calls prog 96 #[pt mb,str x.n,str tg] w fun e w'=>∃ X',e = .returned (failV (movedM M x.n tg).2.1)/\MO w' base mb (movedM M x.n tg).1 X'/\X'.dm=X.dm/\X'.cl.length<=X.cl.length/\X'.fr.length=X.fr.length+(movedM M x.n tg).2.2/\Stp w w' (X.fp mb) (X'.fp mb):=by
 obtain⟨F,hF0⟩:∃ F,F=movedM M x.n tg:=⟨_,rfl⟩
 rw[<-hF0];obtain⟨w1,hw1⟩:∃ z,z=w.alloc (.cells zrep 34):=⟨_,rfl⟩
 have hb1:Below w.heap.size w w1:=by rw[hw1];exact brf.alloc nlr _
 have hs1:w1.heap.size=w.heap.size+1:=by rw[hw1];simp
 have hq1:w1.heap[w.heap.size]? = some (.cells zrep 34 (0,0)):=by rw[hw1];exact alloc_new w _
 have hz1:∀ w',Below w1.heap.size w1 w'->w'.heap[w.heap.size]? = some (.cells zrep 34 (0,0)):=fun w' hB=>(hB.block _ (by omega)).trans hq1;have h1:=h.below hb1;have hfx:=h.a.find hx;have hok:=h.a.ok x hx;have hxl:X.xs.length<=16:=by
  have e1:=h.a.p.length_eq;rw[List.length_map] at e1;rw[e1];exact hM.le
 have hkl:X.ks.length<=16:=by
  have e1:=h.k.p.length_eq;rw[List.length_map] at e1;rw[e1];exact hM.kl
 have hnl:x.n.length<=100:=h.a.nl x hx;have hne:x.n≠[]:=fun e=>by have:=hM.nm _ _ hfx;rw[e] at this;cases this
 have hn0:fnd M.all []=none:=by
  cases hf:fnd M.all [] with
  | none=>rfl
  | some i=>have:=hM.nm _ _ hf;cases this
 have c0:=h1.cells.1;have HBK:=hid (backs_any h1.mod0 h1.a (by omega));have HW:=hid hw1;have HM:=hid h;have H1:=jd3 hb1 h1 hz1;have HS1:=hid hs1;have HX:=jd3 hx hfx hok;have HK:=jd9 hM hbase hfr hxl hkl hnl hne hn0 htl;have HF:=hid hF0;rcases h1.a.at tg (Nat.le_trans htl (by unfold maxLen;omega)) with⟨hft,hlt⟩|⟨y,hy,hyn,hft,hlt⟩
 ·by_cases ht:tg=[]
  ·have et:(tg==[])=true:=by simpa using ht
   have HT:=hid ht;clear h hM hbase hfr hx hb1 hs1 hz1 hq1 h1 hfx hok hxl hkl hnl hne hn0 htl hF0 hft hw1 ht;go_enter func96,ntmps96
   go_upto_region 1 with(fail)
   rw[<-HW.out];go_upto_region 3 with(fail)
   clear hlt c0;go_upto_region 4 with(go_at_call 74;refine HBK.out.mono ?_;rintro e w2 ⟨rfl,l,hg2,hp2,hb2⟩)
   have hll:l.length<maxLen:=by have:=hp2.length_eq;rw[List.length_map] at this;rw[this];have:=HK.out.2.2.2.1;unfold maxLen;omega
   obtain⟨w3,hrun,hg3,hgr3,hs3,hf3⟩:=hg2.upd K9 (t:=127) underlying127 x.n (Nat.le_trans HK.out.2.2.2.2.2.1 (by unfold maxLen;omega)) (str tg) rfl hll;have hb3:Below w1.heap.size w1 w3:=hb2.grown hgr3 hb2.size fun k hk=>by cases hk;exact nlr
   have hB3:∀ t,Mx.look (Mx.upd l x.n (str tg)) t=(movB M x.n tg t).map fun b=>str b:=fun t=>lookM H1.out.2.1.a hp2 x.n tg t;have hbl:∀ t b,movB M x.n tg t=some b->b.length<=1000:=fun t b hb=>by
    unfold movB at hb;split at hb
    ·cases hb;have:=HK.out.2.2.2.2.2.2.2.2;omega
    ·cases hf:fnd M.all t with
     | none=>rw[hf] at hb;cases hb
     | some i=>rw[hf] at hb;cases hb;exact Nat.le_trans (H1.out.2.1.a.oks t i hf).nb (by omega)
   have hrun':(Instr.mapUpdate 127 (.map (some w1.heap.size)) (str x.n) (str tg)).run prog w2 = .ok () w3:=hrun;have HST:=hid (fun(w':World) (hB:w'.heap[w1.heap.size]? = w3.heap[w1.heap.size]?) (t:Bs) (ht:t.length<=1000)=>stands_any (movB M x.n tg) (hg3.block hB) hB3 hbl t ht);have hnames:∀ t,(Mx.look (Mx.upd l x.n (str tg)) t).isSome=true↔(fnd M.all t).isSome=true:=fun t=>by
    rw[hB3];unfold movB;by_cases e:t=x.n
    ·rw[if_pos e,e,HX.out.2.1];simp
    ·rw[if_neg e];cases fnd M.all t<;>simp
   have H3:=jd3 hg3 hb3 hnames;have HD:=hid (stands_any (movB M x.n tg) hg3 hB3 hbl x.n (by have:=HK.out.2.2.2.2.2.1;omega));obtain⟨sd,hsd⟩:∃ sd,sd=standsM (movB M x.n tg) x.n:=⟨_,rfl⟩
   rw[<-hsd] at HD;have HSD:=hid hsd;clear hg2 hp2 hll hg3 hgr3 hs3 hf3 hB3 hbl hrun hnames hsd;go_upto_region 6 with(go_at_call 75;refine HD.out.mono ?_;rintro e w4 ⟨rfl,hb4⟩)
   have hb14:Below w1.heap.size w1 w4:=hb3.trans (hb4.mono hb3.size);have H4:=jd2 hb14 hb4;clear hb3 hb4 hb2 hb14;by_cases hsd:sd=0
   case neg =>
    have esd:(sd==0)=false:=by simpa using hsd
    have hbZ:=H4.out.1
    go_wp2_with (go_at_call 21;refine(failed_any sd _).mono ?_;rintro e w9 ⟨rfl,hb9⟩;obtain⟨x0,x1,x2,x3,x4,x5,xz⟩:=zcells (H1.out.2.2 _ (hbZ.trans (hb9.mono hbZ.size))))
    obtain⟨W,hW,⟨y0,y1,y2,y3,y4,y5⟩,r2,r3⟩:=mv_fail HM.out (H1.out.1.trans ((hbZ.trans (hb9.mono hbZ.size)).mono H1.out.1.size)) (H1.out.2.2 _ (hbZ.trans (hb9.mono hbZ.size))) sd;have hF:F=(M,sd,0):=by
     rw[HF.out];unfold movedM;rw[HX.out.2.1];simp only;rw[if_neg (fun h=>h.1 HT.out),if_pos (by rw[<-HSD.out];exact hsd),<-HSD.out]
    rw[hF];clear x0 x1 x2 x3 x4 x5 xz hF;change bodyPost _ _ _ _ _ (st6 w9 w.heap.size (.int .i64 sd) nilS nilS nilS (.int .i64 0) (.int .i64 0));rw[<-hW];exact bodyPost_ret (v:=failV sd) (by simp[results,results96,go_sem,y0,y1,y2,y3,y4,y5]) rfl ⟨X,rfl,r2,rfl,nlr,rfl,r3⟩
   case pos =>
    subst hsd;go_upto_region 8 with(fail)
    have hg4:GM ES prog 9 w4 w1.heap.size (Mx.upd l x.n (str tg)):=H3.out.1.block (H4.out.2.block _ H3.out.1.lt);have hs4:w1.heap.size<w4.heap.size:=hg4.lt
    go_wp2_with (first
     | (at_range;refine range_gm _ rfl _ rfl K9 underlying127 rfl hg4 ?_;intro w5 hrg5 hg5 hs5)
     | go_in)
    go_frame
    go_loopw [9] (fun _ wr=>∃ (left:Bs->Bool) (cnt:Nat),RG ES prog 9 wr w1.heap.size w4.heap.size (Mx.upd l x.n (str tg)) left cnt/\Hid (Below w1.heap.size w1 wr/\wr.heap[w1.heap.size]? = w3.heap[w1.heap.size]?/\w4.heap.size<wr.heap.size/\∀ t,(fnd M.all t).isSome=true->left t=false->standsM (movB M x.n tg) t≠10)) (fun _ wr=>wr.rangeLeft w1.heap.size w4.heap.size)
    case atStart =>
     have hb5:Below w4.heap.size w4 w5:=brf.grown hg5 nlr (by simp);refine⟨_,_,hrg5,hid ⟨H4.out.1.trans (hb5.mono H4.out.1.size),(hb5.block _ hs4).trans (H4.out.2.block _ H3.out.1.lt),by omega,fun t ht h2=>?_⟩⟩;rw[(H3.out.2.2 t).2 ht] at h2;cases h2
    case round =>
     obtain⟨left,cnt,hrg,hR⟩:=hrel;obtain⟨wO,hwO⟩:∃ z,z=wr:=⟨_,rfl⟩
     subst hwO;clear hrg5 hg5 hs5 hg4
     go_wp2_with (first
      | (at_next;refine next_gm _ rfl _ rfl K9 w4.heap.size _ _ rfl hrg ?_ ?_)
      | go_in)
     rotate_left
     ·intro s b w6 cnt1 hlk hls hrg1 hlt1 hg1 hs6 hen;have hen':(Instr.entry (.pointer (some ⟨w4.heap.size,0,none⟩))).run prog w6 = .ok (.tuple #[str s,b]) w6:=hen;have hss:(fnd M.all s).isSome=true:=(H3.out.2.2 s).1 (by rw[hlk];rfl);have hb6:Below w4.heap.size wO w6:=(Below.refl w4.heap.size wO).grown hg1 (Nat.le_of_lt hR.out.2.2.1) (fun k hk=>by cases hk;exact nlr);have hb16:Below w1.heap.size w1 w6:=hR.out.1.trans (hb6.mono (Nat.le_of_lt hs4));have hq6:w6.heap[w1.heap.size]? = w3.heap[w1.heap.size]? := (hb6.block _ hs4).trans hR.out.2.1;have hsl:s.length<=1000:=by
       obtain⟨z,hz,e⟩:=List.mem_map.1 ((H1.out.2.1.a.names_S s).1 hss);rw[<-e];have:=H1.out.2.1.a.nl z hz;omega
      have HSS:=hid (HST.out w6 hq6 s hsl);obtain⟨dd,hdd⟩:∃ dd,dd=standsM (movB M x.n tg) s:=⟨_,rfl⟩
      rw[<-hdd] at HSS;have H6:=jd8 hb16 hq6 hss hdd hrg1 hrg hlt1 (by rw[hs6];exact hR.out.2.2.1:w4.heap.size<w6.heap.size);clear hb6 hb16 hq6 hsl hss hdd hrg1 hrg hlt1 hlk hls hg1 hen;by_cases hd10:dd=10
      ·subst hd10;go_upto_region 12 with(go_at_call 75;refine HSS.out.mono ?_;rintro e w7 ⟨rfl,hb7⟩)
       have hbZ:=H6.out.1.trans (hb7.mono H6.out.1.size)
       go_wp2_with (go_at_call 21;refine(failed_any 10 _).mono ?_;rintro e w9 ⟨rfl,hb9⟩;obtain⟨x0,x1,x2,x3,x4,x5,xz⟩:=zcells (H1.out.2.2 _ (hbZ.trans (hb9.mono hbZ.size))))
       obtain⟨W,hW,⟨y0,y1,y2,y3,y4,y5⟩,r2,r3⟩:=mv_fail HM.out (H1.out.1.trans ((hbZ.trans (hb9.mono hbZ.size)).mono H1.out.1.size)) (H1.out.2.2 _ (hbZ.trans (hb9.mono hbZ.size))) 10;have hF:F=(M,10,0):=by
        rw[HF.out];unfold movedM;rw[HX.out.2.1];simp only;rw[if_neg (fun h=>h.1 HT.out),if_neg (fun h=>h HSD.out.symm),if_pos (List.any_eq_true.2 (by obtain⟨i,hi⟩:=Option.isSome_iff_exists.1 H6.out.2.2.1;exact⟨_,fnd_mem hi,by simpa using H6.out.2.2.2.1.symm⟩))]
       rw[hF];clear x0 x1 x2 x3 x4 x5 xz hF;change bodyPost _ _ _ _ _ (st6 w9 w.heap.size (.int .i64 10) nilS nilS nilS (.int .i64 0) (.int .i64 0));rw[<-hW];exact bodyPost_ret (v:=failV 10) (by simp[results,results96,go_sem,y0,y1,y2,y3,y4,y5]) rfl ⟨X,rfl,r2,rfl,nlr,rfl,r3⟩
      ·have ed10:(dd==10)=false:=by simpa using hd10
       have HD10:=hid hd10;clear hd10
       go_wp2_with (go_at_call 75;refine HSS.out.mono ?_;rintro e w7 ⟨rfl,hb7⟩)
       obtain⟨hb16,hq6,hss,hdd,hrg1,hrg,hlt1,hs6'⟩:=H6.out;have hrg7:=hrg1.blocks (hb7.block _ hrg1.gm.lt) (hb7.block _ hrg1.lt)
       go_roundw
       case rel =>
        refine⟨_,cnt1,hrg7,hid ⟨hb16.trans (hb7.mono hb16.size),(hb7.block _ (Nat.lt_of_lt_of_le hs4 (Nat.le_of_lt hs6'))).trans hq6,Nat.lt_of_lt_of_le hs6' hb7.size,fun t ht h2=>?_⟩⟩;by_cases e:t=s
        ·rw[e,<-hdd];exact HD10.out
        ·exact hR.out.2.2.2 t ht (by simpa[e] using h2)
       case measure=>rw[hrg7.left_eq,hrg.left_eq];exact hlt1
     ·intro hl0;clear hrg;have HR0:=jd2 hR.out.1 (fun t ht=>hR.out.2.2.2 t ht (by rw[hl0]));clear hR;have hst0:=HSD.out.symm;have hany:(M.all.any fun p=>decide (standsM (movB M x.n tg) p.1=10))=false:=by
       rw[List.any_eq_false];intro p hp he;exact HR0.out.2 p.1 (by rw[fnd_of H1.out.2.1.a.nd (show(p.1,p.2)∈M.all from hp)];rfl) (by simpa using he)
      have hmO:=H1.out.2.1.below HR0.out.1;go_upto_region 15 with(fail)
      obtain⟨w6,hw6⟩:∃ z,z=wO:=⟨_,rfl⟩
      rw[<-hw6];rw[<-hw6] at hmO;obtain⟨M1,hM1⟩:∃ M1,M1=M:=⟨_,rfl⟩
      obtain⟨X1,hX1e⟩:∃ X1,X1=X:=⟨_,rfl⟩
      obtain⟨k1,hk1⟩:∃ k1:Nat,k1=0:=⟨_,rfl⟩
      have hM1e:M1.all=M.all:=by rw[hM1]
      have hm1:MO w6 base mb M1 X1:=by rw[hM1,hX1e];exact hmO
      have ea:True:=trivial;have exs:X1.xs=X.xs:=by rw[hX1e]
      have eks:X1.ks.length<=X.ks.length:=by rw[hX1e];exact nlr
      have efr:X1.fr.length=X.fr.length+k1:=by rw[hX1e,hk1];rfl
      have edm:X1.dm=X.dm:=by rw[hX1e]
      have ecl:X1.cl.length<=X.cl.length:=by rw[hX1e];exact nlr
      have est:Stp wO w6 (X.fp mb) (X1.fp mb):=by rw[hX1e,hw6];exact Stp.refl _ _
      clear hmO hX1e hw6;have hX1:X1.xs=X.xs/\X1.ks.length<=17/\X1.fr.length=X.fr.length+k1/\X1.dm=X.dm/\X1.cl.length<=X.cl.length/\Stp w1 w6 (X.fp mb) (X1.fp mb)/\k1<=1:=⟨exs,by have:=HK.out.2.2.2.2.1;omega,efr,edm,ecl,(Stp.of_below HR0.out.1 _).trans est,by rw[hk1];first|exact Nat.zero_le _|(unfold flushedN;split<;>omega)⟩
      have hF1:F=(flushM {M1 with all:=setI M1.all x.n (movI M1.all x.i tg)} x.n,0,k1+1):=by
       rw[HF.out,hM1e,hM1,hk1];unfold movedM;rw[HX.out.2.1];simp only;rw[if_neg (fun h=>h.1 HT.out),if_neg (fun h=>h HSD.out.symm),if_neg (by rw[hany];simp),if_pos HT.out,if_pos HT.out]
      clear exs eks efr edm ecl est ea hM1 hk1;have hall:M1.all=M.all:=hM1e;have hx1:x∈X1.xs:=by rw[hX1.1];exact HX.out.1
      have hf1:fnd M1.all x.n=some x.i:=by rw[hall];exact HX.out.2.1
      have hd1:∀ t,dep M1.all 8 t:=fun t=>by rw[hall];exact HK.out.1.dp t
      have hS1:∀ n i,fnd M1.all n=some i->∃ nc,OwnOk i.cl nc i.own:=fun n i hf=>⟨_,(hm1.a.oks n i hf).own⟩
      have hsb1:∀ S',(∀ m,m≠x.n->fnd S' m=fnd M1.all m)->∀ s,secOf S' 8 x.i.back s=secOf M1.all 8 x.i.back s:=fun S' hS=>secOf_back hS hf1 (hd1 _);have hst1:∀ S',(∀ m,m≠x.n->fnd S' m=fnd M1.all m)->∀ s,secOf S' 8 tg s=secOf M1.all 8 tg s:=fun S' hS=>secOf_off hS HK.out.2.2.2.2.2.2.1 (by rw[hall];exact HK.out.2.2.2.2.2.2.2.1) (B:=movB M x.n tg) (fun m hm=>by rw[hall];unfold movB;rw[if_neg hm]) 8 [x.n] tg (stn_mov hst0 HK.out.2.2.2.2.2.2.1) (List.mem_singleton.2 rfl) 8;have hb6:base<=w6.heap.size:=Nat.le_trans (Nat.le_trans HK.out.2.1 H1.out.1.size) hX1.2.2.2.2.2.1.k.size;have c06:=hm1.cells.1;have lk6:=hm1.a.atx hx1;have g1:∀ w',Below w6.heap.size w6 w'->w'.cell? ⟨x.ib,1,none⟩=some (.int .i64 x.i.size):=fun w' hB=>((hm1.below hB).a.i x hx1).cells.2.1;have g3:∀ w',Below w6.heap.size w6 w'->w'.cell? ⟨x.ib,3,none⟩=some (.map (some x.x.om)):=fun w' hB=>((hm1.below hB).a.i x hx1).cells.2.2.2.1
      have HFO:=hid (fun w' (hB:Below w6.heap.size w6 w')=>filled_own ((MvQ.start hm1 hx1).below hB) hf1 hS1 hd1 HK.out.2.2.2.2.2.2.2.2 hsb1 hst1 (Nat.le_trans hb6 hB.size));have HQ1:=jd9 hm1 hX1 hall hx1 hf1 hS1 hd1 hsb1 (And.intro hst1 (And.intro hb6 hF1));have hB0:Below w6.heap.size w6 w6.drew:=brf.drew;clear hst0 hany hm1 hX1 hall hx1 hf1 hd1 hS1 hsb1 hst1 hb6 hF1 hM1e;go_upto_region 16 with(fail)
      clear c06 lk6;refine wp_region_K 11 (fun w'=>Below w6.heap.size w6 w') (by kernel_rfl) ?_;refine qk 0 ?_;try simp only[nk]
      refine qk 1 ?_;try simp only[nk]
      refine qk 2 ?_;try simp only[nk]
      refine qk 3 ?_;try simp only[nk]
      refine qk 4 ?_;try simp only[nk]
      refine rq 5 ?_;try simp only[nk]
      refine qk 6 ?_;try simp only[nk]
      refine qk 7 ?_;try simp only[nk]
      refine qk 8 ?_;try simp only[nk]
      refine rq 9 ?_;try simp only[nk]
      refine qk 10 ?_;try simp only[nk]
      refine wpAnyK_ready (rs:=[11]) (by kernel_rfl) (by simp) (AllReadyK.cons rfl (fun K hK=>?_) AllReadyK.nil);go_simp
      go_wp2_with (go_at_call 130;refine(HFO.out _ (by assumption)).mono ?_;rintro e w7 ⟨rfl,l7,hq7,hk7⟩)
      refine hK.out _ _ (fun h=>by cases h) ?_;clear hK K
      try simp only[nk]
      refine wpAnyK_done (by kernel_rfl) ?_ _;obtain⟨hm1,hX1,hall,hx1,hf1,hS1,hd1,hsb1,hst1,hb6,hF1⟩:=HQ1.out;obtain⟨U1,hU1⟩:∃ U,U=fun a c=>secs (secOf M1.all 8 x.i.back) a c:=⟨_,rfl⟩
      obtain⟨U2,hU2⟩:∃ U,U=fun a c=>secs (secOf M1.all 8 tg) a c:=⟨_,rfl⟩
      rw[<-hU1,<-hU2,<-fillsI_zero] at hq7;have hII6:=hm1.a.i x hx1;obtain⟨sa,sn,sc,hsv⟩:=ownG_sh hII6.so;have hII7:=hq7.ii;have c7:w7.cell? ⟨x.ib,4,none⟩=some (.slice sa sn sc):=by rw[hII7.cells.2.2.2.2.1];show some x.x.sv=_;rw[hsv]
      have ho7:=hII7.so;have ho7:OwnG w7 base 90 3 (.slice sa sn sc) (x.x.ss.map sxrow):=by rw[<-hsv];exact ho7
      have hlen7:=SlG.len (P:=prog) (ty:=3) ho7.slG underlying85;rw[List.length_map] at hlen7;have hse:x.i.shots=x.x.ss.map (·.s):=hII6.se;have hn8:x.x.ss.length<=8:=by have:=HX.out.2.2.ns;rw[hse,List.length_map] at this;exact this
      have H7:=jd5 hq7 hU1 hU2 hsv hse;clear hm1 hX1 hall hx1 hf1 hS1 hd1 hsb1 hst1 hb6 hF1 hU1 hU2 hq7 hII6 hsv hII7 ho7 hse hk7 HFO g1 g3 hB0
      go_wp2_with fail
      go_loopw [76] (fun s76 wr=>∃ (k:Nat) (x':IX),s76 = .int .i64 k/\k<=x.x.ss.length/\Hid (MvQ w6 wr base mb M1 X1 x.n x.ib (fillsI U1 U2 x.i k) x'/\x'.sv=x.x.sv/\x'.ss.map sxrow=x.x.ss.map sxrow/\∀ j,k<=j->x'.ss[j]? = x.x.ss[j]?)) (fun s76 _=>x.x.ss.length-(intOf s76).toNat)
      case atStart=>exact⟨0,_,rfl,Nat.zero_le _,hid ⟨H7.out.1,rfl,rfl,fun _ _=>rfl⟩⟩
      case round =>
       obtain⟨k,x',rfl,hk,hL⟩:=hrel;obtain⟨wP,hwP⟩:∃ z,z=wr:=⟨_,rfl⟩
       subst hwP;by_cases hlt:k<x.x.ss.length
       ·obtain⟨s,hs⟩:∃ s,x.x.ss[k]? = some s:=⟨_,List.getElem?_eq_getElem hlt⟩
        have ho:=hL.out.1.ii.so;have ho:OwnG wP base 90 3 (.slice sa sn sc) (x.x.ss.map sxrow):=by rw[<-H7.out.2.2.2.1,<-hL.out.2.2.1,<-hL.out.2.1];exact ho
        have hjl:k<(x.x.ss.map sxrow).length:=by rw[List.length_map];exact hlt
        rcases ho.shape with⟨_,he⟩|⟨g,cc,he,hgg,_⟩
        ·rw[he] at hjl;simp at hjl
        simp only[Value.slice.injEq] at he;obtain⟨rfl,hn9,rfl⟩:=he;clear hn9;have hia:=ho.addr (P:=prog) underlying85 size90 k hjl;have hra:=ho.rangeAt k hjl;rw[show(x.x.ss.map sxrow).getD k []=sxrow s by rw[List.getD_eq_getElem?_getD,List.getElem?_map,hs];rfl] at hra;obtain⟨o,hoo⟩:∃ o,o=k*3:=⟨_,rfl⟩
        rw[<-hoo] at hia hra;have c0:wP.cell? ⟨g,o,none⟩=some (str s.s.name):=hra 0 _ rfl;have c1:wP.cell? ⟨g,o+1,none⟩=some (.int .i64 s.s.size):=hra 1 _ rfl;have c2:wP.cell? ⟨g,o+2,none⟩=some (.map (some s.m)):=hra 2 _ rfl;have HS:=hid hs;clear ho hjl hra hoo hs hgg;go_upto_region 20 with(fail)
        obtain⟨wQ,hwQ⟩:∃ z,z=wP.alloc (.cells #[str s.s.name,.int .i64 s.s.size,.map (some s.m)] 90):=⟨_,rfl⟩
        have hbQ:Below wP.heap.size wP wQ:=by rw[hwQ];exact brf.alloc nlr _
        have hqQ:wQ.heap[wP.heap.size]? = some (.cells #[str s.s.name,.int .i64 s.s.size,.map (some s.m)] 90 (0,0)):=by rw[hwQ];exact alloc_new wP _
        have d1:wQ.cell? ⟨wP.heap.size,1,none⟩=some (.int .i64 s.s.size):=by simp[World.cell?,hqQ]
        have d2:wQ.cell? ⟨wP.heap.size,2,none⟩=some (.map (some s.m)):=by simp[World.cell?,hqQ]
        rw[<-hwQ];obtain⟨hm1,hX1,hall,hx1,hf1,hS1,hd1,hsb1,hst1,hb6,hF1⟩:=HQ1.out;have hsi:x.i.shots[k]? = some s.s:=by rw[H7.out.2.2.2.2,List.getElem?_map,HS.out];rfl
        have hQs:=hL.out.1.below hbQ;have hbQ6:base<=wQ.heap.size:=by
         obtain⟨X9,_,_,_,_,_,_,_,st9⟩:=hQs.ex;exact Nat.le_trans hb6 st9.k.size
        have HFS:=hid (filled_shot hQs hf1 hS1 hd1 HK.out.2.2.2.2.2.2.2.2 H7.out.2.1 H7.out.2.2.1 ((hL.out.2.2.2 k nlr).trans HS.out) hsi hsb1 hst1 hbQ6);clear hm1 hX1 hall hx1 hf1 hS1 hd1 hsb1 hst1 hb6 hF1 hwQ hbQ hqQ hsi hQs hbQ6 c0 c1 c2 hia
        go_wp2_with (go_at_call 130;refine HFS.out.mono ?_;rintro e w8 ⟨rfl,x8,hq8,ho8,hs8,hr8,hj8⟩)
        have H8:=jd4 hq8 hs8 hr8 hj8;clear hq8 ho8 hs8 hr8 hj8
        go_roundw
        case rel=>exact⟨k+1,x8,by go_num,by omega,hid ⟨H8.out.1,H8.out.2.1.trans hL.out.2.1,H8.out.2.2.1.trans hL.out.2.2.1,fun j hj=>(H8.out.2.2.2 j (by omega)).trans (hL.out.2.2.2 j (by omega))⟩⟩
        case measure=>simp only[intOf];omega
       ·have e:k=x.x.ss.length:=by omega
        subst e;have hQ:=hL.out.1;have hzf:∀ j,wP.frozen? ⟨x.ib,j,none⟩=false:=hQ.ii.cells.2.2.2.2.2.2;have hc2:wP.cell? ⟨x.ib,2,none⟩=some (str x.i.back):=hQ.ii.cells.2.2.1;obtain⟨wR,hwR⟩:∃ z,z=wP.setCell ⟨x.ib,2,none⟩ (str tg):=⟨_,rfl⟩
        obtain⟨hm1,hX1,hall,hx1,hf1,hS1,hd1,hsb1,hst1,hb6,hF1⟩:=HQ1.out;have hII2:II wR base x.ib {fillsI U1 U2 x.i x.x.ss.length with back:=tg} x':=by rw[hwR];exact hQ.ii.set2 hQ.nd tg
        have hok2:IOk {fillsI U1 U2 x.i x.x.ss.length with back:=tg}:=⟨hQ.ok.cl,hQ.ok.size,hQ.ok.whole,hQ.ok.own,hQ.ok.shots,hQ.ok.ns,HK.out.2.2.2.2.2.2.2.2⟩
        have hQ2:=hQ.step (by rw[hf1];rfl) hII2 rfl (by rw[hwR];exact(Kept.set _ _ _ _ (N:=(·≠x.ib)) (by simp)).imp fun b hb e=>hb (by rw[e];simp[IX.fp])) hok2;have emv:movI M1.all x.i tg={fillsI U1 U2 x.i x.x.ss.length with back:=tg}:=by
         unfold movI;rw[<-H7.out.2.1,<-H7.out.2.2.1,show x.i.shots.length=x.x.ss.length by rw[H7.out.2.2.2.2,List.length_map]]
        rw[<-emv] at hQ2;obtain⟨X9,h9,hx9,e9d,e9c,e9f,e9k,_,st9⟩:=hQ2.ex;have hb9:base<=wR.heap.size:=Nat.le_trans hb6 st9.k.size;have HFL:=hid (flush_any h9 hb9 hx9 (by rw[e9k];have:=hX1.2.1;omega) (by rw[e9f,hX1.2.2.1];have:=HK.out.2.2.1;have:=hX1.2.2.2.2.2.2;omega));have hst9:Stp w1 wR (X.fp mb) (X9.fp mb):=hX1.2.2.2.2.2.1.trans st9;have H9:=jd6 hst9 hX1 hF1 e9d e9c e9f;have HWR:=hid hwR;clear hm1 hX1 hall hx1 hf1 hS1 hd1 hsb1 hst1 hb6 hF1 hII2 hok2 hQ2 emv h9 hx9 e9d e9c e9f e9k st9 hb9 hst9 hwR hQ c7;go_upto_region 23 with(fail)
        rw[<-HWR.out];go_upto_region 24 with(go_at_call 77;refine HFL.out.mono ?_;rintro e w10 ⟨rfl,X10,h10,ea,exs,eks,efr,edm,ecl,est⟩)
        obtain⟨hst9,hX1,hF1,e9d,e9c,e9f⟩:=H9.out;have hst10:Stp w1 w10 (X.fp mb) (X10.fp mb):=hst9.trans est;have hz10:w10.heap[w.heap.size]? = some (.cells zrep 34 (0,0)):=(hst10.k.block _ (by rw[HS1.out];omega) fun hm=>by have:=HM.out.lt _ hm;omega).trans (H1.out.2.2 _ brf);obtain⟨x0,x1,x2,x3,x4,x5,xz⟩:=zcells hz10;obtain⟨W,hW,⟨y0,y1,y2,y3,y4,y5⟩,r2,r3⟩:=mv_ok h10 ((Stp.of_below H1.out.1 _).trans hst10) hz10;have HWW:=hid hW;have HR:=jd5 r2 r3 (edm.trans (e9d.trans hX1.2.2.2.1)) (Nat.le_trans ecl (by rw[e9c];exact hX1.2.2.2.2.1)) (show X10.fr.length=X.fr.length+(k1+1) by rw[efr,e9f,hX1.2.2.1];omega);have HFF:=hid hF1;clear hW r2 r3 hst9 hX1 hF1 e9d e9c e9f hst10 hz10 h10 ea exs eks efr edm ecl est
        go_wp2_with fail
        change bodyPost _ _ _ _ _ (st6 w10 w.heap.size (.int .i64 0) nilS nilS nilS (.int .i64 0) (.int .i64 0));rw[<-HWW.out,HFF.out];clear x0 x1 x2 x3 x4 x5 xz;exact bodyPost_ret (v:=failV 0) (by simp[results,results96,go_sem,y0,y1,y2,y3,y4,y5]) rfl ⟨X10,rfl,HR.out.1,HR.out.2.2.1,HR.out.2.2.2.1,HR.out.2.2.2.2,HR.out.2.1⟩
  ·have et:(tg==[])=false:=by simpa using ht
   have HT:=jd2 ht hft;clear h hM hbase hfr hx hb1 hs1 hz1 hq1 h1 hfx hok hxl hkl hnl hne hn0 htl hF0 hft ht hw1;go_enter func96,ntmps96
   go_upto_region 1 with(fail)
   rw[<-HW.out];go_upto_region 2 with(fail)
   have hbZ:=(Below.refl w1.heap.size w1)
   go_wp2_with (go_at_call 21;refine(failed_any 4 _).mono ?_;rintro e w9 ⟨rfl,hb9⟩;obtain⟨x0,x1,x2,x3,x4,x5,xz⟩:=zcells (H1.out.2.2 _ (hbZ.trans (hb9.mono hbZ.size))))
   obtain⟨W,hW,⟨y0,y1,y2,y3,y4,y5⟩,r2,r3⟩:=mv_fail HM.out (H1.out.1.trans ((hbZ.trans (hb9.mono hbZ.size)).mono H1.out.1.size)) (H1.out.2.2 _ (hbZ.trans (hb9.mono hbZ.size))) 4;have hF:F=(M,4,0):=by
    rw[HF.out];unfold movedM;rw[HX.out.2.1];simp only;rw[if_pos HT.out]
   rw[hF];clear x0 x1 x2 x3 x4 x5 xz hF;change bodyPost _ _ _ _ _ (st6 w9 w.heap.size (.int .i64 4) nilS nilS nilS (.int .i64 0) (.int .i64 0));rw[<-hW];exact bodyPost_ret (v:=failV 4) (by simp[results,results96,go_sem,y0,y1,y2,y3,y4,y5]) rfl ⟨X,rfl,r2,rfl,nlr,rfl,r3⟩
 ·by_cases ht:tg=[]
  ·exact absurd (ht▸hft) (by rw[hn0];simp)
  ·have et:(tg==[])=false:=by simpa using ht
   have HT:=jd2 ht hft;have HY:=jd2 hy hyn;clear h hM hbase hfr hx hb1 hs1 hz1 hq1 h1 hfx hok hxl hkl hnl hne hn0 htl hF0 hft ht hw1 hy hyn;go_enter func96,ntmps96
   go_upto_region 1 with(fail)
   rw[<-HW.out];go_upto_region 3 with(fail)
   clear hlt c0;go_upto_region 4 with(go_at_call 74;refine HBK.out.mono ?_;rintro e w2 ⟨rfl,l,hg2,hp2,hb2⟩)
   have hll:l.length<maxLen:=by have:=hp2.length_eq;rw[List.length_map] at this;rw[this];have:=HK.out.2.2.2.1;unfold maxLen;omega
   obtain⟨w3,hrun,hg3,hgr3,hs3,hf3⟩:=hg2.upd K9 (t:=127) underlying127 x.n (Nat.le_trans HK.out.2.2.2.2.2.1 (by unfold maxLen;omega)) (str tg) rfl hll;have hb3:Below w1.heap.size w1 w3:=hb2.grown hgr3 hb2.size fun k hk=>by cases hk;exact nlr
   have hB3:∀ t,Mx.look (Mx.upd l x.n (str tg)) t=(movB M x.n tg t).map fun b=>str b:=fun t=>lookM H1.out.2.1.a hp2 x.n tg t;have hbl:∀ t b,movB M x.n tg t=some b->b.length<=1000:=fun t b hb=>by
    unfold movB at hb;split at hb
    ·cases hb;have:=HK.out.2.2.2.2.2.2.2.2;omega
    ·cases hf:fnd M.all t with
     | none=>rw[hf] at hb;cases hb
     | some i=>rw[hf] at hb;cases hb;exact Nat.le_trans (H1.out.2.1.a.oks t i hf).nb (by omega)
   have hrun':(Instr.mapUpdate 127 (.map (some w1.heap.size)) (str x.n) (str tg)).run prog w2 = .ok () w3:=hrun;have HST:=hid (fun(w':World) (hB:w'.heap[w1.heap.size]? = w3.heap[w1.heap.size]?) (t:Bs) (ht:t.length<=1000)=>stands_any (movB M x.n tg) (hg3.block hB) hB3 hbl t ht);have hnames:∀ t,(Mx.look (Mx.upd l x.n (str tg)) t).isSome=true↔(fnd M.all t).isSome=true:=fun t=>by
    rw[hB3];unfold movB;by_cases e:t=x.n
    ·rw[if_pos e,e,HX.out.2.1];simp
    ·rw[if_neg e];cases fnd M.all t<;>simp
   have H3:=jd3 hg3 hb3 hnames;have HD:=hid (stands_any (movB M x.n tg) hg3 hB3 hbl x.n (by have:=HK.out.2.2.2.2.2.1;omega));obtain⟨sd,hsd⟩:∃ sd,sd=standsM (movB M x.n tg) x.n:=⟨_,rfl⟩
   rw[<-hsd] at HD;have HSD:=hid hsd;clear hg2 hp2 hll hg3 hgr3 hs3 hf3 hB3 hbl hrun hnames hsd;go_upto_region 6 with(go_at_call 75;refine HD.out.mono ?_;rintro e w4 ⟨rfl,hb4⟩)
   have hb14:Below w1.heap.size w1 w4:=hb3.trans (hb4.mono hb3.size);have H4:=jd2 hb14 hb4;clear hb3 hb4 hb2 hb14;by_cases hsd:sd=0
   case neg =>
    have esd:(sd==0)=false:=by simpa using hsd
    have hbZ:=H4.out.1
    go_wp2_with (go_at_call 21;refine(failed_any sd _).mono ?_;rintro e w9 ⟨rfl,hb9⟩;obtain⟨x0,x1,x2,x3,x4,x5,xz⟩:=zcells (H1.out.2.2 _ (hbZ.trans (hb9.mono hbZ.size))))
    obtain⟨W,hW,⟨y0,y1,y2,y3,y4,y5⟩,r2,r3⟩:=mv_fail HM.out (H1.out.1.trans ((hbZ.trans (hb9.mono hbZ.size)).mono H1.out.1.size)) (H1.out.2.2 _ (hbZ.trans (hb9.mono hbZ.size))) sd;have hF:F=(M,sd,0):=by
     rw[HF.out];unfold movedM;rw[HX.out.2.1];simp only;rw[if_neg (fun h=>by rw[HT.out.2] at h;cases h.2),if_pos (by rw[<-HSD.out];exact hsd),<-HSD.out]
    rw[hF];clear x0 x1 x2 x3 x4 x5 xz hF;change bodyPost _ _ _ _ _ (st6 w9 w.heap.size (.int .i64 sd) nilS nilS nilS (.int .i64 0) (.int .i64 0));rw[<-hW];exact bodyPost_ret (v:=failV sd) (by simp[results,results96,go_sem,y0,y1,y2,y3,y4,y5]) rfl ⟨X,rfl,r2,rfl,nlr,rfl,r3⟩
   case pos =>
    subst hsd;go_upto_region 8 with(fail)
    have hg4:GM ES prog 9 w4 w1.heap.size (Mx.upd l x.n (str tg)):=H3.out.1.block (H4.out.2.block _ H3.out.1.lt);have hs4:w1.heap.size<w4.heap.size:=hg4.lt
    go_wp2_with (first
     | (at_range;refine range_gm _ rfl _ rfl K9 underlying127 rfl hg4 ?_;intro w5 hrg5 hg5 hs5)
     | go_in)
    go_frame
    go_loopw [9] (fun _ wr=>∃ (left:Bs->Bool) (cnt:Nat),RG ES prog 9 wr w1.heap.size w4.heap.size (Mx.upd l x.n (str tg)) left cnt/\Hid (Below w1.heap.size w1 wr/\wr.heap[w1.heap.size]? = w3.heap[w1.heap.size]?/\w4.heap.size<wr.heap.size/\∀ t,(fnd M.all t).isSome=true->left t=false->standsM (movB M x.n tg) t≠10)) (fun _ wr=>wr.rangeLeft w1.heap.size w4.heap.size)
    case atStart =>
     have hb5:Below w4.heap.size w4 w5:=brf.grown hg5 nlr (by simp);refine⟨_,_,hrg5,hid ⟨H4.out.1.trans (hb5.mono H4.out.1.size),(hb5.block _ hs4).trans (H4.out.2.block _ H3.out.1.lt),by omega,fun t ht h2=>?_⟩⟩;rw[(H3.out.2.2 t).2 ht] at h2;cases h2
    case round =>
     obtain⟨left,cnt,hrg,hR⟩:=hrel;obtain⟨wO,hwO⟩:∃ z,z=wr:=⟨_,rfl⟩
     subst hwO;clear hrg5 hg5 hs5 hg4
     go_wp2_with (first
      | (at_next;refine next_gm _ rfl _ rfl K9 w4.heap.size _ _ rfl hrg ?_ ?_)
      | go_in)
     rotate_left
     ·intro s b w6 cnt1 hlk hls hrg1 hlt1 hg1 hs6 hen;have hen':(Instr.entry (.pointer (some ⟨w4.heap.size,0,none⟩))).run prog w6 = .ok (.tuple #[str s,b]) w6:=hen;have hss:(fnd M.all s).isSome=true:=(H3.out.2.2 s).1 (by rw[hlk];rfl);have hb6:Below w4.heap.size wO w6:=(Below.refl w4.heap.size wO).grown hg1 (Nat.le_of_lt hR.out.2.2.1) (fun k hk=>by cases hk;exact nlr);have hb16:Below w1.heap.size w1 w6:=hR.out.1.trans (hb6.mono (Nat.le_of_lt hs4));have hq6:w6.heap[w1.heap.size]? = w3.heap[w1.heap.size]? := (hb6.block _ hs4).trans hR.out.2.1;have hsl:s.length<=1000:=by
       obtain⟨z,hz,e⟩:=List.mem_map.1 ((H1.out.2.1.a.names_S s).1 hss);rw[<-e];have:=H1.out.2.1.a.nl z hz;omega
      have HSS:=hid (HST.out w6 hq6 s hsl);obtain⟨dd,hdd⟩:∃ dd,dd=standsM (movB M x.n tg) s:=⟨_,rfl⟩
      rw[<-hdd] at HSS;have H6:=jd8 hb16 hq6 hss hdd hrg1 hrg hlt1 (by rw[hs6];exact hR.out.2.2.1:w4.heap.size<w6.heap.size);clear hb6 hb16 hq6 hsl hss hdd hrg1 hrg hlt1 hlk hls hg1 hen;by_cases hd10:dd=10
      ·subst hd10;go_upto_region 12 with(go_at_call 75;refine HSS.out.mono ?_;rintro e w7 ⟨rfl,hb7⟩)
       have hbZ:=H6.out.1.trans (hb7.mono H6.out.1.size)
       go_wp2_with (go_at_call 21;refine(failed_any 10 _).mono ?_;rintro e w9 ⟨rfl,hb9⟩;obtain⟨x0,x1,x2,x3,x4,x5,xz⟩:=zcells (H1.out.2.2 _ (hbZ.trans (hb9.mono hbZ.size))))
       obtain⟨W,hW,⟨y0,y1,y2,y3,y4,y5⟩,r2,r3⟩:=mv_fail HM.out (H1.out.1.trans ((hbZ.trans (hb9.mono hbZ.size)).mono H1.out.1.size)) (H1.out.2.2 _ (hbZ.trans (hb9.mono hbZ.size))) 10;have hF:F=(M,10,0):=by
        rw[HF.out];unfold movedM;rw[HX.out.2.1];simp only;rw[if_neg (fun h=>by rw[HT.out.2] at h;cases h.2),if_neg (fun h=>h HSD.out.symm),if_pos (List.any_eq_true.2 (by obtain⟨i,hi⟩:=Option.isSome_iff_exists.1 H6.out.2.2.1;exact⟨_,fnd_mem hi,by simpa using H6.out.2.2.2.1.symm⟩))]
       rw[hF];clear x0 x1 x2 x3 x4 x5 xz hF;change bodyPost _ _ _ _ _ (st6 w9 w.heap.size (.int .i64 10) nilS nilS nilS (.int .i64 0) (.int .i64 0));rw[<-hW];exact bodyPost_ret (v:=failV 10) (by simp[results,results96,go_sem,y0,y1,y2,y3,y4,y5]) rfl ⟨X,rfl,r2,rfl,nlr,rfl,r3⟩
      ·have ed10:(dd==10)=false:=by simpa using hd10
       have HD10:=hid hd10;clear hd10
       go_wp2_with (go_at_call 75;refine HSS.out.mono ?_;rintro e w7 ⟨rfl,hb7⟩)
       obtain⟨hb16,hq6,hss,hdd,hrg1,hrg,hlt1,hs6'⟩:=H6.out;have hrg7:=hrg1.blocks (hb7.block _ hrg1.gm.lt) (hb7.block _ hrg1.lt)
       go_roundw
       case rel =>
        refine⟨_,cnt1,hrg7,hid ⟨hb16.trans (hb7.mono hb16.size),(hb7.block _ (Nat.lt_of_lt_of_le hs4 (Nat.le_of_lt hs6'))).trans hq6,Nat.lt_of_lt_of_le hs6' hb7.size,fun t ht h2=>?_⟩⟩;by_cases e:t=s
        ·rw[e,<-hdd];exact HD10.out
        ·exact hR.out.2.2.2 t ht (by simpa[e] using h2)
       case measure=>rw[hrg7.left_eq,hrg.left_eq];exact hlt1
     ·intro hl0;clear hrg;have HR0:=jd2 hR.out.1 (fun t ht=>hR.out.2.2.2 t ht (by rw[hl0]));clear hR;have hst0:=HSD.out.symm;have hany:(M.all.any fun p=>decide (standsM (movB M x.n tg) p.1=10))=false:=by
       rw[List.any_eq_false];intro p hp he;exact HR0.out.2 p.1 (by rw[fnd_of H1.out.2.1.a.nd (show(p.1,p.2)∈M.all from hp)];rfl) (by simpa using he)
      have hmO:=H1.out.2.1.below HR0.out.1;have hbO:base<=wO.heap.size:=Nat.le_trans (Nat.le_trans HK.out.2.1 H1.out.1.size) HR0.out.1.size;have HFW:=hid (flushed_any hmO hbO HY.out.1 (by have:=HK.out.2.2.2.2.1;omega) (by have:=HK.out.2.2.1;omega));rw[HY.out.2] at HFW;clear hmO hbO;go_upto_region 15 with(go_at_call 76;refine HFW.out.mono ?_;rintro e w6 ⟨rfl,X1,hm1,ea,exs,eks,efr,edm,ecl,est⟩)
      obtain⟨M1,hM1⟩:∃ M1,M1=flushedM M tg:=⟨_,rfl⟩
      obtain⟨k1,hk1⟩:∃ k1,k1=flushedN M tg:=⟨_,rfl⟩
      have hM1e:M1.all=M.all:=by rw[hM1];exact flushed_all M tg
      rw[<-hM1] at hm1;rw[<-hk1] at efr;have hX1:X1.xs=X.xs/\X1.ks.length<=17/\X1.fr.length=X.fr.length+k1/\X1.dm=X.dm/\X1.cl.length<=X.cl.length/\Stp w1 w6 (X.fp mb) (X1.fp mb)/\k1<=1:=⟨exs,by have:=HK.out.2.2.2.2.1;omega,efr,edm,ecl,(Stp.of_below HR0.out.1 _).trans est,by rw[hk1];first|exact Nat.zero_le _|(unfold flushedN;split<;>omega)⟩
      have hF1:F=(flushM {M1 with all:=setI M1.all x.n (movI M1.all x.i tg)} x.n,0,k1+1):=by
       rw[HF.out,hM1e,hM1,hk1];unfold movedM;rw[HX.out.2.1];simp only;rw[if_neg (fun h=>by rw[HT.out.2] at h;cases h.2),if_neg (fun h=>h HSD.out.symm),if_neg (by rw[hany];simp),if_neg HT.out.1,if_neg HT.out.1,flushed_all]
      clear exs eks efr edm ecl est ea hM1 hk1;have hall:M1.all=M.all:=hM1e;have hx1:x∈X1.xs:=by rw[hX1.1];exact HX.out.1
      have hf1:fnd M1.all x.n=some x.i:=by rw[hall];exact HX.out.2.1
      have hd1:∀ t,dep M1.all 8 t:=fun t=>by rw[hall];exact HK.out.1.dp t
      have hS1:∀ n i,fnd M1.all n=some i->∃ nc,OwnOk i.cl nc i.own:=fun n i hf=>⟨_,(hm1.a.oks n i hf).own⟩
      have hsb1:∀ S',(∀ m,m≠x.n->fnd S' m=fnd M1.all m)->∀ s,secOf S' 8 x.i.back s=secOf M1.all 8 x.i.back s:=fun S' hS=>secOf_back hS hf1 (hd1 _);have hst1:∀ S',(∀ m,m≠x.n->fnd S' m=fnd M1.all m)->∀ s,secOf S' 8 tg s=secOf M1.all 8 tg s:=fun S' hS=>secOf_off hS HK.out.2.2.2.2.2.2.1 (by rw[hall];exact HK.out.2.2.2.2.2.2.2.1) (B:=movB M x.n tg) (fun m hm=>by rw[hall];unfold movB;rw[if_neg hm]) 8 [x.n] tg (stn_mov hst0 HK.out.2.2.2.2.2.2.1) (List.mem_singleton.2 rfl) 8;have hb6:base<=w6.heap.size:=Nat.le_trans (Nat.le_trans HK.out.2.1 H1.out.1.size) hX1.2.2.2.2.2.1.k.size;have c06:=hm1.cells.1;have lk6:=hm1.a.atx hx1;have g1:∀ w',Below w6.heap.size w6 w'->w'.cell? ⟨x.ib,1,none⟩=some (.int .i64 x.i.size):=fun w' hB=>((hm1.below hB).a.i x hx1).cells.2.1;have g3:∀ w',Below w6.heap.size w6 w'->w'.cell? ⟨x.ib,3,none⟩=some (.map (some x.x.om)):=fun w' hB=>((hm1.below hB).a.i x hx1).cells.2.2.2.1
      have HFO:=hid (fun w' (hB:Below w6.heap.size w6 w')=>filled_own ((MvQ.start hm1 hx1).below hB) hf1 hS1 hd1 HK.out.2.2.2.2.2.2.2.2 hsb1 hst1 (Nat.le_trans hb6 hB.size));have HQ1:=jd9 hm1 hX1 hall hx1 hf1 hS1 hd1 hsb1 (And.intro hst1 (And.intro hb6 hF1));have hB0:Below w6.heap.size w6 w6.drew:=brf.drew;clear hst0 hany hm1 hX1 hall hx1 hf1 hd1 hS1 hsb1 hst1 hb6 hF1 hM1e;go_upto_region 16 with(fail)
      clear c06 lk6;refine wp_region_K 11 (fun w'=>Below w6.heap.size w6 w') (by kernel_rfl) ?_;refine qk 0 ?_;try simp only[nk]
      refine qk 1 ?_;try simp only[nk]
      refine qk 2 ?_;try simp only[nk]
      refine qk 3 ?_;try simp only[nk]
      refine qk 4 ?_;try simp only[nk]
      refine rq 5 ?_;try simp only[nk]
      refine qk 6 ?_;try simp only[nk]
      refine qk 7 ?_;try simp only[nk]
      refine qk 8 ?_;try simp only[nk]
      refine rq 9 ?_;try simp only[nk]
      refine qk 10 ?_;try simp only[nk]
      refine wpAnyK_ready (rs:=[11]) (by kernel_rfl) (by simp) (AllReadyK.cons rfl (fun K hK=>?_) AllReadyK.nil);go_simp
      go_wp2_with (go_at_call 130;refine(HFO.out _ (by assumption)).mono ?_;rintro e w7 ⟨rfl,l7,hq7,hk7⟩)
      refine hK.out _ _ (fun h=>by cases h) ?_;clear hK K
      try simp only[nk]
      refine wpAnyK_done (by kernel_rfl) ?_ _;obtain⟨hm1,hX1,hall,hx1,hf1,hS1,hd1,hsb1,hst1,hb6,hF1⟩:=HQ1.out;obtain⟨U1,hU1⟩:∃ U,U=fun a c=>secs (secOf M1.all 8 x.i.back) a c:=⟨_,rfl⟩
      obtain⟨U2,hU2⟩:∃ U,U=fun a c=>secs (secOf M1.all 8 tg) a c:=⟨_,rfl⟩
      rw[<-hU1,<-hU2,<-fillsI_zero] at hq7;have hII6:=hm1.a.i x hx1;obtain⟨sa,sn,sc,hsv⟩:=ownG_sh hII6.so;have hII7:=hq7.ii;have c7:w7.cell? ⟨x.ib,4,none⟩=some (.slice sa sn sc):=by rw[hII7.cells.2.2.2.2.1];show some x.x.sv=_;rw[hsv]
      have ho7:=hII7.so;have ho7:OwnG w7 base 90 3 (.slice sa sn sc) (x.x.ss.map sxrow):=by rw[<-hsv];exact ho7
      have hlen7:=SlG.len (P:=prog) (ty:=3) ho7.slG underlying85;rw[List.length_map] at hlen7;have hse:x.i.shots=x.x.ss.map (·.s):=hII6.se;have hn8:x.x.ss.length<=8:=by have:=HX.out.2.2.ns;rw[hse,List.length_map] at this;exact this
      have H7:=jd5 hq7 hU1 hU2 hsv hse;clear hm1 hX1 hall hx1 hf1 hS1 hd1 hsb1 hst1 hb6 hF1 hU1 hU2 hq7 hII6 hsv hII7 ho7 hse hk7 HFO g1 g3 hB0
      go_wp2_with fail
      go_loopw [76] (fun s76 wr=>∃ (k:Nat) (x':IX),s76 = .int .i64 k/\k<=x.x.ss.length/\Hid (MvQ w6 wr base mb M1 X1 x.n x.ib (fillsI U1 U2 x.i k) x'/\x'.sv=x.x.sv/\x'.ss.map sxrow=x.x.ss.map sxrow/\∀ j,k<=j->x'.ss[j]? = x.x.ss[j]?)) (fun s76 _=>x.x.ss.length-(intOf s76).toNat)
      case atStart=>exact⟨0,_,rfl,Nat.zero_le _,hid ⟨H7.out.1,rfl,rfl,fun _ _=>rfl⟩⟩
      case round =>
       obtain⟨k,x',rfl,hk,hL⟩:=hrel;obtain⟨wP,hwP⟩:∃ z,z=wr:=⟨_,rfl⟩
       subst hwP;by_cases hlt:k<x.x.ss.length
       ·obtain⟨s,hs⟩:∃ s,x.x.ss[k]? = some s:=⟨_,List.getElem?_eq_getElem hlt⟩
        have ho:=hL.out.1.ii.so;have ho:OwnG wP base 90 3 (.slice sa sn sc) (x.x.ss.map sxrow):=by rw[<-H7.out.2.2.2.1,<-hL.out.2.2.1,<-hL.out.2.1];exact ho
        have hjl:k<(x.x.ss.map sxrow).length:=by rw[List.length_map];exact hlt
        rcases ho.shape with⟨_,he⟩|⟨g,cc,he,hgg,_⟩
        ·rw[he] at hjl;simp at hjl
        simp only[Value.slice.injEq] at he;obtain⟨rfl,hn9,rfl⟩:=he;clear hn9;have hia:=ho.addr (P:=prog) underlying85 size90 k hjl;have hra:=ho.rangeAt k hjl;rw[show(x.x.ss.map sxrow).getD k []=sxrow s by rw[List.getD_eq_getElem?_getD,List.getElem?_map,hs];rfl] at hra;obtain⟨o,hoo⟩:∃ o,o=k*3:=⟨_,rfl⟩
        rw[<-hoo] at hia hra;have c0:wP.cell? ⟨g,o,none⟩=some (str s.s.name):=hra 0 _ rfl;have c1:wP.cell? ⟨g,o+1,none⟩=some (.int .i64 s.s.size):=hra 1 _ rfl;have c2:wP.cell? ⟨g,o+2,none⟩=some (.map (some s.m)):=hra 2 _ rfl;have HS:=hid hs;clear ho hjl hra hoo hs hgg;go_upto_region 20 with(fail)
        obtain⟨wQ,hwQ⟩:∃ z,z=wP.alloc (.cells #[str s.s.name,.int .i64 s.s.size,.map (some s.m)] 90):=⟨_,rfl⟩
        have hbQ:Below wP.heap.size wP wQ:=by rw[hwQ];exact brf.alloc nlr _
        have hqQ:wQ.heap[wP.heap.size]? = some (.cells #[str s.s.name,.int .i64 s.s.size,.map (some s.m)] 90 (0,0)):=by rw[hwQ];exact alloc_new wP _
        have d1:wQ.cell? ⟨wP.heap.size,1,none⟩=some (.int .i64 s.s.size):=by simp[World.cell?,hqQ]
        have d2:wQ.cell? ⟨wP.heap.size,2,none⟩=some (.map (some s.m)):=by simp[World.cell?,hqQ]
        rw[<-hwQ];obtain⟨hm1,hX1,hall,hx1,hf1,hS1,hd1,hsb1,hst1,hb6,hF1⟩:=HQ1.out;have hsi:x.i.shots[k]? = some s.s:=by rw[H7.out.2.2.2.2,List.getElem?_map,HS.out];rfl
        have hQs:=hL.out.1.below hbQ;have hbQ6:base<=wQ.heap.size:=by
         obtain⟨X9,_,_,_,_,_,_,_,st9⟩:=hQs.ex;exact Nat.le_trans hb6 st9.k.size
        have HFS:=hid (filled_shot hQs hf1 hS1 hd1 HK.out.2.2.2.2.2.2.2.2 H7.out.2.1 H7.out.2.2.1 ((hL.out.2.2.2 k nlr).trans HS.out) hsi hsb1 hst1 hbQ6);clear hm1 hX1 hall hx1 hf1 hS1 hd1 hsb1 hst1 hb6 hF1 hwQ hbQ hqQ hsi hQs hbQ6 c0 c1 c2 hia
        go_wp2_with (go_at_call 130;refine HFS.out.mono ?_;rintro e w8 ⟨rfl,x8,hq8,ho8,hs8,hr8,hj8⟩)
        have H8:=jd4 hq8 hs8 hr8 hj8;clear hq8 ho8 hs8 hr8 hj8
        go_roundw
        case rel=>exact⟨k+1,x8,by go_num,by omega,hid ⟨H8.out.1,H8.out.2.1.trans hL.out.2.1,H8.out.2.2.1.trans hL.out.2.2.1,fun j hj=>(H8.out.2.2.2 j (by omega)).trans (hL.out.2.2.2 j (by omega))⟩⟩
        case measure=>simp only[intOf];omega
       ·have e:k=x.x.ss.length:=by omega
        subst e;have hQ:=hL.out.1;have hzf:∀ j,wP.frozen? ⟨x.ib,j,none⟩=false:=hQ.ii.cells.2.2.2.2.2.2;have hc2:wP.cell? ⟨x.ib,2,none⟩=some (str x.i.back):=hQ.ii.cells.2.2.1;obtain⟨wR,hwR⟩:∃ z,z=wP.setCell ⟨x.ib,2,none⟩ (str tg):=⟨_,rfl⟩
        obtain⟨hm1,hX1,hall,hx1,hf1,hS1,hd1,hsb1,hst1,hb6,hF1⟩:=HQ1.out;have hII2:II wR base x.ib {fillsI U1 U2 x.i x.x.ss.length with back:=tg} x':=by rw[hwR];exact hQ.ii.set2 hQ.nd tg
        have hok2:IOk {fillsI U1 U2 x.i x.x.ss.length with back:=tg}:=⟨hQ.ok.cl,hQ.ok.size,hQ.ok.whole,hQ.ok.own,hQ.ok.shots,hQ.ok.ns,HK.out.2.2.2.2.2.2.2.2⟩
        have hQ2:=hQ.step (by rw[hf1];rfl) hII2 rfl (by rw[hwR];exact(Kept.set _ _ _ _ (N:=(·≠x.ib)) (by simp)).imp fun b hb e=>hb (by rw[e];simp[IX.fp])) hok2;have emv:movI M1.all x.i tg={fillsI U1 U2 x.i x.x.ss.length with back:=tg}:=by
         unfold movI;rw[<-H7.out.2.1,<-H7.out.2.2.1,show x.i.shots.length=x.x.ss.length by rw[H7.out.2.2.2.2,List.length_map]]
        rw[<-emv] at hQ2;obtain⟨X9,h9,hx9,e9d,e9c,e9f,e9k,_,st9⟩:=hQ2.ex;have hb9:base<=wR.heap.size:=Nat.le_trans hb6 st9.k.size;have HFL:=hid (flush_any h9 hb9 hx9 (by rw[e9k];have:=hX1.2.1;omega) (by rw[e9f,hX1.2.2.1];have:=HK.out.2.2.1;have:=hX1.2.2.2.2.2.2;omega));have hst9:Stp w1 wR (X.fp mb) (X9.fp mb):=hX1.2.2.2.2.2.1.trans st9;have H9:=jd6 hst9 hX1 hF1 e9d e9c e9f;have HWR:=hid hwR;clear hm1 hX1 hall hx1 hf1 hS1 hd1 hsb1 hst1 hb6 hF1 hII2 hok2 hQ2 emv h9 hx9 e9d e9c e9f e9k st9 hb9 hst9 hwR hQ c7;go_upto_region 23 with(fail)
        rw[<-HWR.out];go_upto_region 24 with(go_at_call 77;refine HFL.out.mono ?_;rintro e w10 ⟨rfl,X10,h10,ea,exs,eks,efr,edm,ecl,est⟩)
        obtain⟨hst9,hX1,hF1,e9d,e9c,e9f⟩:=H9.out;have hst10:Stp w1 w10 (X.fp mb) (X10.fp mb):=hst9.trans est;have hz10:w10.heap[w.heap.size]? = some (.cells zrep 34 (0,0)):=(hst10.k.block _ (by rw[HS1.out];omega) fun hm=>by have:=HM.out.lt _ hm;omega).trans (H1.out.2.2 _ brf);obtain⟨x0,x1,x2,x3,x4,x5,xz⟩:=zcells hz10;obtain⟨W,hW,⟨y0,y1,y2,y3,y4,y5⟩,r2,r3⟩:=mv_ok h10 ((Stp.of_below H1.out.1 _).trans hst10) hz10;have HWW:=hid hW;have HR:=jd5 r2 r3 (edm.trans (e9d.trans hX1.2.2.2.1)) (Nat.le_trans ecl (by rw[e9c];exact hX1.2.2.2.2.1)) (show X10.fr.length=X.fr.length+(k1+1) by rw[efr,e9f,hX1.2.2.1];omega);have HFF:=hid hF1;clear hW r2 r3 hst9 hX1 hF1 e9d e9c e9f hst10 hz10 h10 ea exs eks efr edm ecl est
        go_wp2_with fail
        change bodyPost _ _ _ _ _ (st6 w10 w.heap.size (.int .i64 0) nilS nilS nilS (.int .i64 0) (.int .i64 0));rw[<-HWW.out,HFF.out];clear x0 x1 x2 x3 x4 x5 xz;exact bodyPost_ret (v:=failV 0) (by simp[results,results96,go_sem,y0,y1,y2,y3,y4,y5]) rfl ⟨X10,rfl,HR.out.1,HR.out.2.2.1,HR.out.2.2.2.1,HR.out.2.2.2.2,HR.out.2.1⟩
end Go.Proofs.YtgkabcaodnofnaaGreat
