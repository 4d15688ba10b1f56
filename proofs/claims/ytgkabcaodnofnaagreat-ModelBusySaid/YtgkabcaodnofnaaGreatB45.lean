import Derived.Test.YtgkabcaodnofnaaGreatB43
import Derived.Test.YtgkabcaodnofnaaGreatB02
import Derived.Test.YtgkabcaodnofnaaGreatB11
import Derived.Test.YtgkabcaodnofnaaGreatB44
import Derived.Test.YtgkabcaodnofnaaGreatB40
set_option linter.unusedSimpArgs false
set_option linter.unusedVariables false
set_option maxRecDepth 100000
set_option maxHeartbeats 4000000
open Go.Proofs.Tryz
namespace Go.Proofs.YtgkabcaodnofnaaGreat
open Go.RowKit Go.Mx Go.Md
theorem VR.below {w w':World}{v:Value}{vs:List VW}(h:VR w v vs)(hb:Below w.heap.size w w'):VR w' v vs:=by
 obtain⟨gs,h1,h2,h3⟩:=h;exact⟨gs,h1,(h2.below hb nlr).mono hb.size,fun g hg=>(h3 g hg).below hb⟩
theorem size45 (w:World):(sizeOf 45).run prog w = .ok 6 w:=by kernel_rfl
theorem size92 (w:World):(sizeOf 92).run prog w = .ok 2 w:=by kernel_rfl
theorem two_new (w:World)(a b:Obj):Below w.heap.size w ((w.alloc a).alloc b).drew/\((w.alloc a).alloc b).drew.heap[w.heap.size]? = some a/\((w.alloc a).alloc b).drew.heap[w.heap.size+1]? = some b:=by
 have h1:=alloc_new w a;have h2:=alloc_new (w.alloc a) b;have hb:Below (w.alloc a).heap.size (w.alloc a) ((w.alloc a).alloc b):=brf.alloc nlr _;refine⟨((brf.alloc nlr _).alloc (by simp) _).drew,?_,?_⟩
 ·exact(hb.block _ (by simp)).trans h1
 ·rw[show w.heap.size+1=(w.alloc a).heap.size by simp];exact h2
theorem same_any {w:World}{va vb:Value}{vs:List VW}(ha:VR w va vs)(hb:VR w vb vs) :
  Calls prog 17 #[va,vb] w fun e w'=>e = .returned (.bool true)/\Below w.heap.size w w':=by
 obtain⟨g1,e1,h1,v1⟩:=ha;obtain⟨g2,e2,h2,v2⟩:=hb;have hla:=fun w'=>h1.len (P:=prog) (t:=38) (ty:=3) underlying38 w';have hlb:=fun w'=>h2.len (P:=prog) (t:=38) (ty:=3) underlying38 w';have hl12:g2.length=g1.length:=by have:=congrArg List.length (e1.symm.trans e2);simpa using this.symm
 have hlm:g1.length<=maxLen:=by obtain⟨_,_,rfl,hc,hm,_⟩:=id h1;simp at hc;omega
 obtain⟨n,hn⟩:∃ n,n=g1.length:=⟨_,rfl⟩
 rw[List.length_map,<-hn] at hla;rw[List.length_map,hl12,<-hn] at hlb;rw[<-hn] at hlm;unfold maxLen at hlm;have H:=jd7 h1 h2 v1 v2 hn (hn.trans hl12.symm) (e1.symm.trans e2);clear h1 h2 v1 v2 hn e1 e2 hl12;go_enter func17,ntmps17
 go_wp2_with fail
 go_loopw [5] (fun s5 wr=>∃ k:Nat,k<=n/\s5 = .int .i64 k/\Hid (Below w.heap.size w wr)) (fun s5 _=>n-(intOf s5).toNat)
 case atStart=>exact⟨0,Nat.zero_le _,rfl,hid brf⟩
 case round =>
  obtain⟨k,hk,rfl,hR⟩:=hrel;obtain⟨wO,hwO⟩:∃ x,x=wr:=⟨_,rfl⟩
  subst hwO;by_cases hlt:k<n
  ·obtain⟨s1,s2,v1,v2,hn,hn2,he⟩:=H.out;have hk1:k<g1.length:=by rw[<-hn];exact hlt
   have hk2:k<g2.length:=by rw[<-hn2];exact hlt
   obtain⟨p,hp⟩:∃ p,p=g1[k]:=⟨_,rfl⟩
   obtain⟨q,hq⟩:∃ q,q=g2[k]:=⟨_,rfl⟩
   have hpq:p.v=q.v:=by
    have h9:(g1.map (·.v))[k]? = (g2.map (·.v))[k]? := by rw[he]
    rw[List.getElem?_map,List.getElem?_map,List.getElem?_eq_getElem hk1,List.getElem?_eq_getElem hk2,<-hp,<-hq] at h9;exact Option.some.inj h9
   have hP:=(v1 p (by rw[hp];exact List.getElem_mem _)).below hR.out;have hQ:=(v2 q (by rw[hq];exact List.getElem_mem _)).below hR.out;obtain⟨ba,oa,ia1,ca⟩:=slG_addrs s1 (t:=38) underlying38 size45 k (by rw[List.length_map];exact hk1);obtain⟨bb,ob,ib1,cb⟩:=slG_addrs s2 (t:=38) underlying38 size45 k (by rw[List.length_map];exact hk2);rw[show(g1.map vrow).getD k []=vrow p by rw[List.getD_eq_getElem?_getD,List.getElem?_map,List.getElem?_eq_getElem hk1,hp];rfl] at ca;rw[show(g2.map vrow).getD k []=vrow q by rw[List.getD_eq_getElem?_getD,List.getElem?_map,List.getElem?_eq_getElem hk2,hq];rfl] at cb;obtain⟨vw,hvw⟩:∃ vw,vw=q.v:=⟨_,rfl⟩
   rw[<-hvw] at hpq;obtain⟨d1,n1,c1,hd1⟩:=ownB_sh hP.d;obtain⟨t1,m1,r1,hs1⟩:=ownG_sh hP.s;obtain⟨y1,z1,x1,hm1⟩:=ownG_sh hP.m.o;obtain⟨d2,n2,c2,hd2⟩:=ownB_sh hQ.d;obtain⟨t2,m2,r2,hs2⟩:=ownG_sh hQ.s;obtain⟨y2,z2,x2,hm2⟩:=ownG_sh hQ.m.o;have a0:∀ w',Below wO.heap.size wO w'->w'.cell? ⟨ba,oa+0,none⟩=some (str vw.name):=fun w' hB=>ca w' (hR.out.trans (hB.mono hR.out.size)) 0 _ (by simp[hpq,hd1,hs1,hm1]);have b0:∀ w',Below wO.heap.size wO w'->w'.cell? ⟨bb,ob+0,none⟩=some (str vw.name):=fun w' hB=>cb w' (hR.out.trans (hB.mono hR.out.size)) 0 _ (by simp[hvw,hd2,hs2,hm2]);have a1:∀ w',Below wO.heap.size wO w'->w'.cell? ⟨ba,oa+1,none⟩=some (.int .i64 vw.cl):=fun w' hB=>ca w' (hR.out.trans (hB.mono hR.out.size)) 1 _ (by simp[hpq,hd1,hs1,hm1])
   have b1:∀ w',Below wO.heap.size wO w'->w'.cell? ⟨bb,ob+1,none⟩=some (.int .i64 vw.cl):=fun w' hB=>cb w' (hR.out.trans (hB.mono hR.out.size)) 1 _ (by simp[hvw,hd2,hs2,hm2]);have a2:∀ w',Below wO.heap.size wO w'->w'.cell? ⟨ba,oa+2,none⟩=some (str vw.back):=fun w' hB=>ca w' (hR.out.trans (hB.mono hR.out.size)) 2 _ (by simp[hpq,hd1,hs1,hm1]);have b2:∀ w',Below wO.heap.size wO w'->w'.cell? ⟨bb,ob+2,none⟩=some (str vw.back):=fun w' hB=>cb w' (hR.out.trans (hB.mono hR.out.size)) 2 _ (by simp[hvw,hd2,hs2,hm2]);have a3:∀ w',Below wO.heap.size wO w'->w'.cell? ⟨ba,oa+3,none⟩=some (.slice d1 n1 c1):=fun w' hB=>ca w' (hR.out.trans (hB.mono hR.out.size)) 3 _ (by simp[hpq,hd1,hs1,hm1]);have b3:∀ w',Below wO.heap.size wO w'->w'.cell? ⟨bb,ob+3,none⟩=some (.slice d2 n2 c2):=fun w' hB=>cb w' (hR.out.trans (hB.mono hR.out.size)) 3 _ (by simp[hvw,hd2,hs2,hm2])
   have a4:∀ w',Below wO.heap.size wO w'->w'.cell? ⟨ba,oa+4,none⟩=some (.slice t1 m1 r1):=fun w' hB=>ca w' (hR.out.trans (hB.mono hR.out.size)) 4 _ (by simp[hpq,hd1,hs1,hm1]);have b4:∀ w',Below wO.heap.size wO w'->w'.cell? ⟨bb,ob+4,none⟩=some (.slice t2 m2 r2):=fun w' hB=>cb w' (hR.out.trans (hB.mono hR.out.size)) 4 _ (by simp[hvw,hd2,hs2,hm2]);have a5:∀ w',Below wO.heap.size wO w'->w'.cell? ⟨ba,oa+5,none⟩=some (.slice y1 z1 x1):=fun w' hB=>ca w' (hR.out.trans (hB.mono hR.out.size)) 5 _ (by simp[hpq,hd1,hs1,hm1]);have b5:∀ w',Below wO.heap.size wO w'->w'.cell? ⟨bb,ob+5,none⟩=some (.slice y2 z2 x2):=fun w' hB=>cb w' (hR.out.trans (hB.mono hR.out.size)) 5 _ (by simp[hvw,hd2,hs2,hm2]);simp only[Nat.add_zero] at a0 b0;have hP':=hP;have hQ':=hQ;rw[<-hpq] at hvw;have HPQ:=jd4 hP hQ hpq hvw;have HSH:=jd6 hd1 hs1 hm1 hd2 hs2 hm2
   clear s1 s2 v1 v2 hn hn2 he hk1 hk2 hp hq hpq hP hQ hP' hQ' ca cb hd1 hs1 hm1 hd2 hs2 hm2 hvw;go_upto_region 6 with(fail)
   have hB0:Below wO.heap.size wO wO.drew:=brf.drew
   go_cut [6,7] from 14 to 109 (fun s6 s7 wx=>∃ q1 q2:Nat,s6 = .pointer (some ⟨q1,0,none⟩)/\s7 = .pointer (some ⟨q2,0,none⟩)/\Hid (Below wO.heap.size wO wx/\wx.heap[q1]? = some (.cells #[str vw.name,.int .i64 vw.cl,str vw.back,.slice d1 n1 c1,.slice t1 m1 r1,.slice y1 z1 x1] 45 (0,0))/\wx.heap[q2]? = some (.cells #[str vw.name,.int .i64 vw.cl,str vw.back,.slice d2 n2 c2,.slice t2 m2 r2,.slice y2 z2 x2] 45 (0,0))))
   case first =>
    go_region_held (fun w'=>Below wO.heap.size wO w') (first|with_reducible assumption|(solve|(repeat (first|with_reducible exact Below.refl _ _|with_reducible apply Below.drew|refine Below.alloc ?_ (by simp) _)))) (fail)
    all_goals
     go_wp2_with fail
     go_meet
     case rel =>
      refine⟨_,_,rfl,rfl,hid ?_⟩
      first
       | exact⟨(two_new _ _ _).1,(two_new _ _ _).2.1,(two_new _ _ _).2.2⟩
       | exact⟨(two_new _ _ _).1,(two_new _ _ _).2.2,(two_new _ _ _).2.1⟩
   case rest =>
    obtain⟨q1,q2,rfl,rfl,hC⟩:=hcut;obtain⟨wB,hwB⟩:∃ x,x=wc:=⟨_,rfl⟩
    subst hwB;have hl1:q1<wB.heap.size:=blk_lt hC.out.2.1;have hl2:q2<wB.heap.size:=blk_lt hC.out.2.2;have zz1:∀ w',Below wB.heap.size wB w'->w'.heap[q1]? = some (.cells #[str vw.name,.int .i64 vw.cl,str vw.back,.slice d1 n1 c1,.slice t1 m1 r1,.slice y1 z1 x1] 45 (0,0)):=fun w' hB=>(hB.block q1 hl1).trans hC.out.2.1;have zz2:∀ w',Below wB.heap.size wB w'->w'.heap[q2]? = some (.cells #[str vw.name,.int .i64 vw.cl,str vw.back,.slice d2 n2 c2,.slice t2 m2 r2,.slice y2 z2 x2] 45 (0,0)):=fun w' hB=>(hB.block q2 hl2).trans hC.out.2.2;have f10:∀ w',Below wB.heap.size wB w'->w'.cell? ⟨q1,0,none⟩=some (str vw.name):=fun w' hB=>by simp[World.cell?,zz1 w' hB]
    have f11:∀ w',Below wB.heap.size wB w'->w'.cell? ⟨q1,1,none⟩=some (.int .i64 vw.cl):=fun w' hB=>by simp[World.cell?,zz1 w' hB]
    have f12:∀ w',Below wB.heap.size wB w'->w'.cell? ⟨q1,2,none⟩=some (str vw.back):=fun w' hB=>by simp[World.cell?,zz1 w' hB]
    have f13:∀ w',Below wB.heap.size wB w'->w'.cell? ⟨q1,3,none⟩=some (.slice d1 n1 c1):=fun w' hB=>by simp[World.cell?,zz1 w' hB]
    have f14:∀ w',Below wB.heap.size wB w'->w'.cell? ⟨q1,4,none⟩=some (.slice t1 m1 r1):=fun w' hB=>by simp[World.cell?,zz1 w' hB]
    have f15:∀ w',Below wB.heap.size wB w'->w'.cell? ⟨q1,5,none⟩=some (.slice y1 z1 x1):=fun w' hB=>by simp[World.cell?,zz1 w' hB]
    have f20:∀ w',Below wB.heap.size wB w'->w'.cell? ⟨q2,0,none⟩=some (str vw.name):=fun w' hB=>by simp[World.cell?,zz2 w' hB]
    have f21:∀ w',Below wB.heap.size wB w'->w'.cell? ⟨q2,1,none⟩=some (.int .i64 vw.cl):=fun w' hB=>by simp[World.cell?,zz2 w' hB]
    have f22:∀ w',Below wB.heap.size wB w'->w'.cell? ⟨q2,2,none⟩=some (str vw.back):=fun w' hB=>by simp[World.cell?,zz2 w' hB]
    have f23:∀ w',Below wB.heap.size wB w'->w'.cell? ⟨q2,3,none⟩=some (.slice d2 n2 c2):=fun w' hB=>by simp[World.cell?,zz2 w' hB]
    have f24:∀ w',Below wB.heap.size wB w'->w'.cell? ⟨q2,4,none⟩=some (.slice t2 m2 r2):=fun w' hB=>by simp[World.cell?,zz2 w' hB]
    have f25:∀ w',Below wB.heap.size wB w'->w'.cell? ⟨q2,5,none⟩=some (.slice y2 z2 x2):=fun w' hB=>by simp[World.cell?,zz2 w' hB]
    have hPB:=HPQ.out.1.below hC.out.1;have hQB:=HPQ.out.2.1.below hC.out.1;obtain⟨e1,e2,e3,e4,e5,e6⟩:=HSH.out;have hpq:=HPQ.out.2.2.1;have hvw:=HPQ.out.2.2.2;have hqv:q.v=vw:=by rw[<-hvw,hpq]
    have HM:=hid (fun w' (hB:Below wB.heap.size wB w')=>maps29 (w:=w') (hPB.m.below hB) (by have h9:=hQB.m.below hB;rw[hqv,<-hpq] at h9;exact h9));rw[e3,e6] at HM;have o1:=hPB.d;have o2:=hQB.d;rw[e1,hpq] at o1;rw[e4,hqv] at o2;have v1:∀ w',Below wB.heap.size wB w'->(convert 23 9 (.slice d1 n1 c1)).run prog w' = .ok (str vw.data) w':=fun w' hB=>conv_sl underlying23 underlying5 underlying9 ((o1.below hB (fun k hk=>o1.lt k hk)).slB);have v2:∀ w',Below wB.heap.size wB w'->(convert 23 9 (.slice d2 n2 c2)).run prog w' = .ok (str vw.data) w':=fun w' hB=>conv_sl underlying23 underlying5 underlying9 ((o2.below hB (fun k hk=>o2.lt k hk)).slB);have l1:=fun w'=>hPB.s.slG.len (P:=prog) (t:=42) (ty:=3) underlying42 w';have l2:=fun w'=>hQB.s.slG.len (P:=prog) (t:=42) (ty:=3) underlying42 w';obtain⟨sn,hsn⟩:∃ sn,sn=vw.shots.length:=⟨_,rfl⟩
    have hs1:(p.sg.map sgrow).length=sn:=by have:=congrArg List.length hPB.se;rw[hpq] at this;simp at this;simp;omega
    have hs2:(q.sg.map sgrow).length=sn:=by have:=congrArg List.length hQB.se;rw[hqv] at this;simp at this;simp;omega
    rw[e2,hs1] at l1;rw[e5,hs2] at l2;have hsn8:sn<=8:=by have:=hPB.sn;rw[hpq] at this;omega
    have HV:=jd7 hPB hQB hpq hqv hs1 hs2 hsn;have eC:=zz1 wB brf;have k10:=f10 wB brf;have k11:=f11 wB brf;have k12:=f12 wB brf;have k13:=f13 wB brf;have k14:=f14 wB brf;have k15:=f15 wB brf;have k20:=f20 wB brf;have k21:=f21 wB brf;have k22:=f22 wB brf;have k23:=f23 wB brf;have k24:=f24 wB brf;have k25:=f25 wB brf;clear hPB hQB e1 e2 e3 e4 e5 e6 hpq hvw hqv o1 o2 hs1 hs2 hsn eC zz1 zz2 a0 a1 a2 a3 a4 a5 b0 b1 b2 b3 b4 b5;have vB1:=v1 wB brf;have vB2:=v2 wB brf;go_upto_region 10 with(go_at_call 29;refine(HM.out _ brf).mono ?_;rintro e w5 ⟨rfl,hb5⟩;have m10:=f10 w5 hb5;have m11:=f11 w5 hb5;have m12:=f12 w5 hb5;have m13:=f13 w5 hb5;have m14:=f14 w5 hb5;have m15:=f15 w5 hb5;have m20:=f20 w5 hb5;have m21:=f21 w5 hb5;have m22:=f22 w5 hb5;have m23:=f23 w5 hb5;have m24:=f24 w5 hb5;have m25:=f25 w5 hb5)
    have HB5:=hid hb5;clear hb5 vB1 vB2 k10 m10 k11 m11 k12 m12 k13 m13 k14 m14 k15 m15 k20 m20 k21 m21 k22 m22 k23 m23 k24 m24 k25 m25
    go_loopw [8] (fun s8 wr=>∃ j:Nat,j<=sn/\s8 = .int .i64 j/\Hid (Below wB.heap.size wB wr)) (fun s8 _=>sn-(intOf s8).toNat)
    case atStart=>exact⟨0,Nat.zero_le _,rfl,hid HB5.out⟩
    case round =>
     obtain⟨j,hj,rfl,hRj⟩:=hrel;obtain⟨wJ,hwJ⟩:∃ x,x=wr:=⟨_,rfl⟩
     subst hwJ;have g1:=f14 wJ hRj.out;have g2:=f24 wJ hRj.out;by_cases hltj:j<sn
     ·obtain⟨hPB,hQB,hpq,hqv,hs1,hs2,hsn⟩:=HV.out;obtain⟨e1,e2,e3,e4,e5,e6⟩:=HSH.out;obtain⟨ba,oa,ia,ca⟩:=slG_addrs hPB.s.slG (t:=42) underlying42 size92 j (by rw[hs1];exact hltj);obtain⟨bb,ob,ib,cb⟩:=slG_addrs hQB.s.slG (t:=42) underlying42 size92 j (by rw[hs2];exact hltj);have hj1:j<p.sg.length:=by have h9:=hltj;rw[<-hs1,List.length_map] at h9;exact h9
      have hj2:j<q.sg.length:=by have h9:=hltj;rw[<-hs2,List.length_map] at h9;exact h9
      obtain⟨x,hx⟩:∃ x,x=p.sg[j]:=⟨_,rfl⟩
      obtain⟨y,hy⟩:∃ y,y=q.sg[j]:=⟨_,rfl⟩
      rw[show(p.sg.map sgrow).getD j []=sgrow x by rw[List.getD_eq_getElem?_getD,List.getElem?_map,List.getElem?_eq_getElem hj1,hx];rfl] at ca;rw[show(q.sg.map sgrow).getD j []=sgrow y by rw[List.getD_eq_getElem?_getD,List.getElem?_map,List.getElem?_eq_getElem hj2,hy];rfl] at cb;have hxy:x.1=y.1/\x.2.1=y.2.1:=by
       have h8:=hPB.se;have h9:=hQB.se;rw[hpq] at h8;rw[hqv] at h9;have h7:(p.sg.map fun q=>(q.1,q.2.1))[j]? = (q.sg.map fun q=>(q.1,q.2.1))[j]? := by rw[<-h8,<-h9]
       rw[List.getElem?_map,List.getElem?_map,List.getElem?_eq_getElem hj1,List.getElem?_eq_getElem hj2,<-hx,<-hy] at h7;have h6:(x.1,x.2.1)=(y.1,y.2.1):=Option.some.inj h7;exact⟨(Prod.mk.inj h6).1,(Prod.mk.inj h6).2⟩
      have ox:=hPB.sd x (by rw[hx];exact List.getElem_mem _);have oy:=hQB.sd y (by rw[hy];exact List.getElem_mem _);rw[<-hxy.2] at oy;obtain⟨xa,xn,xc,hxs⟩:=ownB_sh ox;obtain⟨ya,yn,yc,hys⟩:=ownB_sh oy;rw[hxs] at ox;rw[hys] at oy;rw[e2] at ia;rw[e5] at ib;have w1:∀ w',Below wB.heap.size wB w'->(convert 23 9 (.slice xa xn xc)).run prog w' = .ok (str x.2.1) w':=fun w' hB=>conv_sl underlying23 underlying5 underlying9 ((ox.below hB (fun k hk=>ox.lt k hk)).slB);have w2:∀ w',Below wB.heap.size wB w'->(convert 23 9 (.slice ya yn yc)).run prog w' = .ok (str x.2.1) w':=fun w' hB=>conv_sl underlying23 underlying5 underlying9 ((oy.below hB (fun k hk=>oy.lt k hk)).slB);have n1:∀ w',Below wB.heap.size wB w'->w'.cell? ⟨ba,oa,none⟩=some (str x.1):=fun w' hB=>by have:=ca w' hB 0 _ rfl;simpa using this
      have n2:∀ w',Below wB.heap.size wB w'->w'.cell? ⟨bb,ob,none⟩=some (str x.1):=fun w' hB=>by have:=cb w' hB 0 _ rfl;rw[<-hxy.1] at this;simpa using this
      have n3:∀ w',Below wB.heap.size wB w'->w'.cell? ⟨ba,oa+1,none⟩=some (.slice xa xn xc):=fun w' hB=>ca w' hB 1 _ (by simp[hxs]);have n4:∀ w',Below wB.heap.size wB w'->w'.cell? ⟨bb,ob+1,none⟩=some (.slice ya yn yc):=fun w' hB=>cb w' hB 1 _ (by simp[hys]);have hB0:=hRj.out.drew;clear hPB hQB hpq hqv hs1 hs2 hsn e1 e2 e3 e4 e5 e6 ca cb hj1 hj2 hx hy hxy ox oy hxs hys;go_upto_region 12 with(fail)
      clear g1 g2
      go_region_held (fun w'=>Below wB.heap.size wB w') (first|with_reducible exact hB0|with_reducible assumption|with_reducible exact Below.drew (by assumption)) (fail)
      go_wp2_with fail
      go_roundw
      case measure=>simp only[intOf];omega
      case rel=>exact⟨j+1,by omega,by go_num,hid hB0⟩
     ·obtain rfl:j=sn:=by omega
      go_wp2_with fail
      go_roundw
      case measure=>simp only[intOf];omega
      case rel=>exact⟨k+1,by omega,by go_num,hid (hR.out.trans ((hC.out.1.trans (hRj.out.mono hC.out.1.size)).mono hR.out.size))⟩
  ·have:k=n:=by omega
   subst this
   go_wp2
   go_ret
   exact⟨rfl,hR.out⟩
variable {w:World}{base mb:Nat}{M:MM}{X:MX}
theorem mo_new2 {am km hm:Nat}{S T:IL}{xs ks:List XI}{cl:ML (List UInt8)}{ch:Bs->Bool}(a:AM w base am S xs)(k:AM w base km T ks)(h:GM ES prog 9 w hm cl)(ht:∀ p∈cl,p.2 = .bool true)(hc:∀ n,ch n=(Mx.look cl n).isSome)(hn:(hm :: (fpA am xs++fpA km ks)).Nodup) :
  MO (w.alloc (.cells #[.map (some am),.map (some km),.map (some hm),.int .u32 0,.int .i32 0,.int .u32 0,.map none,.slice none 0 0] 73)) base w.heap.size ⟨S,T,ch⟩ (newX am xs km ks hm cl):=by
 have hb:Below w.heap.size w (w.alloc (.cells #[.map (some am),.map (some km),.map (some hm),.int .u32 0,.int .i32 0,.int .u32 0,.map none,.slice none 0 0] 73)):=brf.alloc nlr _;refine⟨alloc_new w _,a.below hb,k.below hb,h.block (hb.block _ h.lt),ht,hc,fun dm e=>by simp[newX] at e,OwnG.nil _ _ _ _,?_⟩;unfold MX.fp;simp only[newX,Option.toList_none,List.nil_append,Value.ownBlock];rw[List.nodup_cons];refine⟨fun hm'=>?_,hn⟩;have h1:w.heap.size<w.heap.size:=by
  rcases List.mem_cons.1 hm' with e|e
  ·have:=h.lt;omega
  ·rcases List.mem_append.1 e with e|e
   ·exact a.lt _ e
   ·exact k.lt _ e
 omega
theorem newX_fp2 {nb am km hm:Nat}{xs ks:List XI}{cl:ML (List UInt8)}{b:Nat}(h:b∈(newX am xs km ks hm cl).fp nb):b=nb\/b=hm\/b∈fpA am xs\/b∈fpA km ks:=by
 unfold MX.fp newX at h;simp only[Option.toList_none,List.nil_append,Value.ownBlock,List.mem_cons,List.mem_append] at h;exact h
theorem copy_any (h:MO w base mb M X)(hbase:base<=w.heap.size)(hl:X.xs.length<=1000)(hkl:X.ks.length<=1000) :
  Calls prog 19 #[pt mb] w fun e w'=>∃ nb X',e = .returned (pt nb)/\MO w' base nb M X'/\(∀ b∈X'.fp nb,w.heap.size<=b)/\X'.fr=[]/\X'.fv = .slice none 0 0/\Below w.heap.size w w':=by
 have c0:∀ w',Below w.heap.size w w'->w'.cell? ⟨mb,0,none⟩=some (.map (some X.am)):=fun w' hB=>(h.below hB).cells.1;have c1:∀ w',Below w.heap.size w w'->w'.cell? ⟨mb,1,none⟩=some (.map (some X.km)):=fun w' hB=>(h.below hB).cells.2.1;have c2:∀ w',Below w.heap.size w w'->w'.cell? ⟨mb,2,none⟩=some (.map (some X.hm)):=fun w' hB=>(h.below hB).cells.2.2.1;have HA:=hid (fun w' (hB:Below w.heap.size w w')=>cloned_any (h.below hB).a (Nat.le_trans hbase hB.size) hl);have HK:=hid (fun w' (hB:Below w.heap.size w w')=>cloned_any (h.below hB).k (Nat.le_trans hbase hB.size) hkl);have HH:=hid (fun w' (hB:Below w.heap.size w w')=>mclone30 (h.below hB).h);have hq:∀ w',(binOp .eql 28 (pt mb) (.pointer none)).run prog w' = .ok (.bool false) w':=fun w'=>by simp[go_sem]
 have HM:=jd2 h.ht h.hc;have hB0:Below w.heap.size w w.drew:=brf.drew;clear h;go_enter func19,ntmps19
 go_upto_region 3 with(fail)
 go_region_held (fun w'=>Below w.heap.size w w') (first|with_reducible exact hB0|with_reducible assumption|with_reducible exact Below.drew (by assumption)|exact Below.alloc (by assumption) (Below.size (by assumption)) _) (first
  | (go_at_call 30;refine(HH.out _ (by assumption)).mono ?_;rintro e w7 ⟨rfl,hg7,hb7c,-⟩;have hb7:Below w.heap.size w w7:=Below.trans (by assumption) (hb7c.mono (Below.size (by assumption))))
  | (go_at_call 28;have hq5:=hn5;refine(HK.out _ (by assumption)).mono ?_;rintro e w6 ⟨rfl,ys6,hA6,hn6,hge6,hb6c⟩;have hb6:Below w.heap.size w w6:=Below.trans (by assumption) (hb6c.mono (Below.size (by assumption))))
  | (go_at_call 28;refine(HA.out _ (by assumption)).mono ?_;rintro e w5 ⟨rfl,ys5,hA5,hn5,hge5,hb5c⟩;have hb5:Below w.heap.size w w5:=Below.trans (by assumption) (hb5c.mono (Below.size (by assumption)))))
 all_goals (go_wp2_with fail;go_ret)
 all_goals
  have hx:=(hA5.below hb6c).below hb7c;have hy:=hA6.below hb7c;have l5:=hA5.lt;have l6:=hA6.lt;have s6:w5.heap.size<=w6.heap.size:=hb6c.size;have s7:w6.heap.size<=w7.heap.size:=hb7c.size;have s5:w.heap.size<=w5.heap.size:=hb5.size;have h9:=mo_new2 hx hy hg7 HM.out.1 HM.out.2 (nd3 hn5 hn6 (fun b hb=>by have:=l5 b hb;omega) (fun b hb=>by have:=l6 b hb;omega) fun b hb c hc=>by have:=l5 b hb;have:=hge6 c hc;omega);refine⟨_,newX _ ys5 _ ys6 _ X.cl,rfl,h9,fun b hb=>?_,rfl,rfl,hb7.alloc hb7.size _⟩;rcases newX_fp2 hb with e|e|e|e
  ·omega
  ·omega
  ·have:=hge5 b e;(try simp at this);omega
  ·have:=hge6 b e;omega
variable {w0 w w':World}{base mb:Nat}{M:MM}{X:MX}
abbrev keptM (M:MM):MM:=⟨M.kept,M.kept,fun _=>false⟩
theorem ok_kept (h:MOk M):MOk (keptM M):=by
 have key:∀ n,(fnd M.kept n).isSome=(fnd M.all n).isSome:=fun n=>by
  have:=congrArg Option.isSome (h.kb n);simpa using this
 refine⟨fun n i hf=>?_,fun n i hf=>?_,fun n=>dep_same (S:=M.all) h.kb 8 n (h.dp n),h.kl,h.kl,fun _=>rfl,fun _ _=>rfl,fun _ hn=>by cases hn⟩
 ·have h1:(fnd M.all n).isSome=true:=by rw[<-key];show(fnd M.kept n).isSome=true;rw[hf];rfl
  obtain⟨j,hj⟩:=Option.isSome_iff_exists.1 h1;exact h.nm n j hj
 ·have h1:(fnd M.all n).isSome=true:=by rw[<-key];show(fnd M.kept n).isSome=true;rw[hf];rfl
  obtain⟨j,hj⟩:=Option.isSome_iff_exists.1 h1;have h2:=h.kb n;rw[hj,show fnd M.kept n=some i from hf] at h2;have h3:i.back=j.back:=by simpa using h2
  rw[h3];rcases h.bk n j hj with h4|h4
  ·exact .inl h4
  ·exact .inr (by show(fnd M.kept j.back).isSome=true;rw[key];exact h4)
theorem Stt.views (h:Stt w0 w base mb M X):Calls prog 15 #[pt mb] w fun e w'=>∃ v,e = .returned v/\VS w' w.heap.size base v (viewsM M.all)/\Below w.heap.size w w' :=
 views_any h.mo.mod0 h.mo.a h.ok.dp h.ok.le (Nat.le_trans h.bb h.b.size)
theorem AM.len' {am:Nat}{S:IL}{xs:List XI}(h:AM w base am S xs):xs.length=S.length:=by have:=h.p.length_eq;simpa using this
theorem Stt.keptC (h:Stt w0 w base mb M X):Calls prog 16 #[pt mb] w fun e w'=>∃ nb X',e = .returned (pt nb)/\Stt w0 w' base nb (keptM M) X'/\Below w.heap.size w w' :=
 (kept_any (M:=M) ⟨_,h.mo.ck,rfl⟩ h.mo.k (Nat.le_trans h.bb h.b.size) (by rw[AM.len' h.mo.k];have:=h.ok.kl;omega)).mono fun e w' ⟨nb,X',e1,h1,h2,h3,h4⟩ =>
  ⟨nb,X',e1,⟨h1,ok_kept h.ok,h3,h.b.trans (h4.mono h.b.size),fun b hb=>Nat.le_trans h.b.size (h2 b hb),h.bb⟩,h4⟩
theorem II.typV {ib:Nat}{i:IM}{x:IX}(h:II w base ib i x):∀ b∈x.fp ib,∀ c t f,w.heap[b]? = some (.cells c t f)->t≠45/\t≠92:=by
 intro b hb c t f hc;unfold IX.fp at hb;simp only[List.mem_cons,List.mem_append,List.mem_map,Option.mem_toList] at hb;rcases hb with rfl|rfl|⟨s,hs,rfl⟩|e
 ·rw[h.ck] at hc;cases hc;decide
 ·obtain⟨es,k,h1⟩:=h.own.g.isMap;rw[h1] at hc;cases hc
 ·obtain⟨es,k,h1⟩:=(h.sm s hs).g.isMap;rw[h1] at hc;cases hc
 ·obtain⟨c9,f9,h9⟩:=ownG_type h.so b e;rw[h9] at hc;cases hc;decide
theorem AM.typV {am:Nat}{S:IL}{xs:List XI}(h:AM w base am S xs):∀ b∈fpA am xs,∀ c t f,w.heap[b]? = some (.cells c t f)->t≠45/\t≠92:=by
 intro b hb c t f hc;unfold fpA at hb;rcases List.mem_cons.1 hb with rfl|h1
 ·obtain⟨es,k,h1⟩:=h.g.isMap;rw[h1] at hc;cases hc
 ·obtain⟨x,hx,h2⟩:=List.mem_flatMap.1 h1;exact(h.i x hx).typV b h2 c t f hc
theorem MO.typV (h:MO w base mb M X):∀ b∈X.fp mb,∀ c t f,w.heap[b]? = some (.cells c t f)->t≠45/\t≠92:=by
 intro b hb c t f hc;unfold MX.fp at hb;simp only[List.mem_cons,List.mem_append,Option.mem_toList] at hb;rcases hb with rfl|rfl|e|e|e|e
 ·rw[h.ck] at hc;cases hc;decide
 ·obtain⟨es,k,h1⟩:=h.h.isMap;rw[h1] at hc;cases hc
 ·obtain⟨es,k,h1⟩:=(h.d b e).isMap;rw[h1] at hc;cases hc
 ·obtain⟨c9,f9,h9⟩:=ownG_type h.f b e;rw[h9] at hc;cases hc;decide
 ·exact h.a.typV b e c t f hc
 ·exact h.k.typV b e c t f hc
theorem VS.stp {lo bs:Nat}{v:Value}{vs:List VW}{F':List Nat}(h:VS w lo bs v vs)(hm:MO w base mb M X)(hs:Stp w w' (X.fp mb) F'):VS w' lo bs v vs :=
 h.kept hs.k fun b c t f hc ht hb=>by
  have h1:=hm.typ b hb c t f hc;have h2:=hm.typV b hb c t f hc;rcases ht with e|e|e|e|e
  ·exact h1.1 e
  ·exact h2.1 e
  ·exact h2.2 e
  ·exact h1.2.1 e
  ·exact h1.2.2 e
open Go.ChangeShapes Go.WideShapes Go.ChangeAt Go.RowKit Go.Deep Go.Mx Go.Md
section
variable {H:Type}{enc:TypeId×Value->H}{w:World}{base:Nat}{spare:Nat->Bool}{held:Bool}
theorem crow_of {fuel:Nat}{l:List Value}{x:DataW H×List MemPlace}(hf':DataW.trod enc prog w base spare held fuel 25 l=some x) :
  ∃ g:Cm×Value,l=crow g/\SlB w w.heap.size g.2 g.1.data/\(Lit.int .i64 g.1.kind).wf=true:=by
 obtain⟨hl,n,hf⟩:=cells_of underlying25 (by kernel_rfl) (by kernel_rfl) hf';obtain⟨v0,_,h0,t0⟩:=hf 0 _ rfl;obtain⟨v1,_,h1,t1⟩:=hf 1 _ rfl;obtain⟨v2,_,h2,t2⟩:=hf 2 _ rfl;obtain⟨v3,_,h3,t3⟩:=hf 3 _ rfl;obtain⟨v4,_,h4,t4⟩:=hf 4 _ rfl;obtain⟨v5,_,h5,t5⟩:=hf 5 _ rfl;obtain⟨v6,_,h6,t6⟩:=hf 6 _ rfl;obtain⟨z0,rfl,b1,b2⟩:=int_of t0;obtain⟨s1,rfl,_⟩:=str_of t1;obtain⟨s2,rfl,_⟩:=str_of t2;obtain⟨z3,rfl,_,_⟩:=int_of t3;obtain⟨z4,rfl,_,_⟩:=int_of t4;obtain⟨z5,rfl,_,_⟩:=int_of t5;obtain⟨bs,hb⟩:=bytes_of t6
 match l,hl with
 | [a0,a1,a2,a3,a4,a5,a6],_ =>
  simp only[List.getElem?_cons_zero,List.getElem?_cons_succ,Option.some.injEq] at h0 h1 h2 h3 h4 h5 h6;subst h0 h1 h2 h3 h4 h5 h6;exact⟨(⟨z0,s1,s2,z3,z4,z5,bs⟩,a6),rfl,hb,wf_of b1 b2⟩
instance:Inhabited Cm:=⟨⟨0,[],[],0,0,0,[]⟩⟩
theorem cmds_of' {n:Nat}{v:Value}{y:DataW H×List MemPlace}(h:DataW.trod enc prog w base spare held n 22 [v]=some y):∃ gs:List (Cm×Value),SlC w v gs/\∀ g∈gs,(Lit.int .i64 g.1.kind).wf=true:=by
 obtain⟨v',rows,e,hs,hr⟩:=rows_of (s:=7) underlying22 (by kernel_rfl) (by omega) h;obtain rfl:v=v':=by simpa using e
 obtain⟨fs,hl,hp⟩:=pick_list [] ((default,undef):Cm×Value) rows (fun r (g:Cm×Value)=>r=crow g/\SlB w w.heap.size g.2 g.1.data/\(Lit.int .i64 g.1.kind).wf=true) (fun i hi=>by obtain⟨n,y,h⟩:=hr i hi;exact crow_of h);have hm:=rows_map [] ((default,undef):Cm×Value) rows fs crow hl (fun i hi=>(hp i hi).1);subst hm;have key:∀ g∈fs,SlB w w.heap.size g.2 g.1.data/\(Lit.int .i64 g.1.kind).wf=true:=fun g hg=>by
  obtain⟨i,hi,rfl⟩:=List.getElem_of_mem hg;have:=(hp i (by rw[List.length_map];exact hi)).2;simpa[List.getD_eq_getElem?_getD,hi] using this
 exact⟨fs,⟨hs,fun g hg=>(key g hg).1⟩,fun g hg=>(key g hg).2⟩
theorem cmds_of {r:Reach}{b0:Nat}{v:Value}{d:DataW H}{p:List MemPlace}(hv:Value.okWide prog w r b0 22 v)(h:DataW.Trod enc prog w base spare held 22 v d p):∃ gs:List (Cm×Value),SlC w v gs/\∀ g∈gs,(Lit.int .i64 g.1.kind).wf=true:=by
 obtain⟨a,n,c,rfl⟩:=okWide_slice underlying22 hv;obtain⟨fuel,hf⟩:=h;exact cmds_of' hf
end
end Go.Proofs.YtgkabcaodnofnaaGreat
