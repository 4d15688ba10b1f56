import Derived.Test.YtgkabcaodnofnaaGreatVA
import Derived.Test.YtgkabcaodnofnaaGreatVL
import Derived.Deep.Cut
set_option linter.unusedSimpArgs false
set_option linter.unusedVariables false
set_option maxRecDepth 100000
set_option maxHeartbeats 3000000
open Go.Proofs.Tryz
namespace Go.Proofs.YtgkabcaodnofnaaGreat
open Go.RowKit Go.Mx Go.Md
theorem run_min2 {P:Program}(w:World)(ts:Array TypeId)(t:TypeId)(x y m:Int)(hm:m=min x y):(Builtin.min_ ts t #[.int .i64 x,.int .i64 y]).run P w = .ok (.int .i64 m) w:=by
 subst hm;simp[Builtin.min_,Builtin.min2]
 repeat' split
 all_goals omega
theorem tdiv16 {n m:Nat}(h:n=m*16):Int.tdiv (n:Int) 16=(m:Int):=by
 rw[h,show((m*16:Nat):Int)=(m:Int)*16 by omega];exact Int.mul_tdiv_cancel _ (by decide)
theorem tdivn (n:Nat):Int.tdiv (n:Int) 16=((n/16:Nat):Int):=by
 rw[Int.tdiv_eq_ediv_of_nonneg (by omega)];omega
theorem tmodn (n m:Nat):Int.tmod (n:Int) (m:Int)=((n%m:Nat):Int):=by
 rw[Int.tmod_eq_emod_of_nonneg (by omega)];rfl
theorem wrlaw_any {W:World}{v:Value}{gs:List (Cm×Value)}{x y:UInt8}{da:Option Addr}{dn dc:Nat}{bs:Bs}(hs:SlC W v gs)(hw:∀ g∈gs,(Lit.int .i64 g.1.kind).wf=true)(hd:SlB W W.heap.size (.slice da dn dc) bs) :
  Calls prog 7 #[v,.int .u8 x.toNat,.int .u8 y.toNat,.slice da dn dc] W fun e w'=>e = .returned (.bool true)/\Below W.heap.size W w':=by
 have HH:=hid (heavy_any hs);have hq:∀ mb (w':World),(binOp .eql 28 (pt mb) (.pointer none)).run prog w' = .ok (.bool false) w':=fun mb w'=>by simp[go_sem]
 have HAW:=hid awake_any;obtain rfl:dn=bs.length:=by obtain⟨a,c,h,_⟩:=hd;cases h;rfl
 have hld:∀ w',(Builtin.len_ #[23] 3 #[.slice da bs.length dc]).run prog w' = .ok (.int .i64 bs.length) w':=fun w'=>len_sl underlying23 rfl w';obtain⟨dn,hdn⟩:∃ q,q=bs.length:=⟨_,rfl⟩
 rw[<-hdn] at hd hld ⊢;obtain⟨xn,hxn⟩:∃ q,q=x.toNat:=⟨_,rfl⟩
 obtain⟨yn,hyn⟩:∃ q,q=y.toNat:=⟨_,rfl⟩
 have hx8:xn<256:=by rw[hxn];exact x.toNat_lt
 have hy8:yn<256:=by rw[hyn];exact y.toNat_lt
 rw[<-hxn,<-hyn];have H:=jd4 hs hw hd hdn;clear hs hw hd hdn hxn hyn;by_cases h2000:2000<dn
 ·have t0:decide ((2000:Int)<(dn:Int))=true:=by simp;omega
  have t1:(2000:Int)<(dn:Int):=by omega
  go_enter func7,ntmps7
  go_wp2_with (go_at_call 11;refine HH.out.mono ?_;rintro e w1 ⟨b1,rfl,hf1,hb1⟩;have HB1:=hid hb1;clear hf1 hb1;cases b1)
  all_goals (refine(HAW.out _).mono ?_;rintro e w2 ⟨rfl,hb2⟩;have hb12:=HB1.out.trans (hb2.mono HB1.out.size);clear hb2;go_wp2_with fail;go_ret;exact⟨rfl,hb12⟩)
 ·have t0:decide ((2000:Int)<(dn:Int))=false:=by simp;omega
  have t1:¬ (2000:Int)<(dn:Int):=by omega
  go_enter func7,ntmps7
  go_wp2_with (go_at_call 11;refine HH.out.mono ?_;rintro e w1 ⟨b1,rfl,hf1,hb1⟩;have HF1:=hid hf1;have HB1:=hid hb1;clear hf1 hb1;cases b1)
  ·refine(led_any (w0:=W) (base:=W.heap.size) H.out.1 HB1.out (HF1.out (by first|rfl|trivial)) H.out.2.1 (Nat.le_refl _)).mono ?_;rintro e w2 ⟨mb,X,rfl,hS⟩;obtain⟨Ml,hMl⟩:∃ q,q=ledF M0 (gs.map (·.1)):=⟨_,rfl⟩
   rw[<-hMl] at hS;have HS:=hid hS;clear hS hMl t0 t1
   go_wp2_with fail
   refine HS.out.views.mono ?_;rintro e w3 ⟨v1,rfl,hV,hb3⟩;have hS3:=HS.out.below hb3;obtain⟨va,vc,rfl⟩:=hV.len;obtain⟨vn,hvn⟩:∃ q,q=(viewsM Ml.all).length:=⟨_,rfl⟩
   have hvn16:vn<=16:=by rw[hvn];exact views_len16 hS3
   rw[<-hvn] at hV ⊢;have hlv:∀ w',(Builtin.len_ #[38] 3 #[.slice va vn vc]).run prog w' = .ok (.int .i64 vn) w':=fun w'=>len_sl underlying38 rfl w';have HV:=jd3 hV hS3 hvn;clear hV hS3 hvn hb3;by_cases h0:vn=0
   ·have l0:((vn:Int)==0)=true:=by simpa using h0
    have l1:(vn:Int)=0:=by omega
    go_wp2_with fail
    refine(HAW.out _).mono ?_;rintro e wa ⟨rfl,hba⟩;have hend:=(HV.out.2.1.below hba).b;clear hba
    go_wp2_with fail
    go_ret
    exact⟨rfl,hend⟩
   ·have l0:((vn:Int)==0)=false:=by simpa using h0
    have l1:¬ (vn:Int)=0:=by omega
    obtain⟨k,hk0⟩:∃ k,k=xn%vn:=⟨_,rfl⟩
    have hkn:k<vn:=by rw[hk0];exact Nat.mod_lt _ (by omega)
    have hk':k<(viewsM Ml.all).length:=by rw[<-HV.out.2.2];exact hkn
    obtain⟨nm,im,hn,hf,hve,hvnm⟩:=views_at hk';obtain⟨bb,bo,dv,sv,mv,hia,hdo,hrow⟩:=HV.out.1.row k hk';rw[hvnm] at hrow;have hz:im.size<=4096:=(HV.out.2.1.oks nm im hf).size;have hdl:(viewsM Ml.all)[k].data.length=16*im.size:=by rw[hve];exact view_len HV.out.2.1.oks hf
    obtain⟨z,hz'⟩:∃ z,z=im.size:=⟨_,rfl⟩
    rw[<-hz'] at hz hdl;obtain⟨P,hP⟩:∃ P,P=16*z:=⟨_,rfl⟩
    obtain⟨ea,ec,rfl⟩:=ownB_k (n:=P) hdo (by rw[hP];exact hdl);have d0:w3.cell? ⟨bb,bo,none⟩=some (str nm):=by have:=hrow w3 (Below.refl _ _) 0 _ rfl;simpa using this
    have d3:w3.cell? ⟨bb,bo+3,none⟩=some (.slice ea P ec):=hrow w3 (Below.refl _ _) 3 _ rfl;have hlP:∀ w',(Builtin.len_ #[23] 3 #[.slice ea P ec]).run prog w' = .ok (.int .i64 P) w':=fun w'=>len_sl underlying23 rfl w';obtain⟨a,ha0⟩:∃ a,a=yn%(z+1):=⟨_,rfl⟩
    have haz:a<=z:=by have:=Nat.mod_lt yn (show 0<z+1 by omega);omega
    obtain⟨q,hq0⟩:∃ q,q=dn/16:=⟨_,rfl⟩
    obtain⟨K,hK0⟩:∃ K,K=min q (z-a):=⟨_,rfl⟩
    obtain⟨N,hN0⟩:∃ N,N=K*16:=⟨_,rfl⟩
    obtain⟨z1,hz1⟩:∃ z1,z1=z+1:=⟨_,rfl⟩
    have m1:Int.tmod (xn:Int) (vn:Int)=(k:Int):=by rw[tmodn,hk0]
    have m2:Int.tdiv (P:Int) 16=(z:Int):=tdiv16 (by omega);have m3:IntKind.i64.wrap ((z:Int)+1)=(z1:Int):=by rw[IntWalk.i64_in _ (by omega)];omega
    have m4:Int.tmod (yn:Int) (z1:Int)=(a:Int):=by rw[tmodn,ha0,hz1]
    have m5:Int.tdiv (dn:Int) 16=(q:Int):=by rw[tdivn,hq0]
    have m6:IntKind.i64.wrap ((z:Int)-(a:Int))=((z-a:Nat):Int):=by rw[IntWalk.i64_in _ (by omega)];omega
    have m6':((z:Int)-(a:Int))=((z-a:Nat):Int):=by omega
    obtain⟨R,hR0⟩:∃ R,R=z-a:=⟨_,rfl⟩
    rw[<-hR0] at m6 m6' hK0;have m7:=fun w'=>run_min2 (P:=prog) w' #[3,3] 3 (q:Int) (R:Int) (K:Int) (by omega);have m9:min (q:Int) (R:Int)=(K:Int):=by omega
    have m8:IntKind.i64.wrap ((K:Int)*16)=(N:Int):=by rw[IntWalk.i64_in _ (by omega)];omega
    have n1:¬ (z1:Int)=0:=by omega
    have n2:((z1:Int)==0)=false:=by simp;omega
    have w1':IntKind.i64.wrap (xn:Int)=(xn:Int):=IntWalk.i64_in _ (by omega);have w2':IntKind.i64.wrap (yn:Int)=(yn:Int):=IntWalk.i64_in _ (by omega);have w3':IntKind.i64.wrap (k:Int)=(k:Int):=IntWalk.i64_in _ (by omega);have w4':IntKind.i64.wrap (z:Int)=(z:Int):=IntWalk.i64_in _ (by omega);have w5':IntKind.i64.wrap (a:Int)=(a:Int):=IntWalk.i64_in _ (by omega);have w6':IntKind.i64.wrap (q:Int)=(q:Int):=IntWalk.i64_in _ (by omega);have hKq:K<=q/\K<=R:=by omega
    obtain⟨bv,hbv,hsl⟩:=H.out.2.2.1.to (P:=prog) (t:=23) underlying23 size5' N (by rw[<-H.out.2.2.2];omega);obtain⟨ba,bc,rfl⟩:∃ a c,bv = .slice a N c:=by
     obtain⟨a,c,h,_⟩:=hbv;rw[List.length_take,Nat.min_eq_left (by rw[<-H.out.2.2.2];omega)] at h;exact⟨_,_,h⟩
    have hbl:(bs.take N).length=K*16:=by rw[List.length_take,Nat.min_eq_left (by rw[<-H.out.2.2.2];omega),hN0]
    obtain⟨M',cd,hdo7,hnam,hoth,hcase⟩:=write_law (M:=Ml) HV.out.2.1.oks HV.out.2.1.nda.1 HV.out.2.1.ok.dp hf hn (a:=a) (b:=bs.take N) (by omega) (by rw[hbl,Nat.mul_div_cancel _ (by decide)];omega);have hD:=HV.out.2.1.step ⟨4,nm,[],a,0,0,bs.take N⟩ (.slice ba N bc) hbv ⟨name100 HV.out.2.1 hf,by simp,by show(bs.take N).length<=3000;omega⟩ (show(Lit.int .i64 4).wf=true by decide);rw[hdo7] at hD;have HD:=hid (show Calls prog 14 #[pt mb,.agg #[.int .i64 4,str nm,.string ⟨#[]⟩,.int .i64 a,.int .i64 0,.int .i64 0,.slice ba N bc]] w3 _ from hD);have HX:=jd9 hk' hve hdl hnam hoth hcase hn hbv hbl;have HNM:=jd6 hKq haz hN0 hR0 hP hz;clear hn hf hve hvnm hdo hrow hz' hdl hdo7 hnam hoth hcase hD hbv hbl hk0 ha0 hq0 hK0 hz1 hKq hP hN0 hR0 m6'
    go_upto_region 14 with(go_at_call 14;refine HD.out.mono ?_;rintro e w9 ⟨r9,lv9,X9,rfl,hrep,⟨frl,hfo,hfl⟩,hS9,hst9⟩;obtain⟨dv9,nv9,sv9,rfl,ho1,ho2,ho3⟩:=hrep.ex;obtain⟨pa,pn,pc,rfl⟩:=ownB_sh ho1;obtain⟨qa,qn,qc,rfl⟩:=ownG_sh ho2;obtain⟨ta,tn,tc,rfl⟩:=ownG_sh ho3;obtain⟨ua,uc,rfl⟩:=ownG_k hfo (frl0 hfl);have H9:=jd2 hS9 hst9;clear hS9 hst9 hrep ho1 ho2 ho3 hfo hfl)
    obtain⟨wR,hwR⟩:∃ z,z=w9.alloc (.cells #[.int .i64 cd,.slice pa pn pc,.slice qa qn qc,.slice ta tn tc,.int .i64 0,.int .i64 0] 34):=⟨_,rfl⟩
    change Code.wp _ _ _ _ (w9.alloc (.cells #[.int .i64 cd,.slice pa pn pc,.slice qa qn qc,.slice ta tn tc,.int .i64 0,.int .i64 0] 34));rw[<-hwR];have hbR:Below w9.heap.size w9 wR:=by rw[hwR];exact(Below.refl _ _).alloc (Nat.le_refl _) _
    have hqR:wR.heap[w9.heap.size]? = some (.cells #[.int .i64 cd,.slice pa pn pc,.slice qa qn qc,.slice ta tn tc,.int .i64 0,.int .i64 0] 34 (0,0)):=by rw[hwR];exact alloc_new w9 _
    have hlu:∀ w',(Builtin.len_ #[35] 3 #[.slice ua 0 uc]).run prog w' = .ok (.int .i64 0) w':=fun w'=>len_sl underlying35 rfl w';have HR:=jd3 (H9.out.1.below hbR) ((HV.out.1.stp HV.out.2.1.mo H9.out.2).below hbR) hqR;clear hwR hbR hqR d0 d3 hia
    go_wp2_with fail
    refine HR.out.1.views.mono ?_;rintro e wA ⟨v2,rfl,hV2,hbA⟩;obtain⟨ya,yc,rfl⟩:=hV2.len;have hvl:(viewsM M'.all).length=vn:=by rw[HV.out.2.2];unfold viewsM;rw[List.length_map,List.length_map,HX.out.2.2.2.1]
    rw[hvl];rw[hvl] at hV2;have hly:∀ w',(Builtin.len_ #[38] 3 #[.slice ya vn yc]).run prog w' = .ok (.int .i64 vn) w':=fun w'=>len_sl underlying38 rfl w';have HA:=jd5 hV2 (HR.out.1.below hbA) (HR.out.2.1.below hbA) hvl ((hbA.block _ (blk_lt HR.out.2.2)).trans HR.out.2.2);clear hV2 hvl hbA;go_upto_region 18 with(fail)
    go_loopw [17] (fun s17 wr=>∃ j:Nat,s17 = .int .i64 j/\j<=vn/\Hid (Below wA.heap.size wA wr)) (fun s17 _=>vn-(intOf s17).toNat)
    case atStart=>exact⟨0,rfl,Nat.zero_le _,hid (Below.refl _ _)⟩
    case round =>
     obtain⟨j,rfl,hj,hbr⟩:=hrel;obtain⟨wZ,hwZ⟩:∃ q,q=wr:=⟨_,rfl⟩
     subst hwZ;by_cases hlj:j<vn
     ·have hwj:IntKind.i64.wrap ((j:Int)+1)=((j+1:Nat):Int):=by rw[IntWalk.i64_in _ (by omega)];omega
      obtain⟨j1,hj1⟩:∃ j1,j1=j+1:=⟨_,rfl⟩
      rw[<-hj1] at hwj;by_cases hjk:j=k
      ·have f1:((j:Int) != (k:Int))=false:=by rw[hjk];simp
       have f2:((j:Int)==(k:Int))=true:=by rw[hjk];simp
       have HJ:=jd2 hjk hj1;clear hjk hj1
       go_wp2_with fail
       go_quiet (fail)
       rename_i nq
       go_wp2_with fail
       have hbq:=bel_drewN (Below.refl wZ.heap.size wZ) nq;have hj1:=HJ.out.2
       go_roundw
       case measure=>simp only[intOf];omega
       case rel=>exact⟨j1,by go_num,by omega,hid (hbr.out.trans (hbq.mono hbr.out.size))⟩
      ·have f1:((j:Int) != (k:Int))=true:=by simp;omega
       have f2:((j:Int)==(k:Int))=false:=by simp;omega
       have f3:¬ (j:Int)=(k:Int):=by omega
       obtain⟨q1,hq1,hs1⟩:=(HA.out.2.2.1.below hbr.out).vr.part j j1 (by omega) (by rw[<-HV.out.2.2];omega);obtain⟨q2,hq2,hs2⟩:=(HA.out.1.below hbr.out).vr.part j j1 (by omega) (by rw[HA.out.2.2.2.1];omega);have hoj:=HX.out.2.2.2.2.1 j hjk;obtain⟨vj,hvj⟩:∃ vj,(viewsM Ml.all)[j]? = some vj:=⟨_,List.getElem?_eq_getElem (by rw[<-HV.out.2.2];exact hlj)⟩
       rw[hj1,one_part hvj] at hq1;rw[hj1,one_part (hoj.trans hvj)] at hq2;obtain⟨i1,i2,i3,e1⟩:∃ a n c,q1 = .slice a n c:=by obtain⟨_,_,h,_⟩:=hq1;obtain⟨oa,cp,h2,_⟩:=h;exact⟨_,_,_,h2⟩
       obtain⟨i4,i5,i6,e2⟩:∃ a n c,q2 = .slice a n c:=by obtain⟨_,_,h,_⟩:=hq2;obtain⟨oa,cp,h2,_⟩:=h;exact⟨_,_,_,h2⟩
       subst e1 e2;have HS:=hid (fun w' (hB:Below wZ.heap.size wZ w')=>same_any (vs:=[vj]) (hq1.below hB) (hq2.below hB));have hs1':=fun w'=>hs1 w' .i64 .i64;have hs2':=fun w'=>hs2 w' .i64 .i64;have HJ:=jd2 hjk hj1;clear hq1 hq2 hoj hvj hjk hj1 hs1 hs2
       go_wp2_with fail
       go_region_held (fun w'=>Below wZ.heap.size wZ w') (first|with_reducible assumption|(solve|(repeat (first|with_reducible exact Below.refl _ _|with_reducible assumption|with_reducible apply Below.drew|with_reducible exact Nat.le_refl _)))) (first|(go_at_call 17;refine(HS.out _ (by assumption)).mono ?_;rintro e w7 ⟨rfl,hb7⟩;have hb7':Below wZ.heap.size wZ w7:=Below.trans (by assumption) (Below.mono hb7 (Below.size (by assumption)));clear hb7))
       go_wp2_with fail
       have HB7:=hid hb7';clear hb7';have hj1:=HJ.out.2
       go_roundw
       case measure=>simp only[intOf];omega
       case rel=>exact⟨j1,by go_num,by omega,hid (hbr.out.trans (HB7.out.mono hbr.out.size))⟩
     ·obtain rfl:j=vn:=by omega
      have hqZ:=(hbr.out.block _ (blk_lt HA.out.2.2.2.2)).trans HA.out.2.2.2.2;have r0:wZ.cell? ⟨w9.heap.size,0,none⟩=some (.int .i64 cd):=by simp[World.cell?,hqZ]
      clear hqZ;rcases HX.out.2.2.2.2.2.1 with⟨h14,hMM⟩|⟨hc0,hnew⟩
      ·subst h14;have hV2:=HA.out.1.below hbr.out;rw[hMM] at hV2;have hVr:=HA.out.2.2.1.below hbr.out;have hSr:=HA.out.2.1.below hbr.out;have HE:=jd3 hV2 hVr hSr;clear hV2 hVr hSr hMM
       go_wp2_with fail
       refine(same_any (vs:=viewsM Ml.all) HE.out.2.1.vr HE.out.1.vr).mono ?_;rintro e wb ⟨rfl,hbb⟩;have HE2:=hid (HE.out.2.2.below hbb);clear hbb
       go_wp2_with fail
       refine(HAW.out _).mono ?_;rintro e wg ⟨rfl,hbg⟩;have hend:=(HE2.out.below hbg).b;clear hbg
       go_wp2_with fail
       go_ret
       exact⟨rfl,hend⟩
      ·subst hc0;obtain⟨bb2,bo2,dv2,sv2,mv2,hia2,hdo2,hrow2⟩:=(HA.out.2.2.1.below hbr.out).row k HX.out.1;obtain⟨ga,gc,rfl⟩:=ownB_k (n:=P) hdo2 (by rw[HX.out.2.2.1,HNM.out.2.2.2.2.1]);have hk2:k<(viewsM M'.all).length:=by rw[HA.out.2.2.2.1];exact hkn
       obtain⟨bb3,bo3,dv3,sv3,mv3,hia3,hdo3,hrow3⟩:=(HA.out.1.below hbr.out).row k hk2;have hnew3:(viewsM M'.all)[k].data=splice (viewsM Ml.all)[k].data (16*a) (bs.take N):=by
        have e1:(viewsM M'.all)[k]=viewN M'.all nm:=by
         have h1:(viewsM M'.all)[k]? = some (viewN M'.all nm):=by unfold viewsM;rw[HX.out.2.2.2.1,List.getElem?_map,HX.out.2.2.2.2.2.2.1];rfl
         rw[List.getElem?_eq_getElem hk2] at h1;exact Option.some.inj h1
        rw[e1,hnew,HX.out.2.1]
       obtain⟨old,hold⟩:∃ old,old=(viewsM Ml.all)[k].data:=⟨_,rfl⟩
       obtain⟨D,hDD⟩:∃ D,D=bs.take N:=⟨_,rfl⟩
       rw[<-hold,<-hDD] at hnew3;have holdl:old.length=P:=by rw[hold,HX.out.2.2.1,HNM.out.2.2.2.2.1]
       have hDl:D.length=N:=by rw[hDD,HX.out.2.2.2.2.2.2.2.2,HNM.out.2.2.1]
       have hPb:P<=65536:=by have:=HNM.out.2.2.2.2;omega
       have hroom:16*a+N<=P:=by have:=HNM.out;omega
       have d3:wZ.cell? ⟨bb2,bo2+3,none⟩=some (.slice ga P gc):=hrow2 wZ (Below.refl _ _) 3 _ rfl;have hxo:SlB wZ wZ.heap.size (.slice ga P gc) old:=by rw[hold];exact hdo2.slB
       rw[hnew3] at hdo3;have HG:=jd7 hdo3 hrow3 (HA.out.2.1.below hbr.out) holdl hDl hroom hPb;have hxo2:SlB (wZ.alloc (.cells #[] 5)) wZ.heap.size (.slice ga P gc) old:=hxo.below ((Below.refl _ _).alloc (Nat.le_refl _) _) (Nat.le_refl _);have d3':(wZ.alloc (.cells #[] 5)).cell? ⟨bb2,bo2+3,none⟩=some (.slice ga P gc):=hrow2 _ ((Below.refl _ _).alloc (Nat.le_refl _) _) 3 _ rfl;have HDD:=hid hDD;have hlo:([]:List UInt8).length+old.length<=140737488355328:=by simp;omega
       have hsz2:wZ.heap.size<=(wZ.alloc (.cells #[] 5)).heap.size:=by simp
       have how:=own_empty wZ 5;clear hnew hnew3 hold hDD holdl hDl hroom hxo hdo2 hdo3 hrow2 hrow3
       go_wp2_with (at_builtin;refine append_sl _ rfl _ _ 23 5 rfl underlying23 info5 wZ.heap.size _ [] rfl how _ old wZ.heap.size rfl hxo2 hlo hsz2 ?_;intro v4 w4 ho4 hb4)
       have hsl4:∃ wa wc,v4 = .slice wa P wc:=by
        have:=HG.out.2.2.2.1;obtain⟨a',c',h⟩:=ownB_k (n:=P) ho4 (by simpa using this);exact⟨_,_,h⟩
       obtain⟨wa,wcc,rfl⟩:=hsl4;have hln:∀ w',(Builtin.len_ #[23] 3 #[.slice ba N bc]).run prog w' = .ok (.int .i64 N) w':=fun w'=>len_sl underlying23 rfl w';have hb04:Below wZ.heap.size wZ w4:=((Below.refl _ _).alloc (Nat.le_refl _) _).trans hb4;have ho4':OwnB w4 wZ.heap.size 5 (.slice wa P wcc) (splice old (16*a) (D.take 0)):=by
        have e:splice old (16*a) (D.take 0)=[]++old:=by unfold splice;simp
        rw[e];exact ho4
       obtain⟨A,hA0⟩:∃ A,A=16*a:=⟨_,rfl⟩
       rw[<-hA0] at ho4' HG;have hmA:IntKind.i64.wrap (16*(a:Int))=(A:Int):=by rw[IntWalk.i64_in _ (by have:=HG.out.2.2.2.2.2;omega)];omega
       have HO:=jd2 ho4' hb04;have HA0:=hid hA0;clear ho4 ho4' hb4 hb04 how hxo2 hA0
       go_loopw [19] (fun s19 wr=>∃ i:Nat,s19 = .int .i64 i/\i<=N/\Hid (OwnB wr wZ.heap.size 5 (.slice wa P wcc) (splice old A (D.take i))/\Below wZ.heap.size wZ wr)) (fun s19 _=>N-(intOf s19).toNat)
       case atStart=>exact⟨0,rfl,Nat.zero_le _,hid ⟨HO.out.1,HO.out.2⟩⟩
       case round =>
        obtain⟨i,rfl,hi,hRi⟩:=hrel;obtain⟨wQ,hwQ⟩:∃ q,q=wr:=⟨_,rfl⟩
        subst hwQ;by_cases hin:i<N
        ·obtain⟨gq,rfl⟩:∃ gq,wa=some ⟨gq,0,none⟩:=by
          rcases hRi.out.1.shape with⟨h,_⟩|⟨g,c,h,_⟩
          ·cases h;have:=HG.out.2.2.2.2.2;omega
          ·cases h;exact⟨_,rfl⟩
         have hAi:A+i<P:=by have:=HG.out.2.2.2.2.2;omega
         obtain⟨T,hT⟩:∃ T,T=A+i:=⟨_,rfl⟩
         have hwT:IntKind.i64.wrap ((A:Int)+(i:Int))=(T:Int):=by rw[IntWalk.i64_in _ (by have:=HG.out.2.2.2.2.2;omega)];omega
         have hTP:T<P:=by omega
         obtain⟨db,dbo,hdb,hidx,hdc⟩:=HX.out.2.2.2.2.2.2.2.1.addr (P:=prog) (t:=23) underlying23 size5' i (by rw[HX.out.2.2.2.2.2.2.2.2,<-HNM.out.2.2.1];exact hin);obtain⟨ch,hch⟩:∃ ch,ch=(bs.take N).getD i 0:=⟨_,rfl⟩
         rw[<-hch] at hdc;have hWQ:Below W.heap.size W wQ:=(HG.out.2.2.1.b).trans (hRi.out.2.mono HG.out.2.2.1.b.size);have hdQ:wQ.cell? ⟨db,dbo,none⟩=some (Mx.u8 ch):=(hWQ.cell (p:=⟨db,dbo,none⟩) hdb).trans hdc;have hfz:=hRi.out.1.fz T;have hcT:=hRi.out.1.cellAt T (by rw[splice_len (by rw[List.length_take];have:=HG.out.2.2.2;omega)];have:=HG.out.2.2.2.1;omega);have hst:=(hRi.out.1.store T ch).resolve_right (by rw[splice_len (by rw[List.length_take];have:=HG.out.2.2.2;omega)];have:=HG.out.2.2.2.1;omega);have hgq:wZ.heap.size<=gq:=by
          rcases hRi.out.1.shape with⟨h,_⟩|⟨g,c,h,h1,_⟩
          ·cases h
          ·cases h;exact h1
         have hst2:(splice old A (D.take i)).set T ch=splice old A (D.take (i+1)):=by
          rw[hT];refine splice_succ ?_ (by have:=HG.out.2.2.2;omega);have:=HG.out.2.2.2.2.1;rw[hch,List.getD_eq_getElem?_getD,<-HDD.out,List.getElem?_eq_getElem (by omega)];rfl
         rw[hst2] at hst;have hbQ:=hRi.out.2.setCell (p:=⟨gq,T,none⟩) hgq (Mx.u8 ch);have HQ:=jd2 hst hbQ;have HTT:=hid hT;clear hst hst2 hbQ hdc hch hWQ hT hRi
         go_wp2_with fail
         go_roundw
         case measure=>simp only[intOf];omega
         case rel=>exact⟨i+1,by go_num,by omega,hid ⟨HQ.out.1,HQ.out.2⟩⟩
        ·obtain rfl:i=N:=by omega
         have hfin:splice old A (D.take i)=splice old A D:=by rw[List.take_of_length_le (by have:=HG.out.2.2.2.2.1;omega)]
         have hoF:=hRi.out.1;rw[hfin] at hoF;obtain⟨FF,hFF⟩:∃ FF,FF=splice old A D:=⟨_,rfl⟩
         rw[<-hFF] at hoF HG;have c3:∀ w',Below wQ.heap.size wQ w'->w'.cell? ⟨bb3,bo3+3,none⟩=some dv3:=fun w' hB=>HG.out.2.1 w' (hRi.out.2.trans (hB.mono hRi.out.2.size)) 3 _ rfl;have cv1:∀ w',Below wQ.heap.size wQ w'->(convert 23 9 dv3).run prog w' = .ok (str FF) w':=fun w' hB=>conv_sl underlying23 underlying5 underlying9 ((HG.out.1.slB.below hRi.out.2 (Nat.le_refl _)).below (hB.mono hRi.out.2.size) (Nat.le_refl _));have cv2:∀ w',Below wQ.heap.size wQ w'->(convert 23 9 (.slice wa P wcc)).run prog w' = .ok (str FF) w':=fun w' hB=>conv_sl underlying23 underlying5 underlying9 (hoF.slB.below hB (Nat.le_refl _));have HE:=hid (HG.out.2.2.1.below hRi.out.2);obtain⟨la,ln,lc,rfl⟩:=ownB_sh HG.out.1;have HAW2:=hid (fun w' (hB:Below wQ.heap.size wQ w')=>HAW.out w');clear hoF hRi hfin hFF;go_upto_region 29 with(fail)
         go_region_held (fun w'=>Below wQ.heap.size wQ w') (first|with_reducible assumption|(solve|(repeat (first|with_reducible exact Below.refl _ _|with_reducible assumption|with_reducible apply Below.drew|with_reducible exact Nat.le_refl _)))) (first|(go_at_call 12;refine(HAW2.out _ (by assumption)).mono ?_;rintro e w7 ⟨rfl,hb7⟩;have hb7':Below wQ.heap.size wQ w7:=Below.trans (by assumption) (Below.mono hb7 (Below.size (by assumption)));clear hb7))
         have hend:=(HE.out.below hb7').b
         go_wp2_with fail
         go_ret
         exact⟨rfl,hend⟩
  ·refine(HAW.out _).mono ?_;rintro e w2 ⟨rfl,hb2⟩;have hb12:=HB1.out.trans (hb2.mono HB1.out.size)
   go_wp2_with fail
   go_ret
   exact⟨rfl,hb12⟩
theorem u8_of {a:Int}(h:0<=a/\a<=255):∃ x:UInt8,a=x.toNat:=by
 obtain⟨m,rfl⟩:=Int.eq_ofNat_of_zero_le h.1;exact⟨UInt8.ofNat m,by rw[UInt8.toNat_ofNat'];omega⟩
theorem writes_law (gs:List (Cm×Value))(v:Value)(a b:Int)(bs:Bs)(bv:Value)(W:World)(hs:SlC W v gs)(hw:∀ g∈gs,(Lit.int .i64 g.1.kind).wf=true)(ha:0<=a/\a<=255)(hb:0<=b/\b<=255)(hd:SlB W W.heap.size bv bs) :
  Calls prog 7 #[v,.int .u8 a,.int .u8 b,bv] W fun e w'=>e = .returned (.bool true)/\Below W.heap.size W w':=by
 obtain⟨x,rfl⟩:=u8_of ha;obtain⟨y,rfl⟩:=u8_of hb;obtain⟨da,dn,dc,rfl⟩:=slB_shape hd;exact wrlaw_any hs hw hd
end Go.Proofs.YtgkabcaodnofnaaGreat
