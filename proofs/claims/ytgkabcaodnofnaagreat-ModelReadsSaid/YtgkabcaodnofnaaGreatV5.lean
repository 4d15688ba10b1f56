import Derived.Test.YtgkabcaodnofnaaGreatVA
import Derived.Test.YtgkabcaodnofnaaGreatVL
set_option linter.unusedSimpArgs false
set_option linter.unusedVariables false
set_option maxRecDepth 100000
set_option maxHeartbeats 3000000
open Go.Proofs.Tryz
namespace Go.Proofs.YtgkabcaodnofnaaGreat
open Go.RowKit Go.Mx Go.Md
theorem reads_any {W:World}{v:Value}{gs:List (Cm×Value)}{a k:Int}(hs:SlC W v gs)(hw:∀ g∈gs,(Lit.int .i64 g.1.kind).wf=true)(ha : -9223372036854775808<=a/\a<=9223372036854775807)(hk : -9223372036854775808<=k/\k<=9223372036854775807) :
  Calls prog 5 #[v,.int .i64 a,.int .i64 k] W fun e w'=>e = .returned (.bool true)/\Below W.heap.size W w':=by
 have HH:=hid (heavy_any hs);have H:=jd2 hs hw;have HK:=jd2 ha hk;have hq:∀ mb (w':World),(binOp .eql 28 (pt mb) (.pointer none)).run prog w' = .ok (.bool false) w':=fun mb w'=>by simp[go_sem]
 have HAW:=hid awake_any;clear hs hw ha hk;go_enter func5,ntmps5
 go_wp2_with (go_at_call 11;refine HH.out.mono ?_;rintro e w1 ⟨b1,rfl,hf1,hb1⟩;have HF1:=hid hf1;have HB1:=hid hb1;clear hf1 hb1;cases b1)
 ·refine(led_any (w0:=W) (base:=W.heap.size) H.out.1 HB1.out (HF1.out (by first|rfl|trivial)) H.out.2 (Nat.le_refl _)).mono ?_;rintro e w2 ⟨mb,X,rfl,hS⟩;obtain⟨Ml,hMl⟩:∃ q,q=ledF M0 (gs.map (·.1)):=⟨_,rfl⟩
  rw[<-hMl] at hS;have HS:=hid hS;clear hS hMl
  go_wp2_with fail
  refine HS.out.views.mono ?_;rintro e w3 ⟨v1,rfl,hV,hb3⟩;have hS3:=HS.out.below hb3;obtain⟨va,vc,rfl⟩:=hV.len;obtain⟨vn,hvn⟩:∃ q,q=(viewsM Ml.all).length:=⟨_,rfl⟩
  have hvn16:vn<=16:=by rw[hvn];exact views_len16 hS3
  rw[<-hvn] at hV ⊢;have hlv:∀ w',(Builtin.len_ #[38] 3 #[.slice va vn vc]).run prog w' = .ok (.int .i64 vn) w':=fun w'=>len_sl underlying38 rfl w';have HV:=jd3 hV hS3 hvn;clear hV hS3 hvn hb3;go_upto_region 8 with(fail)
  go_loopw [9] (fun s9 wr=>∃ i:Nat,s9 = .int .i64 i/\i<=vn/\Hid ((∃ X,Stt W wr W.heap.size mb Ml X)/\VS wr w2.heap.size W.heap.size (.slice va vn vc) (viewsM Ml.all))) (fun s9 _=>vn-(intOf s9).toNat)
  case atStart=>exact⟨0,rfl,Nat.zero_le _,hid ⟨⟨X,HV.out.2.1⟩,HV.out.1⟩⟩
  case round =>
   obtain⟨i,rfl,hi,hR⟩:=hrel;obtain⟨wJ,hwJ⟩:∃ q,q=wr:=⟨_,rfl⟩
   subst hwJ;obtain⟨⟨X3,hS⟩,hVJ⟩:=hR.out;by_cases hlt:i<vn
   ·have hi':i<(viewsM Ml.all).length:=by rw[<-HV.out.2.2];exact hlt
    obtain⟨nm,im,hn,hf,hve,hvn⟩:=views_at hi';obtain⟨bb,bo,dv,sv,mv,hia,hdo,hrow⟩:=hVJ.row i hi';rw[hvn] at hrow;have d0:wJ.cell? ⟨bb,bo,none⟩=some (str nm):=by have:=hrow wJ (Below.refl _ _) 0 _ rfl;simpa using this
    have hD:=hS.step ⟨3,nm,[],a,k,0,[]⟩ nilS (SlB.nil _ _) ⟨name100 hS hf,by simp,by simp⟩ (show(Lit.int .i64 3).wf=true by decide);rw[doM_read hf] at hD;have hz:im.size<=4096:=(hS.oks nm im hf).size;have hdl:(viewsM Ml.all)[i].data.length=16*im.size:=by rw[hve];exact view_len hS.oks hf
    obtain⟨z,hz'⟩:∃ z,z=im.size:=⟨_,rfl⟩
    rw[<-hz'] at hD hz hdl;have HX:=jd6 hS hVJ hf hve hz' hdl;clear hn hve hvn hdo hrow hS hVJ hz' hdl;by_cases hwi:withinI z a k=true
    ·rw[if_pos hwi] at hD;have HD:=hid (show Calls prog 14 #[pt mb,.agg #[.int .i64 3,str nm,.string ⟨#[]⟩,.int .i64 a,.int .i64 k,.int .i64 0,.slice none 0 0]] wJ _ from hD);have hw4:0<=a/\0<=k/\a<=(z:Int)/\k<=(z:Int)-a:=by unfold withinI at hwi;simp at hwi;omega
     obtain⟨A,rfl⟩:=Int.eq_ofNat_of_zero_le hw4.1;obtain⟨K,rfl⟩:=Int.eq_ofNat_of_zero_le hw4.2.1;have hAK:A+K<=z:=by omega
     clear hD hf hw4 hwi;go_upto_region 11 with(go_at_call 14;refine HD.out.mono ?_;rintro e w9 ⟨r9,lv9,X9,rfl,hrep,⟨frl,hfo,hfl⟩,hS9,hst9⟩;obtain⟨dv9,nv9,sv9,rfl,ho1,ho2,ho3⟩:=hrep.ex;obtain⟨pa,pn,pc,rfl⟩:=ownB_sh ho1;obtain⟨qa,qn,qc,rfl⟩:=ownG_sh ho2;obtain⟨ta,tn,tc,rfl⟩:=ownG_sh ho3;obtain⟨ua,uc,rfl⟩:=ownG_k hfo (frl0 hfl);have H9:=jd3 hS9 hst9 ho1;clear hS9 hst9 hrep ho1 ho2 ho3 hfo hfl)
     obtain⟨wR,hwR⟩:∃ z,z=w9.alloc (.cells #[.int .i64 0,.slice pa pn pc,.slice qa qn qc,.slice ta tn tc,.int .i64 0,.int .i64 0] 34):=⟨_,rfl⟩
     change Code.wp _ _ _ _ (w9.alloc (.cells #[.int .i64 0,.slice pa pn pc,.slice qa qn qc,.slice ta tn tc,.int .i64 0,.int .i64 0] 34));rw[<-hwR];have hbR:Below w9.heap.size w9 wR:=by rw[hwR];exact(Below.refl _ _).alloc (Nat.le_refl _) _
     have hqR:wR.heap[w9.heap.size]? = some (.cells #[.int .i64 0,.slice pa pn pc,.slice qa qn qc,.slice ta tn tc,.int .i64 0,.int .i64 0] 34 (0,0)):=by rw[hwR];exact alloc_new w9 _
     have hqW:∀ w',Below wR.heap.size wR w'->w'.heap[w9.heap.size]? = some (.cells #[.int .i64 0,.slice pa pn pc,.slice qa qn qc,.slice ta tn tc,.int .i64 0,.int .i64 0] 34 (0,0)):=fun w' hB=>(hB.block _ (blk_lt hqR)).trans hqR;have e0:∀ w',Below wR.heap.size wR w'->w'.cell? ⟨w9.heap.size,0,none⟩=some (.int .i64 0):=fun w' hB=>by simp[World.cell?,hqW w' hB]
     have e1:∀ w',Below wR.heap.size wR w'->w'.cell? ⟨w9.heap.size,1,none⟩=some (.slice pa pn pc):=fun w' hB=>by simp[World.cell?,hqW w' hB]
     have hSR:=H9.out.1.below hbR;have hVR:=(HX.out.2.1.stp HX.out.1.mo H9.out.2.1).below hbR;obtain⟨b2,o2,dv2,sv2,mv2,hia2,hdo2,hrow2⟩:=hVR.row i hi';obtain⟨P,hP⟩:∃ P,P=16*z:=⟨_,rfl⟩
     obtain⟨ea,ec,rfl⟩:=ownB_k (n:=P) hdo2 (by rw[hP];exact HX.out.2.2.2.2.2);have d3:∀ w',Below wR.heap.size wR w'->w'.cell? ⟨b2,o2+3,none⟩=some (.slice ea P ec):=fun w' hB=>hrow2 w' hB 3 _ rfl;have d3R:=d3 wR (Below.refl _ _);have e0R:=e0 wR (Below.refl _ _);have e1R:=e1 wR (Below.refl _ _);have hlP:∀ w',(Builtin.len_ #[23] 3 #[.slice ea P ec]).run prog w' = .ok (.int .i64 P) w':=fun w'=>len_sl underlying23 rfl w';have hlu:∀ w',(Builtin.len_ #[35] 3 #[.slice ua 0 uc]).run prog w' = .ok (.int .i64 0) w':=fun w'=>len_sl underlying35 rfl w';have hq1:Int.tdiv (P:Int) 16=(z:Int):=by rw[hP,show((16*z:Nat):Int)=(z:Int)*16 by omega];exact Int.mul_tdiv_cancel _ (by decide)
     have hq2:IntKind.i64.wrap (z:Int)=(z:Int):=IntWalk.i64_in _ (by omega);clear hia d0;obtain⟨S,hS0⟩:∃ S,S=A+K:=⟨_,rfl⟩
     obtain⟨XX,hXX⟩:∃ q,q=16*A:=⟨_,rfl⟩
     obtain⟨YY,hYY⟩:∃ q,q=16*S:=⟨_,rfl⟩
     have hsub:IntKind.i64.wrap ((z:Int)-(A:Int))=(z:Int)-(A:Int):=IntWalk.i64_in _ (by omega);have hadd:IntKind.i64.wrap ((A:Int)+(K:Int))=(S:Int):=by rw[IntWalk.i64_in _ (by omega)];omega
     have hm1:IntKind.i64.wrap (16*(A:Int))=(XX:Int):=by rw[IntWalk.i64_in _ (by omega)];omega
     have hm2:IntKind.i64.wrap (16*(S:Int))=(YY:Int):=by rw[IntWalk.i64_in _ (by omega)];omega
     have l1:decide ((A:Int)<0)=false:=by simp
     have l2:decide ((K:Int)<0)=false:=by simp
     have l3:decide ((z:Int)<(A:Int))=false:=by simp;omega
     have l3':A<=z:=by omega
     have l3'':¬ z<A:=by omega
     have l4:decide ((z:Int)-(A:Int)<(K:Int))=false:=by simp;omega
     obtain⟨D,hDD⟩:∃ D,D=secs (secIn Ml.all 8 im z im.own) A K:=⟨_,rfl⟩
     have ho1:OwnB w9 wJ.heap.size 5 (.slice pa pn pc) D:=by have:=H9.out.2.2;rw[Int.toNat_natCast,Int.toNat_natCast] at this;rw[hDD];exact this
     have hcv1:∀ w',Below wR.heap.size wR w'->(convert 23 9 (.slice pa pn pc)).run prog w' = .ok (str D) w':=fun w' hB=>conv_sl underlying23 underlying5 underlying9 ((ho1.slB.below hbR (Nat.le_refl _)).below (hB.mono hbR.size) (Nat.le_refl _));obtain⟨v6,hv6,hs6⟩:=hdo2.slB.part (P:=prog) (t:=23) underlying23 size5' XX YY (by omega) (by rw[HX.out.2.2.2.2.2];omega);have hD6:(((viewsM Ml.all)[i].data.take YY).drop XX)=D:=by
      rw[hDD,HX.out.2.2.2.2.1,HX.out.2.2.2.1,read_data HX.out.1.oks HX.out.2.2.1 (by rw[<-HX.out.2.2.2.2.1];exact hAK),List.drop_take,hXX,show YY-16*A=16*K by omega]
     rw[hD6] at hv6;obtain⟨fa,fn,fc,rfl⟩:=slB_shape hv6;have hcv2:∀ w',Below wR.heap.size wR w'->(convert 23 9 (.slice fa fn fc)).run prog w' = .ok (str D) w':=fun w' hB=>conv_sl underlying23 underlying5 underlying9 (hv6.below hB (Nat.le_refl _));have hc1:=fun q=>hcv1 (wR.drewN q) (bel_drewN (Below.refl _ _) q);have hc2:=fun q=>hcv2 (wR.drewN q) (bel_drewN (Below.refl _ _) q);have HF:=jd2 hSR hVR;clear hwR hbR hqR hqW hSR hVR hdo2 hrow2 hP ho1 hcv1 hv6 hD6 hcv2 hDD hS0 hXX hYY hAK
     go_wp2_with fail
     go_quiet (fail)
     rename_i nq;have hbq:=bel_drewN (Below.refl wR.heap.size wR) nq;have HFQ:=jd2 (HF.out.1.below hbq) (HF.out.2.below hbq);clear hbq
     go_wp2_with fail
     go_roundw
     case measure=>simp only[intOf];omega
     case rel=>exact⟨i+1,by go_num,by omega,hid ⟨⟨X9,HFQ.out.1⟩,HFQ.out.2⟩⟩
    ·rw[if_neg hwi] at hD;have HD:=hid (show Calls prog 14 #[pt mb,.agg #[.int .i64 3,str nm,.string ⟨#[]⟩,.int .i64 a,.int .i64 k,.int .i64 0,.slice none 0 0]] wJ _ from hD);have hw4:a<0\/(0<=a/\k<0)\/(0<=a/\0<=k/\(z:Int)<a)\/(0<=a/\0<=k/\a<=(z:Int)/\(z:Int)-a<k):=by unfold withinI at hwi;simp at hwi;omega
     clear hD hf hwi;go_upto_region 11 with(go_at_call 14;refine HD.out.mono ?_;rintro e w9 ⟨r9,lv9,X9,rfl,hrep,⟨frl,hfo,hfl⟩,hS9,hst9⟩;obtain⟨dv9,nv9,sv9,rfl,ho1,ho2,ho3⟩:=hrep.ex;obtain⟨pa,pc,rfl⟩:=ownB_k (n:=0) ho1 rfl;obtain⟨qa,qn,qc,rfl⟩:=ownG_sh ho2;obtain⟨ta,tn,tc,rfl⟩:=ownG_sh ho3;obtain⟨ua,uc,rfl⟩:=ownG_k hfo (frl0 hfl);have H9:=jd3 hS9 hst9 ho1;clear hS9 hst9 hrep ho1 ho2 ho3 hfo hfl)
     obtain⟨wR,hwR⟩:∃ z,z=w9.alloc (.cells #[.int .i64 6,.slice pa 0 pc,.slice qa qn qc,.slice ta tn tc,.int .i64 0,.int .i64 0] 34):=⟨_,rfl⟩
     change Code.wp _ _ _ _ (w9.alloc (.cells #[.int .i64 6,.slice pa 0 pc,.slice qa qn qc,.slice ta tn tc,.int .i64 0,.int .i64 0] 34));rw[<-hwR];have hbR:Below w9.heap.size w9 wR:=by rw[hwR];exact(Below.refl _ _).alloc (Nat.le_refl _) _
     have hqR:wR.heap[w9.heap.size]? = some (.cells #[.int .i64 6,.slice pa 0 pc,.slice qa qn qc,.slice ta tn tc,.int .i64 0,.int .i64 0] 34 (0,0)):=by rw[hwR];exact alloc_new w9 _
     have hqW:∀ w',Below wR.heap.size wR w'->w'.heap[w9.heap.size]? = some (.cells #[.int .i64 6,.slice pa 0 pc,.slice qa qn qc,.slice ta tn tc,.int .i64 0,.int .i64 0] 34 (0,0)):=fun w' hB=>(hB.block _ (blk_lt hqR)).trans hqR;have e0:∀ w',Below wR.heap.size wR w'->w'.cell? ⟨w9.heap.size,0,none⟩=some (.int .i64 6):=fun w' hB=>by simp[World.cell?,hqW w' hB]
     have e1:∀ w',Below wR.heap.size wR w'->w'.cell? ⟨w9.heap.size,1,none⟩=some (.slice pa 0 pc):=fun w' hB=>by simp[World.cell?,hqW w' hB]
     have hSR:=H9.out.1.below hbR;have hVR:=(HX.out.2.1.stp HX.out.1.mo H9.out.2.1).below hbR;obtain⟨b2,o2,dv2,sv2,mv2,hia2,hdo2,hrow2⟩:=hVR.row i hi';obtain⟨P,hP⟩:∃ P,P=16*z:=⟨_,rfl⟩
     obtain⟨ea,ec,rfl⟩:=ownB_k (n:=P) hdo2 (by rw[hP];exact HX.out.2.2.2.2.2);have d3:∀ w',Below wR.heap.size wR w'->w'.cell? ⟨b2,o2+3,none⟩=some (.slice ea P ec):=fun w' hB=>hrow2 w' hB 3 _ rfl;have d3R:=d3 wR (Below.refl _ _);have e0R:=e0 wR (Below.refl _ _);have e1R:=e1 wR (Below.refl _ _);have hlP:∀ w',(Builtin.len_ #[23] 3 #[.slice ea P ec]).run prog w' = .ok (.int .i64 P) w':=fun w'=>len_sl underlying23 rfl w';have hlu:∀ w',(Builtin.len_ #[35] 3 #[.slice ua 0 uc]).run prog w' = .ok (.int .i64 0) w':=fun w'=>len_sl underlying35 rfl w';have hq1:Int.tdiv (P:Int) 16=(z:Int):=by rw[hP,show((16*z:Nat):Int)=(z:Int)*16 by omega];exact Int.mul_tdiv_cancel _ (by decide)
     have hq2:IntKind.i64.wrap (z:Int)=(z:Int):=IntWalk.i64_in _ (by omega);clear hia d0;have hlp:∀ w',(Builtin.len_ #[23] 3 #[.slice pa 0 pc]).run prog w' = .ok (.int .i64 0) w':=fun w'=>len_sl underlying23 rfl w';have HF:=jd2 hSR hVR;clear hwR hbR hqR hqW hSR hVR hdo2 hrow2 hP;rcases hw4 with h|⟨h1,h2⟩|⟨h1,h2,h3⟩|⟨h1,h2,h3,h4⟩
     ·have l1:decide (a<0)=true:=by simpa using h
      go_wp2_with fail
      go_roundw
      case measure=>simp only[intOf];omega
      case rel=>exact⟨i+1,by go_num,by omega,hid ⟨⟨X9,HF.out.1⟩,HF.out.2⟩⟩
     ·have l1:decide (a<0)=false:=by simpa using h1
      have l2:decide (k<0)=true:=by simpa using h2
      go_wp2_with fail
      go_roundw
      case measure=>simp only[intOf];omega
      case rel=>exact⟨i+1,by go_num,by omega,hid ⟨⟨X9,HF.out.1⟩,HF.out.2⟩⟩
     ·have l1:decide (a<0)=false:=by simpa using h1
      have l2:decide (k<0)=false:=by simpa using h2
      have l3:decide ((z:Int)<a)=true:=by simpa using h3
      go_wp2_with fail
      go_roundw
      case measure=>simp only[intOf];omega
      case rel=>exact⟨i+1,by go_num,by omega,hid ⟨⟨X9,HF.out.1⟩,HF.out.2⟩⟩
     ·have l1:decide (a<0)=false:=by simpa using h1
      have l2:decide (k<0)=false:=by simpa using h2
      have l3:decide ((z:Int)<a)=false:=by simpa using h3
      have hsub:IntKind.i64.wrap ((z:Int)-a)=(z:Int)-a:=IntWalk.i64_in _ (by omega);have l4:decide ((z:Int)-a<k)=true:=by simpa using h4
      go_wp2_with fail
      go_roundw
      case measure=>simp only[intOf];omega
      case rel=>exact⟨i+1,by go_num,by omega,hid ⟨⟨X9,HF.out.1⟩,HF.out.2⟩⟩
   ·obtain rfl:i=vn:=by omega
    have HE:=jd2 hS hVJ;clear hS hVJ
    go_wp2_with fail
    refine HE.out.1.views.mono ?_;rintro e wa ⟨v4,rfl,hV4,hba⟩;have HA1:=jd3 hV4 (HE.out.2.below hba) (HE.out.1.below hba);clear hV4 hba
    go_wp2_with fail
    refine(same_any (vs:=viewsM Ml.all) HA1.out.1.vr HA1.out.2.1.vr).mono ?_;rintro e wb ⟨rfl,hbb⟩;have HA2:=hid (HA1.out.2.2.below hbb);clear hbb
    go_wp2_with fail
    refine(HAW.out _).mono ?_;rintro e wg ⟨rfl,hbg⟩;have hend:=(HA2.out.below hbg).b;clear hbg
    go_wp2_with fail
    go_ret
    exact⟨rfl,hend⟩
 ·refine(HAW.out _).mono ?_;rintro e w2 ⟨rfl,hb2⟩;have hb12:=HB1.out.trans (hb2.mono HB1.out.size)
  go_wp2_with fail
  go_ret
  exact⟨rfl,hb12⟩
theorem reads_law (gs:List (Cm×Value))(v:Value)(a k:Int)(W:World)(hs:SlC W v gs)(hw:∀ g∈gs,(Lit.int .i64 g.1.kind).wf=true)(ha : -9223372036854775808<=a/\a<=9223372036854775807)(hk : -9223372036854775808<=k/\k<=9223372036854775807) :
 Calls prog 5 #[v,.int .i64 a,.int .i64 k] W fun e w'=>e = .returned (.bool true)/\Below W.heap.size W w':=reads_any hs hw ha hk
end Go.Proofs.YtgkabcaodnofnaaGreat
