import Derived.Test.YtgkabcaodnofnaaGreatB45
set_option linter.unusedSimpArgs false
set_option linter.unusedVariables false
set_option maxRecDepth 100000
set_option maxHeartbeats 3000000
open Go.Proofs.Tryz
namespace Go.Proofs.YtgkabcaodnofnaaGreat
open Go.RowKit Go.Mx Go.Md
set_option linter.unusedVariables false
set_option linter.unusedSimpArgs false
theorem flushes_any {W:World}{v:Value}{gs:List (Cm×Value)}(hs:SlC W v gs)(hw:∀ g∈gs,(Lit.int .i64 g.1.kind).wf=true) :
  Calls prog 4 #[v] W fun e w'=>e = .returned (.bool true)/\Below W.heap.size W w':=by
 have HH:=hid (heavy_any hs);have hla:=fun w'=>hs.o.len (P:=prog) (t:=22) (ty:=3) underlying22 w';obtain⟨n,hn⟩:∃ n,n=gs.length:=⟨_,rfl⟩
 rw[List.length_map,<-hn] at hla;have H:=jd3 hs hw hn;have hq:∀ mb (w':World),(binOp .eql 28 (pt mb) (.pointer none)).run prog w' = .ok (.bool false) w':=fun mb w'=>by simp[go_sem]
 have HAW:=hid awake_any;clear hs hw hn;go_enter func4,ntmps4
 go_wp2_with (go_at_call 11;refine HH.out.mono ?_;rintro e w1 ⟨b1,rfl,hf1,hb1⟩;have HF1:=hid hf1;have HB1:=hid hb1;clear hf1 hb1;cases b1)
 ·have hfa:=HF1.out (by first|rfl|trivial);have hn80:n<=80:=by rw[H.out.2.2];exact hfa.1
  have HN:=hid (stt_new W w1 W.heap.size HB1.out (Nat.le_refl _));have HFA:=hid hfa;clear hfa;refine HN.out.mono ?_;rintro e w2 ⟨mb,X1,rfl,hS1⟩;have HS1:=hid hS1;clear hS1;go_upto_region 7 with(fail)
  go_loopw [4] (fun s4 wr=>∃ i:Nat,s4 = .int .i64 i/\i<=n/\Hid (∃ X,Stt W wr W.heap.size mb (ledF M0 ((gs.take i).map (·.1))) X)) (fun s4 _=>n-(intOf s4).toNat)
  case atStart=>exact⟨0,rfl,Nat.zero_le _,hid ⟨X1,HS1.out⟩⟩
  case round =>
   obtain⟨i,rfl,hi,hR⟩:=hrel;obtain⟨wO,hwO⟩:∃ q,q=wr:=⟨_,rfl⟩
   subst hwO;obtain⟨X2,hS⟩:=hR.out;by_cases hlt:i<n
   ·have hig:i<gs.length:=by rw[<-H.out.2.2];exact hlt
    obtain⟨g,hg⟩:∃ g,g=gs[i]:=⟨_,rfl⟩
    have hgm:g∈gs:=by rw[hg];exact List.getElem_mem _
    have hgi:gs[i]? = some g:=by rw[List.getElem?_eq_getElem hig,hg]
    obtain⟨bb,bo,hia,hrow⟩:=slG_addrs H.out.1.o (t:=22) underlying22 size25 i (by rw[List.length_map];exact hig);rw[show(gs.map crow).getD i []=crow g by rw[List.getD_eq_getElem?_getD,List.getElem?_map,hgi];rfl] at hrow;obtain⟨da,dn,dc,hdv⟩:=slB_shape (H.out.1.d g hgm);have hds:=H.out.1.d g hgm;rw[hdv] at hds;have r0:wO.cell? ⟨bb,bo,none⟩=some (.int .i64 g.1.kind):=by have:=hrow wO hS.b 0 _ rfl;simpa using this
    have r1:wO.cell? ⟨bb,bo+1,none⟩=some (str g.1.name):=hrow wO hS.b 1 _ rfl;have r2:wO.cell? ⟨bb,bo+2,none⟩=some (str g.1.tt):=hrow wO hS.b 2 _ rfl;have r3:wO.cell? ⟨bb,bo+3,none⟩=some (.int .i64 g.1.a):=hrow wO hS.b 3 _ rfl;have r4:wO.cell? ⟨bb,bo+4,none⟩=some (.int .i64 g.1.n):=hrow wO hS.b 4 _ rfl;have r5:wO.cell? ⟨bb,bo+5,none⟩=some (.int .i64 g.1.m):=hrow wO hS.b 5 _ rfl;have r6:wO.cell? ⟨bb,bo+6,none⟩=some (.slice da dn dc):=hrow wO hS.b 6 _ (by simp[hdv]);have HD:=hid (hS.step g.1 (.slice da dn dc) hds (HFA.out.2 g hgm) (H.out.2.1 g hgm));have HG:=hid hgi;clear hig hg hgm hgi hrow hdv hds hS
    go_wp2_with (go_at_call 14;refine HD.out.mono ?_;rintro e w5 ⟨r5v,lv5,X5,rfl,_,_,hS5,_⟩;have HS5:=hid hS5;clear hS5)
    go_roundw
    case measure=>simp only[intOf];omega
    case rel=>exact⟨i+1,by go_num,by omega,hid ⟨X5,by rw[ledF_take HG.out];exact HS5.out⟩⟩
   ·obtain rfl:i=n:=by omega
    obtain⟨Ml,hMl⟩:∃ q,q=ledF M0 ((gs.take i).map (·.1)):=⟨_,rfl⟩
    rw[<-hMl] at hS;have HS:=hid hS;clear hS hMl
    go_wp2_with fail
    refine HS.out.keptC.mono ?_;rintro e w3 ⟨kb,XK,rfl,hK,hb3⟩;have HK:=jd2 hK hb3;clear hK hb3
    go_wp2_with fail
    refine HK.out.1.views.mono ?_;rintro e w4 ⟨v1,rfl,hV1,hb4⟩;have HV1:=jd2 hV1 hb4;clear hV1 hb4
    go_wp2_with fail
    refine(HK.out.1.below HV1.out.2).keptC.mono ?_;rintro e w5 ⟨kb2,XK2,rfl,hK2,hb5⟩;have HK2:=jd2 hK2 hb5;clear hK2 hb5
    go_wp2_with fail
    refine HK2.out.1.views.mono ?_;rintro e w6 ⟨v2,rfl,hV2,hb6⟩;have HV2:=jd2 hV2 hb6;clear hV2 hb6
    go_wp2_with fail
    refine(same_any (vs:=viewsM Ml.kept) ((HV1.out.1.below HK2.out.2).below HV2.out.2).vr HV2.out.1.vr).mono ?_;rintro e w7 ⟨rfl,hb7⟩;have hS7:=HS.out.below (((((HK.out.2.trans (HV1.out.2.mono HK.out.2.size)).trans (HK2.out.2.mono (Nat.le_trans HK.out.2.size HV1.out.2.size))).trans (HV2.out.2.mono (Nat.le_trans (Nat.le_trans HK.out.2.size HV1.out.2.size) HK2.out.2.size)))).trans (hb7.mono (Nat.le_trans (Nat.le_trans (Nat.le_trans HK.out.2.size HV1.out.2.size) HK2.out.2.size) HV2.out.2.size)));have HS7:=hid hS7;clear hS7 hb7
    go_wp2_with fail
    refine HS7.out.views.mono ?_;rintro e w8 ⟨v3,rfl,hV3,hb8⟩;have hS8:=HS7.out.below hb8;obtain⟨vg,hve,hvo,hvi⟩:=hV3;obtain⟨va,vn,vc,rfl⟩:=ownG_sh hvo;have hvn:vn=(namesM Ml.all).length:=by
     have h1:vg.length=(namesM Ml.all).length:=by have:=congrArg List.length hve;unfold viewsM at this;simpa using this.symm
     rw[<-h1];rcases hvo.shape with⟨h2,h3⟩|⟨q,cc,h2,_⟩
     ·cases h2;have:=congrArg List.length h3;simpa using this.symm
     ·cases h2;rw[List.length_map]
    have hV8:VS w8 w7.heap.size W.heap.size (.slice va vn vc) (viewsM Ml.all):=⟨vg,hve,hvo,hvi⟩
    have hlv:=fun w'=>hvo.slG.len (P:=prog) (t:=38) (ty:=3) underlying38 w';have hvl:(vg.map vrow).length=vn:=by rw[hvn,List.length_map];have:=congrArg List.length hve;unfold viewsM at this;simpa using this.symm
    rw[hvl] at hlv;have hvn16:vn<=16:=by rw[hvn];unfold namesM sortN;rw[List.length_mergeSort,List.length_map];exact HS.out.ok.le
    have HV3:=jd3 hV8 hS8 hvn;clear hve hvo hvi hvl hV8 hS8 hvn hb8;go_upto_region 15 with(fail)
    go_loopw [7] (fun s7 wr=>∃ i2:Nat,s7 = .int .i64 i2/\i2<=vn/\Hid ((∃ X,Stt W wr W.heap.size mb (flM Ml i2) X)/\VS wr w7.heap.size W.heap.size (.slice va vn vc) (viewsM Ml.all))) (fun s7 _=>vn-(intOf s7).toNat)
    case atStart=>exact⟨0,rfl,Nat.zero_le _,hid ⟨⟨X2,HV3.out.2.1⟩,HV3.out.1⟩⟩
    case round =>
     obtain⟨j,rfl,hj,hRj⟩:=hrel;obtain⟨wJ,hwJ⟩:∃ q,q=wr:=⟨_,rfl⟩
     subst hwJ;obtain⟨⟨X3,hS3⟩,hVJ⟩:=hRj.out;by_cases hltj:j<vn
     ·have hjn:j<(namesM Ml.all).length:=by rw[<-HV3.out.2.2];exact hltj
      obtain⟨nm,hnm⟩:∃ nm,(namesM Ml.all)[j]? = some nm:=⟨_,List.getElem?_eq_getElem hjn⟩
      obtain⟨vg,hve,hvo,hvi⟩:=hVJ;have hjv:j<vg.length:=by have:=congrArg List.length hve;unfold viewsM at this;simp at this;omega
      have hgn:vg[j].v.name=nm:=by
       have h1:(vg.map (·.v))[j]? = some (viewN Ml.all nm):=by rw[<-hve];unfold viewsM;rw[List.getElem?_map,hnm];rfl
       rw[List.getElem?_map,List.getElem?_eq_getElem hjv] at h1;have h2:vg[j].v=viewN Ml.all nm:=Option.some.inj h1;rw[h2];unfold viewN;split<;>rfl
      obtain⟨bb,bo,hia,hrow⟩:=slG_addrs hvo.slG (t:=38) underlying38 size45 j (by rw[List.length_map];exact hjv);rw[show(vg.map vrow).getD j []=vrow vg[j] by rw[List.getD_eq_getElem?_getD,List.getElem?_map,List.getElem?_eq_getElem hjv];rfl] at hrow;have d0:wJ.cell? ⟨bb,bo,none⟩=some (str nm):=by have:=hrow wJ (Below.refl _ _) 0 _ rfl;rw[hgn] at this;simpa using this
      have hA3:=hS3.mo.a;rw[flM_all] at hA3;obtain⟨x,hx,hxn,hfx⟩:=names_at hA3 hjn;have hxm:x.n=nm:=by rw[hnm] at hxn;exact(Option.some.inj hxn).symm
      have hnl:nm.length<=100:=by rw[<-hxm];exact hA3.nl x hx
      have hpres:(fnd (flM Ml j).all nm).isSome=true:=by rw[flM_all,<-hxm,hfx];rfl
      have hD:=hS3.step (flC nm) nilS (SlB.nil _ _) ⟨hnl,by simp[flC],by simp[flC]⟩ (show(Lit.int .i64 8).wf=true by decide);rw[doM_flush hpres,<-flM_succ hnm] at hD;have HD:=hid (show Calls prog 14 #[pt mb,.agg #[.int .i64 8,str nm,.string ⟨#[]⟩,.int .i64 0,.int .i64 0,.int .i64 0,.slice none 0 0]] wJ _ from hD);have HVJ:=hid (show VS wJ w7.heap.size W.heap.size (.slice va vn vc) (viewsM Ml.all)/\MO wJ W.heap.size mb (flM Ml j) X3 from⟨⟨vg,hve,hvo,hvi⟩,hS3.mo⟩);have hfl1:flushedN (flM Ml j) nm<=1:=by unfold flushedN;split<;>omega
      clear hjn hnm hve hvo hvi hjv hgn hrow hA3 hx hxn hfx hxm hnl hpres hD hS3;go_upto_region 18 with(go_at_call 14;refine HD.out.mono ?_;rintro e w9 ⟨r9,lv9,X9,rfl,hrep,⟨frl,hfo,hfl⟩,hS9,hst9⟩;obtain⟨dv9,nv9,sv9,rfl,ho1,ho2,ho3⟩:=hrep.ex;obtain⟨pa,pn,pc,rfl⟩:=ownB_sh ho1;obtain⟨qa,qn,qc,rfl⟩:=ownG_sh ho2;obtain⟨ta,tn,tc,rfl⟩:=ownG_sh ho3;obtain⟨ua,un,uc,rfl⟩:=ownG_sh hfo;have hun:un<=1:=(by rcases hfo.shape with⟨h2,h3⟩|⟨q,cc,h2,_⟩;(· cases h2;omega);(· cases h2;rw[List.length_map,hfl];exact hfl1));have H9:=jd2 hS9 hst9;clear hS9 hst9 hrep ho1 ho2 ho3 hfo hfl)
      obtain⟨wR,hwR⟩:∃ z,z=w9.alloc (.cells #[.int .i64 0,.slice pa pn pc,.slice qa qn qc,.slice ta tn tc,.int .i64 0,.int .i64 0] 34):=⟨_,rfl⟩
      change Code.wp _ _ _ _ (w9.alloc (.cells #[.int .i64 0,.slice pa pn pc,.slice qa qn qc,.slice ta tn tc,.int .i64 0,.int .i64 0] 34));rw[<-hwR];have hb9R:Below w9.heap.size w9 wR:=by rw[hwR];exact(Below.refl _ _).alloc (Nat.le_refl _) _
      have hqR:wR.heap[w9.heap.size]? = some (.cells #[.int .i64 0,.slice pa pn pc,.slice qa qn qc,.slice ta tn tc,.int .i64 0,.int .i64 0] 34 (0,0)):=by rw[hwR];exact alloc_new w9 _
      have c0:wR.cell? ⟨w9.heap.size,0,none⟩=some (.int .i64 0):=by simp[World.cell?,hqR]
      have hlu:∀ w',(Builtin.len_ #[35] 3 #[.slice ua un uc]).run prog w' = .ok (.int .i64 un) w':=fun w'=>len_sl underlying35 rfl w';have eun:¬ (1:Int)<(un:Int):=by omega
      have HBR:=hid hb9R;clear hwR hb9R hqR d0
      go_wp2_with fail
      go_roundw
      case measure=>simp only[intOf];omega
      case rel =>
       exact⟨j+1,by go_num,by omega,hid ⟨⟨X9,H9.out.1.below HBR.out⟩,(HVJ.out.1.stp HVJ.out.2 H9.out.2).below HBR.out⟩⟩
     ·obtain rfl:j=vn:=by omega
      have hS9:=hS3;rw[HV3.out.2.2] at hS9;have hkk:viewsM (flM Ml (namesM Ml.all).length).kept=viewsM Ml.all:=viewsM_fnd (fun n=>flM_kept HS.out.ok hS9.ok n) hS9.mo.k.nd HS.out.mo.a.nd;have hall:(flM Ml (namesM Ml.all).length).all=Ml.all:=flM_all _ _;have HS9:=hid hS9;have HV9:=hid hVJ;have HKK:=jd2 hkk hall;clear hS9 hS3 hVJ hkk hall
      go_wp2_with fail
      refine HS9.out.views.mono ?_;rintro e wa ⟨v4,rfl,hV4,hba⟩;rw[HKK.out.2] at hV4;have HA1:=jd2 hV4 hba;clear hV4 hba
      go_wp2_with fail
      refine(same_any (vs:=viewsM Ml.all) HA1.out.1.vr (HV9.out.below HA1.out.2).vr).mono ?_;rintro e wb ⟨rfl,hbb⟩;have HA2:=jd2 (HS9.out.below HA1.out.2 |>.below hbb) ((HV9.out.below HA1.out.2).below hbb);clear hbb
      go_wp2_with fail
      refine HA2.out.1.keptC.mono ?_;rintro e wd ⟨kb3,XK3,rfl,hK3,hbd⟩;have HA3:=jd2 hK3 (HA2.out.2.below hbd);clear hK3 hbd
      go_wp2_with fail
      refine HA3.out.1.views.mono ?_;rintro e we ⟨v5,rfl,hV5,hbe⟩;have hV5':VS we wd.heap.size W.heap.size v5 (viewsM Ml.all):=by rw[<-HKK.out.1];exact hV5
      have HA4:=jd3 hV5' (HA3.out.2.below hbe) (HA3.out.1.below hbe);clear hV5 hV5' hbe
      go_wp2_with fail
      refine(same_any (vs:=viewsM Ml.all) HA4.out.1.vr HA4.out.2.1.vr).mono ?_;rintro e wf ⟨rfl,hbf⟩;have HA5:=hid (HA4.out.2.2.below hbf);clear hbf
      go_wp2_with fail
      refine(HAW.out _).mono ?_;rintro e wg ⟨rfl,hbg⟩;have hend:=(HA5.out.below hbg).b;clear hbg
      go_wp2_with fail
      go_ret
      exact⟨rfl,hend⟩
 ·refine(HAW.out _).mono ?_;rintro e w2 ⟨rfl,hb2⟩;have hb12:=HB1.out.trans (hb2.mono HB1.out.size)
  go_wp2_with fail
  go_ret
  exact⟨rfl,hb12⟩
end Go.Proofs.YtgkabcaodnofnaaGreat
namespace Go.Proofs.YtgkabcaodnofnaaGreat
open Go.RowKit Go.Mx Go.Md
theorem flushes_law (gs:List (Cm×Value))(v:Value)(W:World)(hs:SlC W v gs)(hw:∀ g∈gs,(Lit.int .i64 g.1.kind).wf=true) :
 Calls prog 4 #[v] W fun e w'=>e = .returned (.bool true)/\Below W.heap.size W w':=flushes_any hs hw
end Go.Proofs.YtgkabcaodnofnaaGreat
