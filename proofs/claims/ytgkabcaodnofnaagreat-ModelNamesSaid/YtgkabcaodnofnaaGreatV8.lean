import Derived.Test.YtgkabcaodnofnaaGreatVA
import Derived.Test.YtgkabcaodnofnaaGreatVL
set_option linter.unusedSimpArgs false
set_option linter.unusedVariables false
set_option maxRecDepth 100000
set_option maxHeartbeats 3000000
open Go.Proofs.Tryz
namespace Go.Proofs.YtgkabcaodnofnaaGreat
open Go.RowKit Go.Mx Go.Md
abbrev notN:Bs:=[110,111,116,45,116,104,101,114,101]
theorem Stt.rep {w0 w w':World}{base mb:Nat}{M:MM}{X:MX}{F':List Nat}(h:Stt w0 w base mb M X){b:Nat}{cs:Array Value}{fr:Nat×Nat}(hb:w.heap[b]? = some (.cells cs 34 fr))(hs:Stp w w' (X.fp mb) F'):w'.heap[b]? = some (.cells cs 34 fr) :=
 (hs.k.block b (blk_lt hb) fun hm=>h.mo.not34 b hm _ _ hb).trans hb
theorem sortN_lt {l:List Bs}(hn:l.Nodup)(i:Nat){a b:Bs}(ha:(sortN l)[i]? = some a)(hb:(sortN l)[i+1]? = some b):a<b:=by
 have tr:∀ a b c:Bs,decide (a<=b)=true->decide (b<=c)=true->decide (a<=c)=true:=fun a b c h1 h2=>by simp only[decide_eq_true_eq] at *;exact List.le_trans h1 h2
 have tot:∀ a b:Bs,(decide (a<=b)||decide (b<=a))=true:=fun a b=>by simp only[Bool.or_eq_true,decide_eq_true_eq];exact List.le_total a b
 obtain⟨hi,rfl⟩:=List.getElem?_eq_some_iff.1 hb;obtain⟨h0,rfl⟩:=List.getElem?_eq_some_iff.1 ha;have hp:=List.pairwise_iff_getElem.1 (List.pairwise_mergeSort (le:=fun x y=>decide (x<=y)) tr tot l) i (i+1) h0 hi (by omega);have hnd:(sortN l).Nodup:=(List.mergeSort_perm l _).nodup_iff.2 hn;have hne:=List.pairwise_iff_getElem.1 hnd i (i+1) h0 hi (by omega);simp only[decide_eq_true_eq] at hp;exact List.not_le.1 fun h=>hne (List.le_antisymm hp h)
theorem names_less {S:IL}(hn:(S.map (·.1)).Nodup)(i:Nat){a b:Bs}(ha:(namesM S)[i]? = some a)(hb:(namesM S)[i+1]? = some b):Op.bytesLess b a=false/\(b==a)=false/\b≠a:=by
 have h:=sortN_lt hn i ha hb;have hne:b≠a:=by rintro rfl;exact List.lt_irrefl _ h
 refine⟨?_,by simpa using hne,hne⟩;rw[bytesLess_eq,decide_eq_false_iff_not];exact fun h2=>List.lt_irrefl _ (List.lt_trans h h2)
theorem name_row {w:World}{lo:Nat}{v:Value}{l:List Bs}(h:OwnG w lo 9 1 v (strR l)){i:Nat}{nm:Bs}(hi:l[i]? = some nm) :
  ∃ b o,(∀ w' (k:IntKind),(Instr.indexAt 31 v (.int k (i:Int))).run prog w' = .ok (.pointer (some ⟨b,o,none⟩)) w')/\∀ w',Below w.heap.size w w'->w'.cell? ⟨b,o,none⟩=some (str nm):=by
 obtain⟨hl,rfl⟩:=List.getElem?_eq_some_iff.1 hi;obtain⟨b,o,h1,h2⟩:=slG_addrs h.slG (t:=31) underlying31 size9 i (by simpa[strR] using hl);refine⟨b,o,h1,fun w' hB=>?_⟩;have:=h2 w' hB 0 (str l[i]) (by simp[strR,List.getD_eq_getElem?_getD,hl]);simpa using this
theorem names_any {W:World}{v:Value}{gs:List (Cm×Value)}{k:Int}(hs:SlC W v gs)(hw:∀ g∈gs,(Lit.int .i64 g.1.kind).wf=true)(hk:(Lit.int .i64 k).wf=true) :
  Calls prog 8 #[v,.int .i64 k] W fun e w'=>e = .returned (.bool true)/\Below W.heap.size W w':=by
 have HH:=hid (heavy_any hs);have H:=jd3 hs hw hk;have hq:∀ mb (w':World),(binOp .eql 28 (pt mb) (.pointer none)).run prog w' = .ok (.bool false) w':=fun mb w'=>by simp[go_sem]
 have HAW:=hid awake_any;clear hs hw hk;go_enter func8,ntmps8
 go_wp2_with (go_at_call 11;refine HH.out.mono ?_;rintro e w1 ⟨b1,rfl,hf1,hb1⟩;have HF1:=hid hf1;have HB1:=hid hb1;clear hf1 hb1;cases b1)
 ·refine(led_any (w0:=W) (base:=W.heap.size) H.out.1 HB1.out (HF1.out (by first|rfl|trivial)) H.out.2.1 (Nat.le_refl _)).mono ?_;rintro e w2 ⟨mb,X,rfl,hS⟩;obtain⟨Ml,hMl⟩:∃ q,q=ledF M0 (gs.map (·.1)):=⟨_,rfl⟩
  rw[<-hMl] at hS;have hD:=hS.step ⟨26,[],[],0,0,0,[]⟩ nilS (SlB.nil _ _) ⟨by simp,by simp,by simp⟩ (show(Lit.int .i64 26).wf=true by decide);rw[doM_list] at hD;have HD:=hid (show Calls prog 14 #[pt mb,.agg #[.int .i64 26,.string ⟨#[]⟩,.string ⟨#[]⟩,.int .i64 0,.int .i64 0,.int .i64 0,.slice none 0 0]] w2 _ from hD);obtain⟨n,hn⟩:∃ n,n=(namesM Ml.all).length:=⟨_,rfl⟩
  have hn16:n<=16:=by rw[hn];unfold namesM sortN;rw[List.length_mergeSort,List.length_map];exact hS.ok.le
  have HS:=jd2 hS hn;clear hS hMl hD hn;go_upto_region 7 with(go_at_call 14;refine HD.out.mono ?_;rintro e w9 ⟨r9,lv9,X9,rfl,hrep,⟨frl,hfo,hfl⟩,hS9,hst9⟩;obtain⟨dv9,nv9,sv9,rfl,ho1,ho2,ho3⟩:=hrep.ex;obtain⟨pa,pn,pc,rfl⟩:=ownB_sh ho1;obtain⟨qa,qc,rfl⟩:=ownG_k (n:=n) ho2 (by rw[HS.out.2];simp[strR]);obtain⟨ta,tn,tc,rfl⟩:=ownG_sh ho3;obtain⟨ua,un,uc,rfl⟩:=ownG_sh hfo;have H9:=jd2 hS9 ho2;clear hS9 hst9 hrep ho1 ho2 ho3 hfo hfl)
  obtain⟨wR,hwR⟩:∃ z,z=w9.alloc (.cells #[.int .i64 0,.slice pa pn pc,.slice qa n qc,.slice ta tn tc,.int .i64 0,.int .i64 0] 34):=⟨_,rfl⟩
  change Code.wp _ _ _ _ (w9.alloc (.cells #[.int .i64 0,.slice pa pn pc,.slice qa n qc,.slice ta tn tc,.int .i64 0,.int .i64 0] 34));rw[<-hwR];have hbR:Below w9.heap.size w9 wR:=by rw[hwR];exact(Below.refl _ _).alloc (Nat.le_refl _) _
  have hqR:wR.heap[w9.heap.size]? = some (.cells #[.int .i64 0,.slice pa pn pc,.slice qa n qc,.slice ta tn tc,.int .i64 0,.int .i64 0] 34 (0,0)):=by rw[hwR];exact alloc_new w9 _
  have e2:∀ w',Below wR.heap.size wR w'->w'.cell? ⟨w9.heap.size,2,none⟩=some (.slice qa n qc):=fun w' hB=>by
   have:=(hB.block _ (blk_lt hqR)).trans hqR;simp[World.cell?,this]
  have hSR:=H9.out.1.below hbR;have hoR:OwnG wR w2.heap.size 9 1 (.slice qa n qc) (strR (namesM Ml.all)):=H9.out.2.below hbR (Nat.le_refl _);have hlq:∀ w',(Builtin.len_ #[31] 3 #[.slice qa n qc]).run prog w' = .ok (.int .i64 n) w':=fun w'=>len_sl underlying31 rfl w';have HR:=jd2 hSR hoR;have HE2:=hid e2;clear hSR hoR hqR hwR hbR e2;go_upto_region 8 with(fail)
  go_loopw [8] (fun s8 wr=>∃ i:Nat,s8 = .int .i64 i/\i<=n/\Hid (Below wR.heap.size wR wr/\∀ j nm,j<i->(namesM Ml.all)[j]? = some nm->nm≠notN)) (fun s8 _=>n-(intOf s8).toNat)
  case atStart=>exact⟨0,rfl,Nat.zero_le _,hid ⟨Below.refl _ _,fun j nm hj=>absurd hj (Nat.not_lt_zero _)⟩⟩
  case round =>
   obtain⟨i,rfl,hi,hRR⟩:=hrel;obtain⟨wJ,hwJ⟩:∃ q,q=wr:=⟨_,rfl⟩
   subst hwJ;have c2:=HE2.out wJ hRR.out.1;by_cases hlt:i<n
   ·obtain⟨nm,hnm⟩:∃ nm,(namesM Ml.all)[i]? = some nm:=⟨_,List.getElem?_eq_getElem (by rw[<-HS.out.2];exact hlt)⟩
    obtain⟨bb,bo,hia,hrow⟩:=name_row HR.out.2 hnm;have d0:=hrow wJ hRR.out.1;have HNM:=hid hnm;clear hrow hnm;by_cases hnn:nm=notN
    ·subst hnn;have HRR:=hid hRR.out.1;clear hRR
     go_wp2_with fail
     refine(HAW.out _).mono ?_;rintro e wa ⟨rfl,hba⟩;have hend:=((HR.out.1.below HRR.out).below hba).b;clear hba
     go_wp2_with fail
     go_ret
     exact⟨rfl,hend⟩
    ·have hnb:(nm==notN)=false:=by simpa using hnn
     have HNN:=hid hnn;clear hnn
     go_wp2_with fail
     go_roundw
     case measure=>simp only[intOf];omega
     case rel =>
      refine⟨i+1,by go_num,by omega,hid ⟨hRR.out.1,fun j m hj hm=>?_⟩⟩;rcases Nat.lt_or_ge j i with h|h
      ·exact hRR.out.2 j m h hm
      ·obtain rfl:j=i:=by omega
       rw[HNM.out] at hm;cases hm;exact HNN.out
   ·obtain rfl:i=n:=by omega
    have hno:fnd Ml.all notN=none:=fnd_names fun hm=>by
     obtain⟨j,hj,e⟩:=List.getElem_of_mem hm;exact hRR.out.2 j notN (by rw[HS.out.2];exact hj) (by rw[List.getElem?_eq_getElem hj,e]) rfl
    have hSJ:=HR.out.1.below hRR.out.1;have hD:=hSJ.step ⟨k,notN,[],0,9,1,[]⟩ nilS (SlB.nil _ _) ⟨by simp,by simp,by simp⟩ H.out.2.2;rw[doM_noname hno] at hD;have HD2:=hid (show Calls prog 14 #[pt mb,.agg #[.int .i64 k,.string ⟨#[110,111,116,45,116,104,101,114,101]⟩,.string ⟨#[]⟩,.int .i64 0,.int .i64 9,.int .i64 1,.slice none 0 0]] wJ _ from hD);clear hD hSJ hno;go_upto_region 13 with(go_at_call 14;refine HD2.out.mono ?_;rintro e wb ⟨r8,lv8,X8,rfl,hrep,⟨frl2,hfo,hfl⟩,hS8,hst8⟩;obtain⟨dv8,nv8,sv8,rfl,ho1,ho2,ho3⟩:=hrep.ex;obtain⟨ya,yn,yc,rfl⟩:=ownB_sh ho1;obtain⟨za,zn,zc,rfl⟩:=ownG_sh ho2;obtain⟨xa,xn,xc,rfl⟩:=ownG_sh ho3;obtain⟨ka,kc,rfl⟩:=ownG_k hfo (frl0 hfl);rw[repN_code];have H8:=hid hS8;clear hS8 hst8 hrep ho1 ho2 ho3 hfo hfl)
    obtain⟨wS,hwS⟩:∃ z,z=wb.alloc (.cells #[.int .i64 (wantN k),.slice ya yn yc,.slice za zn zc,.slice xa xn xc,.int .i64 (repN Ml k).n,.int .i64 (repN Ml k).m] 34):=⟨_,rfl⟩
    change Code.wp _ _ _ _ (wb.alloc (.cells #[.int .i64 (wantN k),.slice ya yn yc,.slice za zn zc,.slice xa xn xc,.int .i64 (repN Ml k).n,.int .i64 (repN Ml k).m] 34));rw[<-hwS];have hbS:Below wb.heap.size wb wS:=by rw[hwS];exact(Below.refl _ _).alloc (Nat.le_refl _) _
    have hqS:wS.heap[wb.heap.size]? = some (.cells #[.int .i64 (wantN k),.slice ya yn yc,.slice za zn zc,.slice xa xn xc,.int .i64 (repN Ml k).n,.int .i64 (repN Ml k).m] 34 (0,0)):=by rw[hwS];exact alloc_new wb _
    have HSS:=jd2 (H8.out.below hbS) hqS;clear hwS hbS hqS hRR c2;obtain⟨wT,hwT⟩:∃ q:Int,q=if k<1\/26<k\/k=1 then 1 else 4:=⟨_,rfl⟩
    have hw2:wantN k=if k=26 then 0 else wT:=by unfold wantN;rw[hwT]
    obtain⟨b5,hb5⟩:∃ q:Bool,q=decide (k<1\/26<k\/k=1):=⟨_,rfl⟩
    have HWT:=jd3 hwT hw2 hb5;clear hwT hw2 hb5;go_upto_region 14 with(fail)
    go_cut [59] from 60 (fun s59 wx=>s59 = .bool b5/\Below wS.heap.size wS wx)
    case first =>
     go_wp2_with fail
     all_goals go_meet
     all_goals refine⟨?_,Below.refl _ _⟩
     all_goals rw[HWT.out.2.2]
     ·rw[show(decide (k<1)||decide (26<k)||k==1)=decide (k<1\/26<k\/k=1) from Bool.eq_iff_iff.2 (by simp[or_assoc])]
     ·rw[decide_eq_true (by omega)]
     ·rw[decide_eq_true (by omega)]
    case rest =>
     obtain⟨rfl,hB0⟩:=hcut;obtain⟨wU,hwU⟩:∃ q,q=wc:=⟨_,rfl⟩
     subst hwU;have HB0:=hid hB0;clear hB0
     go_upto_if 59 with(fail)
     go_cut [11] from 60 (fun s11 wx=>s11 = .int .i64 wT/\Below wU.heap.size wU wx)
     case first =>
      cases b5
      ·have e:wT=4:=by
        rw[HWT.out.1,if_neg];have:=HWT.out.2.2;exact of_decide_eq_false this.symm
       clear HH HAW
       go_wp2_with fail
       go_meet
       case rel=>exact⟨by rw[e],Below.refl _ _⟩
      ·have e:wT=1:=by
        rw[HWT.out.1,if_pos];have:=HWT.out.2.2;exact of_decide_eq_true this.symm
       clear HH HAW
       go_wp2_with fail
       go_meet
       case rel=>exact⟨by rw[e],Below.refl _ _⟩
     case rest =>
      obtain⟨rfl,hB1⟩:=hcut;obtain⟨wV,hwV⟩:∃ q,q=wc:=⟨_,rfl⟩
      subst hwV;have HB1':=hid hB1;clear hB1
      go_upto_if 61 with(fail)
      go_cut [11] from 62 (fun s11 wx=>s11 = .int .i64 (wantN k)/\Below wV.heap.size wV wx)
      case first =>
       by_cases h26:k=26
       ·have e:wantN k=0:=by rw[HWT.out.2.1,if_pos h26]
        have eb:(k==26)=true:=by simpa using h26
        have HK:=hid h26;clear HH HAW h26
        go_wp2_with fail
        go_meet
        case rel=>exact⟨by rw[e],Below.refl _ _⟩
       ·have e:wantN k=wT:=by rw[HWT.out.2.1,if_neg h26]
        have eb:(k==26)=false:=by simpa using h26
        have HK:=hid h26;clear HH HAW h26
        go_wp2_with fail
        go_meet
        case rel=>exact⟨by rw[e],Below.refl _ _⟩
      case rest =>
       obtain⟨rfl,hB2⟩:=hcut;obtain⟨wW,hwW⟩:∃ q,q=wc:=⟨_,rfl⟩
       subst hwW;have hSW:Below wS.heap.size wS wW:=HB0.out.trans ((HB1'.out.trans (hB2.mono HB1'.out.size)).mono HB0.out.size);have hS7:=HSS.out.1.below hSW;have hq7:wW.heap[wb.heap.size]? = some (.cells #[.int .i64 (wantN k),.slice ya yn yc,.slice za zn zc,.slice xa xn xc,.int .i64 (repN Ml k).n,.int .i64 (repN Ml k).m] 34 (0,0)):=(hSW.block _ (blk_lt HSS.out.2)).trans HSS.out.2;have hD:=hS7.step ⟨26,[],[],0,0,0,[]⟩ nilS (SlB.nil _ _) ⟨by simp,by simp,by simp⟩ (show(Lit.int .i64 26).wf=true by decide);rw[doM_list] at hD;have HD3:=hid (show Calls prog 14 #[pt mb,.agg #[.int .i64 26,.string ⟨#[]⟩,.string ⟨#[]⟩,.int .i64 0,.int .i64 0,.int .i64 0,.slice none 0 0]] wW _ from hD);have H7:=jd2 hS7 hq7;clear hD hS7 hq7 hSW hB2
       go_upto_region 19 with(go_at_call 14;refine HD3.out.mono ?_;rintro e wd ⟨r6,lv6,X6,rfl,hrep,⟨frl3,hfo,hfl⟩,hS6,hst6⟩;obtain⟨dv6,nv6,sv6,rfl,ho1,ho2,ho3⟩:=hrep.ex;obtain⟨ga,gn,gc,rfl⟩:=ownB_sh ho1;obtain⟨fa,fc,rfl⟩:=ownG_k (n:=i) ho2 (by rw[HS.out.2];simp[strR]);obtain⟨ja,jn,jc,rfl⟩:=ownG_sh ho3;obtain⟨la,ln,lc,rfl⟩:=ownG_sh hfo;have H6:=jd3 hS6 ho2 (H7.out.1.rep H7.out.2 hst6);clear hS6 hst6 hrep ho1 ho2 ho3 hfo hfl)
       obtain⟨wX,hwX⟩:∃ z,z=wd.alloc (.cells #[.int .i64 0,.slice ga gn gc,.slice fa i fc,.slice ja jn jc,.int .i64 0,.int .i64 0] 34):=⟨_,rfl⟩
       change Code.wp _ _ _ _ (wd.alloc (.cells #[.int .i64 0,.slice ga gn gc,.slice fa i fc,.slice ja jn jc,.int .i64 0,.int .i64 0] 34));rw[<-hwX];have hbX:Below wd.heap.size wd wX:=by rw[hwX];exact(Below.refl _ _).alloc (Nat.le_refl _) _
       have hqX:wX.heap[wd.heap.size]? = some (.cells #[.int .i64 0,.slice ga gn gc,.slice fa i fc,.slice ja jn jc,.int .i64 0,.int .i64 0] 34 (0,0)):=by rw[hwX];exact alloc_new wd _
       have hSX:=H6.out.1.below hbX;have hoX:OwnG wX wW.heap.size 9 1 (.slice fa i fc) (strR (namesM Ml.all)):=H6.out.2.1.below hbX (Nat.le_refl _);have hrX:=(hbX.block _ (blk_lt H6.out.2.2)).trans H6.out.2.2;have HX6:=jd4 hSX hoX hqX hrX;clear hSX hoX hqX hrX hbX hwX
       go_wp2_with fail
       refine HX6.out.1.views.mono ?_;rintro e wY ⟨v5,rfl,hV5,hbY⟩;obtain⟨va,vc,rfl⟩:=hV5.len;have hvl:(viewsM Ml.all).length=i:=by rw[HS.out.2];unfold viewsM;rw[List.length_map]
       rw[hvl];rw[hvl] at hV5;have hlv:∀ w',(Builtin.len_ #[38] 3 #[.slice va i vc]).run prog w' = .ok (.int .i64 i) w':=fun w'=>len_sl underlying38 rfl w';have hlf:∀ w',(Builtin.len_ #[31] 3 #[.slice fa i fc]).run prog w' = .ok (.int .i64 i) w':=fun w'=>len_sl underlying31 rfl w';have hlk:∀ w',(Builtin.len_ #[35] 3 #[.slice ka 0 kc]).run prog w' = .ok (.int .i64 0) w':=fun w'=>len_sl underlying35 rfl w';have HY:=jd4 hV5 (HX6.out.1.below hbY) hvl hbY;clear hV5 hvl hbY hlq;go_upto_region 21 with(fail)
       go_loopw [15] (fun s15 wr=>∃ j:Nat,s15 = .int .i64 j/\j<=i/\Below wY.heap.size wY wr) (fun s15 _=>i-(intOf s15).toNat)
       case atStart=>exact⟨0,rfl,Nat.zero_le _,Below.refl _ _⟩
       case round =>
        obtain⟨j,rfl,hj,hbr⟩:=hrel;obtain⟨wZ,hwZ⟩:∃ q,q=wr:=⟨_,rfl⟩
        subst hwZ;have hbXZ:Below wX.heap.size wX wZ:=HY.out.2.2.2.trans (hbr.mono HY.out.2.2.2.size);have hz2:∀ w',Below wZ.heap.size wZ w'->w'.cell? ⟨wd.heap.size,2,none⟩=some (.slice fa i fc):=fun w' hB=>by
         have:=(hbXZ.trans (hB.mono hbXZ.size)).block _ (blk_lt HX6.out.2.2.1);rw[HX6.out.2.2.1] at this;simp[World.cell?,this]
        have z2:=hz2 wZ (Below.refl _ _);by_cases hlj:j<i
        ·have hj':j<(viewsM Ml.all).length:=by rw[HY.out.2.2.1];exact hlj
         obtain⟨nm,im,hnm,hf,hve,hvn⟩:=views_at hj';obtain⟨bb,bo,dv,sv,mv,hia,hdo,hrow⟩:=HY.out.1.row j hj';rw[hvn] at hrow;have y0:∀ w',Below wZ.heap.size wZ w'->w'.cell? ⟨bb,bo,none⟩=some (str nm):=fun w' hB=>by have:=hrow w' (hbr.trans (hB.mono hbr.size)) 0 _ rfl;simpa using this
         obtain⟨b2,o2,hib,hrow2⟩:=name_row HX6.out.2.1 hnm;have x0:∀ w',Below wZ.heap.size wZ w'->w'.cell? ⟨b2,o2,none⟩=some (str nm):=fun w' hB=>hrow2 w' (hbXZ.trans (hB.mono hbXZ.size));have k1:decide ((i:Int)<=(j:Int))=false:=by simp;omega
         have k1':¬ i<=j:=by omega
         have k1'':¬ (i:Int)<=(j:Int):=by omega
         have k1d:decide (i<=j)=false:=by simp;omega
         have x0Z:=x0 wZ (Below.refl _ _);have y0Z:=y0 wZ (Below.refl _ _);have HZ:=jd2 hbr hnm;clear hrow hrow2 hdo hve hvn hf hbr hj';by_cases hj0:j=0
         ·subst hj0;have k2:decide ((0:Int)<((0:Nat):Int))=false:=by simp
          have k3:¬ (i:Int)<=0:=by omega
          have k4:decide ((i:Int)<=0)=false:=by simp;omega
          have k5:¬ i=0:=by omega
          have hia0:∀ (w':World) (k:IntKind),(Instr.indexAt 38 (.slice va i vc) (.int k 0)).run prog w' = .ok (.pointer (some ⟨bb,bo,none⟩)) w':=fun w' k=>hia w' k;have hib0:∀ (w':World) (k:IntKind),(Instr.indexAt 31 (.slice fa i fc) (.int k 0)).run prog w' = .ok (.pointer (some ⟨b2,o2,none⟩)) w':=fun w' k=>hib w' k;clear hnm
          go_wp2_with fail
          go_quiet (fail)
          rename_i nq
          go_wp2_with fail
          have hbq:=bel_drewN (Below.refl wZ.heap.size wZ) nq
          go_roundw
          case measure=>simp only[intOf];omega
          case rel=>exact⟨0+1,by go_num,by omega,HZ.out.1.trans (hbq.mono HZ.out.1.size)⟩
         ·obtain⟨j2,hj2⟩:∃ q,j=q+1:=⟨j-1,by omega⟩
          obtain⟨pm,hpm⟩:∃ pm,(namesM Ml.all)[j2]? = some pm:=⟨_,List.getElem?_eq_getElem (by rw[<-HS.out.2];omega)⟩
          obtain⟨b3,o3,hic,hrow3⟩:=name_row HX6.out.2.1 hpm;have w0':∀ w',Below wZ.heap.size wZ w'->w'.cell? ⟨b3,o3,none⟩=some (str pm):=fun w' hB=>hrow3 w' (hbXZ.trans (hB.mono hbXZ.size));obtain⟨m1,m2,m3⟩:=names_less HS.out.1.nda.1 j2 hpm (by rw[<-hj2];exact hnm);have k2:decide ((0:Int)<(j:Int))=true:=by simp;omega
          have k2':0<j:=by omega
          have k2'':(0:Int)<(j:Int):=by omega
          have k2d:decide (0<j)=true:=by simp;omega
          have k3:IntKind.i64.wrap ((j:Int)-1)=(j2:Int):=by rw[IntWalk.i64_in _ (by omega)];omega
          have HJ:=jd2 hj0 hj2;have w0Z:=w0' wZ (Below.refl _ _);clear hrow3 hpm hnm hj0 hj2 hbXZ hz2
          go_wp2_with fail
          go_quiet (fail)
          rename_i nq
          go_wp2_with fail
          have hbq:=bel_drewN (Below.refl wZ.heap.size wZ) nq
          go_roundw
          case measure=>simp only[intOf];omega
          case rel=>exact⟨j+1,by go_num,by omega,HZ.out.1.trans (hbq.mono HZ.out.1.size)⟩
        ·obtain rfl:j=i:=by omega
         have r0:wZ.cell? ⟨wb.heap.size,0,none⟩=some (.int .i64 (wantN k)):=by
          have:=hbXZ.block _ (blk_lt HX6.out.2.2.2);rw[HX6.out.2.2.2] at this;simp[World.cell?,this]
         have HEND:=hid (HY.out.2.1.below hbr);clear hbr hbXZ hz2
         go_wp2_with fail
         refine(HAW.out _).mono ?_;rintro e wg ⟨rfl,hbg⟩;have hend:=(HEND.out.below hbg).b;clear hbg
         go_wp2_with fail
         go_ret
         exact⟨rfl,hend⟩
 ·refine(HAW.out _).mono ?_;rintro e w2 ⟨rfl,hb2⟩;have hb12:=HB1.out.trans (hb2.mono HB1.out.size)
  go_wp2_with fail
  go_ret
  exact⟨rfl,hb12⟩
theorem names_law (gs:List (Cm×Value))(v:Value)(k:Int)(W:World)(hs:SlC W v gs)(hw:∀ g∈gs,(Lit.int .i64 g.1.kind).wf=true)(hk : -9223372036854775808<=k/\k<=9223372036854775807) :
 Calls prog 8 #[v,.int .i64 k] W fun e w'=>e = .returned (.bool true)/\Below W.heap.size W w':=names_any hs hw (wf_of hk.1 hk.2)
end Go.Proofs.YtgkabcaodnofnaaGreat
