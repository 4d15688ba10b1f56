import Derived.Test.YtgkabcaodnofnaaGreatVB
import Derived.Test.YtgkabcaodnofnaaGreatB45
import Derived.Test.YtgkabcaodnofnaaGreatVA
set_option linter.unusedSimpArgs false
set_option linter.unusedVariables false
set_option maxRecDepth 100000
set_option maxHeartbeats 3000000
open Go.Proofs.Tryz
namespace Go.Proofs.YtgkabcaodnofnaaGreat
open Go.RowKit Go.Mx Go.Md
theorem Stt.copyC {w0 w:World}{base mb:Nat}{M:MM}{X:MX}(h:Stt w0 w base mb M X):Calls prog 19 #[pt mb] w fun e w'=>∃ nb X',e = .returned (pt nb)/\Stt w0 w' base nb M X'/\(∀ b∈X'.fp nb,w.heap.size<=b)/\Below w.heap.size w w' :=
 (copy_any h.mo (Nat.le_trans h.bb h.b.size) (by rw[AM.len' h.mo.a];have:=h.ok.le;omega) (by rw[AM.len' h.mo.k];have:=h.ok.kl;omega)).mono fun e w' ⟨nb,X',e1,h1,h2,h3,_,h4⟩ =>
  ⟨nb,X',e1,⟨h1,h.ok,h3,h.b.trans (h4.mono h.b.size),fun b hb=>Nat.le_trans h.b.size (h2 b hb),h.bb⟩,h2,h4⟩
end Go.Proofs.YtgkabcaodnofnaaGreat
namespace Go.Proofs.YtgkabcaodnofnaaGreat
open Go.RowKit Go.Mx Go.Md
theorem OwnB.put {w:World}{base:Nat}{e:TypeId}{g n c:Nat}{l:List UInt8}(h:OwnB w base e (.slice (some ⟨g,0,none⟩) n c) l)(i:Nat)(b:UInt8) :
  OwnB (w.setCell ⟨g,i,none⟩ (Mx.u8 b)) base e (.slice (some ⟨g,0,none⟩) n c) (l.set i b):=by
 rcases h with⟨h1,h2|⟨g',cap,cur,hv,hb,hg,hn,hm,hs,ht⟩⟩
 ·obtain⟨hv,_⟩:=h2;cases hv
 ·cases hv
  refine⟨by simp,.inr ⟨g,_,cur.setIfInBounds i (Mx.u8 b),by simp,hb,heap_setCell_at w g i _ cur e _ hg,by simpa using hn,hm,by simpa using hs,?_⟩⟩;rw[Array.toList_setIfInBounds,List.take_set,List.length_set,ht,List.map_set]
structure Spo (wL w:World)(va:Option Addr)(vn vc:Nat)(vg:List VG):Prop where
 b:Below wL.heap.size wL w
 o:OwnG w wL.heap.size 45 6 (.slice va vn vc) (vg.map vrow)
 d:∀ g∈vg,∃ bs,OwnB w wL.heap.size 5 g.dv bs/\bs.length=g.v.data.length
theorem Spo.put {wL w:World}{va:Option Addr}{vn vc:Nat}{vg:List VG}(h:Spo wL w va vn vc vg){q:Nat}{cs:Array Value}{fr:Nat×Nat}(hq:w.heap[q]? = some (.cells cs 5 fr))(hlo:wL.heap.size<=q)(k:Nat)(c:UInt8):Spo wL (w.setCell ⟨q,k,none⟩ (Mx.u8 c)) va vn vc vg where
 b:=h.b.setCell (p:=⟨q,k,none⟩) hlo _
 o:=h.o.kept (N:=(·≠q)) (Kept.set _ _ _ _ (by simp)) fun j hj=>by
  obtain⟨c9,f9,h9⟩:=ownG_type h.o j hj;rintro rfl;rw[hq] at h9;cases h9
 d:=fun g hg=>by
  obtain⟨bs,h1,h2⟩:=h.d g hg;rcases OwnB.shape h1 with⟨e,e2⟩|⟨p,cap,e,_⟩
  ·rw[e] at h1 ⊢;exact⟨bs,by rw[e2];exact OwnB.nil _ _ _,h2⟩
  ·rw[e] at h1 ⊢;by_cases hp:p=q
   ·subst hp;exact⟨bs.set k c,OwnB.put h1 k c,by rw[List.length_set];exact h2⟩
   ·exact⟨bs,OwnB.kept (N:=(·≠q)) h1 (Kept.set _ _ _ _ (by simp)) (fun j hj=>by cases hj;exact hp),h2⟩
theorem slc_app2 {W w:World}{v u v':Value}{gs gm:List (Cm×Value)}(hs:SlC W v gs)(hm:SlC W u gm)(hb:Below W.heap.size W w){b:Nat}(ho:OwnG w b 25 7 v' (gs.map crow++gm.map crow)):SlC w v' (gs++gm) :=
 ⟨by rw[List.map_append];exact ho.slG,fun q hq=>by
  rcases List.mem_append.1 hq with h|h
  ·exact((hs.d q h).below hb (Nat.le_refl _)).mono hb.size
  ·exact((hm.d q h).below hb (Nat.le_refl _)).mono hb.size⟩
theorem fit_app2 {gs gm:List (Cm×Value)}(h:FitAll (gs++gm)):FitAll gs/\FitAll gm :=
 ⟨⟨by have:=h.1;simp at this;omega,fun q hq=>h.2 q (by simp[hq])⟩,by have:=h.1;simp at this;omega,fun q hq=>h.2 q (by simp[hq])⟩
theorem copies_any {W:World}{v u:Value}{gs gm:List (Cm×Value)}(hs:SlC W v gs)(hw:∀ g∈gs,(Lit.int .i64 g.1.kind).wf=true)(hs2:SlC W u gm)(hw2:∀ g∈gm,(Lit.int .i64 g.1.kind).wf=true)(hn:(gs.length+gm.length)*88<=140737488355328) :
  Calls prog 9 #[v,u] W fun e w'=>e = .returned (.bool true)/\Below W.heap.size W w':=by
 have hla:=fun w'=>hs.o.len (P:=prog) (t:=22) (ty:=3) underlying22 w';obtain⟨n,hn'⟩:∃ n,n=gs.length:=⟨_,rfl⟩
 rw[List.length_map,<-hn'] at hla;have hlm:=fun w'=>hs2.o.len (P:=prog) (t:=22) (ty:=3) underlying22 w';obtain⟨m,hm'⟩:∃ m,m=gm.length:=⟨_,rfl⟩
 rw[List.length_map,<-hm'] at hlm;have hq:∀ mb (w':World),(binOp .eql 28 (pt mb) (.pointer none)).run prog w' = .ok (.bool false) w':=fun mb w'=>by simp[go_sem]
 have HAW:=hid awake_any;have ho0:=ownG_empty W 25 7;have hb0:Below W.heap.size W (W.alloc (.cells #[] 25)):=(Below.refl _ _).alloc (Nat.le_refl _) _;have hs1:SlG (W.alloc (.cells #[] 25)) W.heap.size 7 v (gs.map crow):=hs.o.below hb0 (Nat.le_refl _);have hl1:(([]:List (List Value)).length+(gs.map crow).length)*88<=140737488355328:=by rw[List.length_map];simp;omega
 have hl2:([]:List (List Value)).length+(gs.map crow).length<=140737488355328:=by rw[List.length_map];simp;omega
 have hl3:((([]:List (List Value))++gs.map crow).length+(gm.map crow).length)*88<=140737488355328:=by rw[List.nil_append,List.length_map,List.length_map];exact hn
 have hl4:(([]:List (List Value))++gs.map crow).length+(gm.map crow).length<=140737488355328:=by rw[List.nil_append,List.length_map,List.length_map];omega
 have hz0:W.heap.size<=(W.alloc (.cells #[] 25)).heap.size:=hb0.size;have hone1:=crow_ones hs;have hone2:=crow_ones hs2;have H:=jd6 hs hw hs2 hw2 hn' hm';clear hs hw hs2 hw2 hn hn' hm';go_enter func9,ntmps9
 go_wp2_with (first
  | (at_builtin;refine append_sg _ rfl _ _ 22 25 _ 7 88 rfl underlying22 info25 rfl (by decide) W.heap.size _ ([]++gs.map crow) rfl ho3 W.heap.size u (gm.map crow) rfl hsl3 (crow_lens gm) hone2 hl3 hl4 hz3 ?_;intro v5 w5 ho5 hg5 hb5;have hb05:=hb03.trans hb5;have hC5:=slc_app2 H.out.1 H.out.2.2.1 hb05 (by simpa using ho5);have HC5:=hid (heavy_any hC5);have HB5:=hid hb05;clear ho5 hg5 hb5 hb05 hC5)
  | (at_builtin;refine append_sg _ rfl _ _ 22 25 _ 7 88 rfl underlying22 info25 rfl (by decide) W.heap.size _ [] rfl ho0 W.heap.size v (gs.map crow) rfl hs1 (crow_lens gs) hone1 hl1 hl2 hz0 ?_;intro v3 w3 ho3 hg3 hb3;have hb03:=hb0.trans hb3;have hsl3:SlG w3 W.heap.size 7 u (gm.map crow):=H.out.2.2.1.o.below hb03 (Nat.le_refl _);have hz3:=hb03.size)
  | (go_at_call 11;refine HC5.out.mono ?_;rintro e w1 ⟨b1,rfl,hf1,hb1⟩;have HF1:=hid hf1;have HB1:=hid (HB5.out.trans (hb1.mono HB5.out.size));clear hf1 hb1;cases b1))
 ·have hfa:=fit_app2 (HF1.out (by first|rfl|trivial));have hn80:n<=80:=by rw[H.out.2.2.2.2.1];exact hfa.1.1
  have hm80:m<=80:=by rw[H.out.2.2.2.2.2];exact hfa.2.1
  have HN:=hid (stt_new W w1 W.heap.size HB1.out (Nat.le_refl _));have HFA:=hid hfa;clear hfa;refine HN.out.mono ?_;rintro e w2 ⟨mb,X1,rfl,hS1⟩;have HS1:=hid hS1;clear hS1;go_upto_region 7 with(fail)
  go_loopw [6] (fun s6 wr=>∃ i:Nat,s6 = .int .i64 i/\i<=n/\Hid (∃ X,Stt W wr W.heap.size mb (ledF M0 ((gs.take i).map (·.1))) X)) (fun s6 _=>n-(intOf s6).toNat)
  case atStart=>exact⟨0,rfl,Nat.zero_le _,hid ⟨X1,HS1.out⟩⟩
  case round =>
   obtain⟨i,rfl,hi,hR⟩:=hrel;obtain⟨wO,hwO⟩:∃ q,q=wr:=⟨_,rfl⟩
   subst hwO;obtain⟨X2,hS⟩:=hR.out;by_cases hlt:i<n
   ·have hig:i<gs.length:=by rw[<-H.out.2.2.2.2.1];exact hlt
    obtain⟨g,hgi⟩:∃ g,gs[i]? = some g:=⟨_,List.getElem?_eq_getElem hig⟩
    have hgm:g∈gs:=List.mem_of_getElem? hgi;obtain⟨bb,bo,ea,en,ec,hia,hds,hrow⟩:=H.out.1.at hgi;obtain⟨r0,r1,r2,r3,r4,r5,r6⟩:=hrow wO hS.b;have HD:=hid (hS.step g.1 (.slice ea en ec) hds (HFA.out.1.2 g hgm) (H.out.2.1 g hgm));have HG:=hid hgi;clear hig hgi hgm hrow hds hS
    go_wp2_with (go_at_call 14;refine HD.out.mono ?_;rintro e w5 ⟨r5v,lv5,X5,rfl,_,_,hS5,_⟩;have HS5:=hid hS5;clear hS5)
    go_roundw
    case measure=>simp only[intOf];omega
    case rel=>exact⟨i+1,by go_num,by omega,hid ⟨X5,by rw[ledF_take HG.out];exact HS5.out⟩⟩
   ·obtain rfl:i=n:=by omega
    obtain⟨Ml,hMl⟩:∃ q,q=ledF M0 ((gs.take i).map (·.1)):=⟨_,rfl⟩
    rw[<-hMl] at hS;have HS:=hid hS;clear hS hMl
    go_wp2_with fail
    refine HS.out.views.mono ?_;rintro e w3 ⟨v1,rfl,hV1,hb3⟩;have hS3:=HS.out.below hb3;obtain⟨va,vn,vc,rfl⟩:∃ a n c,v1 = .slice a n c:=by obtain⟨a,c,h⟩:=hV1.len;exact⟨a,_,c,h⟩
    have HV1:=jd2 hV1 hS3;clear hV1 hS3 hb3
    go_wp2_with fail
    refine HV1.out.2.copyC.mono ?_;rintro e w4 ⟨cb,Xc,rfl,hSc,hfp,hb4⟩;have hS4:=HV1.out.2.below hb4;have hap:∀ b∈X2.fp mb,b∉Xc.fp cb:=fun b hb hc=>by have h1:=HV1.out.2.mo.lt b hb;have h2:=hfp b hc;omega
    have HC:=jd4 hSc hS4 hap (HV1.out.1.below hb4);clear hSc hS4 hap hfp hb4;go_upto_region 13 with(fail)
    go_loopw [9] (fun s9 wr=>∃ i2:Nat,s9 = .int .i64 i2/\i2<=m/\Hid (∃ X,Stt W wr W.heap.size cb (ledF Ml ((gm.take i2).map (·.1))) X/\Stt W wr W.heap.size mb Ml X2/\(∀ b∈X2.fp mb,b∉X.fp cb)/\VS wr wO.heap.size W.heap.size (.slice va vn vc) (viewsM Ml.all))) (fun s9 _=>m-(intOf s9).toNat)
    case atStart=>exact⟨0,rfl,Nat.zero_le _,hid ⟨Xc,HC.out.1,HC.out.2.1,HC.out.2.2.1,HC.out.2.2.2⟩⟩
    case round =>
     obtain⟨i2,rfl,hi2,hR2⟩:=hrel;obtain⟨wP,hwP⟩:∃ q,q=wr:=⟨_,rfl⟩
     subst hwP;obtain⟨Y2,hSc,hSm,hap,hV⟩:=hR2.out;by_cases hlt2:i2<m
     ·have hig:i2<gm.length:=by rw[<-H.out.2.2.2.2.2];exact hlt2
      obtain⟨g,hgi⟩:∃ g,gm[i2]? = some g:=⟨_,List.getElem?_eq_getElem hig⟩
      have hgm:g∈gm:=List.mem_of_getElem? hgi;obtain⟨bb,bo,ea,en,ec,hia,hds,hrow⟩:=H.out.2.2.1.at hgi;obtain⟨r0,r1,r2,r3,r4,r5,r6⟩:=hrow wP hSc.b;have HD:=hid (hSc.step g.1 (.slice ea en ec) hds (HFA.out.2.2 g hgm) (H.out.2.2.2.1 g hgm));have HG:=hid hgi;have HK:=jd4 hSc hSm hap hV;clear hig hgi hgm hrow hds hSc hSm hap hV
      go_wp2_with (go_at_call 14;refine HD.out.mono ?_;rintro e w5 ⟨r5v,lv5,X5,rfl,_,_,hS5,hst5⟩;have HS5:=jd2 hS5 hst5;clear hS5 hst5)
      go_roundw
      case measure=>simp only[intOf];omega
      case rel =>
       have h9:=HK.out.2.1.other HK.out.1 HS5.out.2 HK.out.2.2.1;exact⟨i2+1,by go_num,by omega,hid ⟨X5,by rw[ledF_take HG.out];exact HS5.out.1,h9.1,h9.2,HK.out.2.2.2.stp HK.out.1.mo HS5.out.2⟩⟩
     ·obtain rfl:i2=m:=by omega
      obtain⟨Mf,hMf⟩:∃ q,q=ledF Ml ((gm.take i2).map (·.1)):=⟨_,rfl⟩
      rw[<-hMf] at hSc;have HS2:=jd5 hSc hSm hap hV hMf;clear hSc hSm hap hV hMf
      go_wp2_with fail
      refine HS2.out.2.1.views.mono ?_;rintro e wA ⟨v2,rfl,hV2,hbA⟩;have hcA:=HS2.out.1.below hbA;have hmA:=HS2.out.2.1.below hbA;have hvA:=HS2.out.2.2.2.1.below hbA;obtain⟨xa,xc,rfl⟩:=hV2.len;obtain⟨xn,hxn⟩:∃ q,q=(viewsM Ml.all).length:=⟨_,rfl⟩
      have hxn16:xn<=16:=by rw[hxn];exact views_len16 hmA
      rw[<-hxn] at hV2 ⊢;have HA:=jd4 hV2 hvA hbA hxn;clear hV2 hcA hmA hvA hbA hxn
      go_wp2_with fail
      refine(same_any (vs:=viewsM Ml.all) HA.out.1.vr HA.out.2.1.vr).mono ?_;rintro e wB ⟨rfl,hbB⟩;have hV2B:=HA.out.1.below hbB;have hbPB:=HA.out.2.2.1.trans (hbB.mono HA.out.2.2.1.size);obtain⟨vg,hve,hvo,hvi⟩:=hV2B;have hvgl:vg.length=xn:=by rw[HA.out.2.2.2];rw[hve,List.length_map]
      have hd16:∀ g∈vg,g.v.data.length<=65536:=fun g hg=>by
       have h1:g.v∈viewsM Ml.all:=by rw[hve];exact List.mem_map.2 ⟨g,hg,rfl⟩
       obtain⟨k,hk,e⟩:=List.getElem_of_mem h1;obtain⟨nm,im,_,hf,h2,_⟩:=views_at hk;have h3:=view_len HS2.out.2.1.oks hf;have h4:=(HS2.out.2.1.oks nm im hf).size;rw[<-e,h2,h3];omega
      have hsp:Spo wP wB xa xn xc vg:=⟨hbPB,hvo,fun g hg=>⟨_,(hvi g hg).d,rfl⟩⟩
      have hlx:∀ w',(Builtin.len_ #[38] 3 #[.slice xa xn xc]).run prog w' = .ok (.int .i64 xn) w':=fun w'=>len_sl underlying38 rfl w';have HB:=jd3 hsp hvgl hd16;clear hbPB hve hvo hvi hvgl hd16 hsp hbB;go_upto_region 19 with(fail)
      go_loopw [12] (fun s12 wr=>∃ i3:Nat,s12 = .int .i64 i3/\i3<=xn/\Hid (Spo wP wr xa xn xc vg)) (fun s12 _=>xn-(intOf s12).toNat)
      case atStart=>exact⟨0,rfl,Nat.zero_le _,hid HB.out.1⟩
      case round =>
       obtain⟨i3,rfl,hi3,hR3⟩:=hrel;obtain⟨wC,hwC⟩:∃ q,q=wr:=⟨_,rfl⟩
       subst hwC;by_cases hlt3:i3<xn
       ·obtain⟨g,hg⟩:∃ g,vg[i3]? = some g:=⟨_,List.getElem?_eq_getElem (by rw[HB.out.2.1];exact hlt3)⟩
        have hgm:g∈vg:=List.mem_of_getElem? hg;obtain⟨L,hL⟩:∃ L,L=g.v.data.length:=⟨_,rfl⟩
        have hL16:L<=65536:=by rw[hL];exact HB.out.2.2 g hgm
        obtain⟨da,dc,hdv⟩:∃ a c,g.dv = .slice a L c:=by
         obtain⟨bs,h1,h2⟩:=hR3.out.d g hgm;exact ownB_k (n:=L) h1 (by rw[h2,hL])
        have hgl:=hL;have HG:=jd4 hg hgm hdv hL;have hlL:∀ w',(Builtin.len_ #[23] 3 #[.slice da L dc]).run prog w' = .ok (.int .i64 L) w':=fun w'=>len_sl underlying23 rfl w';clear hg hgm hdv hL hgl;go_upto_region 22 with(fail)
        go_loopw [13] (fun s13 wr=>∃ k:Nat,s13 = .int .i64 k/\k<=L/\Hid (Spo wP wr xa xn xc vg)) (fun s13 _=>L-(intOf s13).toNat)
        case atStart=>exact⟨0,rfl,Nat.zero_le _,hR3⟩
        case round =>
         obtain⟨k,rfl,hk,hR4⟩:=hrel;obtain⟨wD,hwD⟩:∃ q,q=wr:=⟨_,rfl⟩
         subst hwD;have hil:i3<(vg.map vrow).length:=by rw[List.length_map,HB.out.2.1];exact hlt3
         obtain⟨bb,bo,hia,hrow⟩:=slG_addrs hR4.out.o.slG (t:=38) underlying38 size45 i3 hil;rw[show(vg.map vrow).getD i3 []=vrow g by rw[List.getD_eq_getElem?_getD,List.getElem?_map,HG.out.1];rfl] at hrow;have d3:wD.cell? ⟨bb,bo+3,none⟩=some (.slice da L dc):=by have:=hrow wD (Below.refl _ _) 3 g.dv rfl;rw[HG.out.2.2.1] at this;exact this
         by_cases hkL:k<L
         ·obtain⟨bs,ho,hbl⟩:=hR4.out.d g HG.out.2.1;rw[HG.out.2.2.1] at ho;obtain⟨gq,rfl⟩:∃ gq,da=some ⟨gq,0,none⟩:=by
           rcases OwnB.shape ho with⟨h,_⟩|⟨g9,c,h,_⟩
           ·cases h;omega
           ·cases h;exact⟨_,rfl⟩
          have hfz:=OwnB.fz ho k;have hck:=OwnB.cellAt ho k (by rw[hbl,<-HG.out.2.2.2];exact hkL);obtain⟨c9,f9,hq9⟩:=ownB_type ho gq rfl;have hlo:wP.heap.size<=gq:=by
           rcases OwnB.shape ho with⟨h,_⟩|⟨g9,c,h,h1,_⟩
           ·cases h
           ·cases h;exact h1
          have hput:=hR4.out.put hq9 hlo k 255;have HP:=hid hput;clear hput hq9 ho hbl hrow hil hR4
          go_wp2_with fail
          go_roundw
          case measure=>simp only[intOf];omega
          case rel=>exact⟨k+1,by go_num,by omega,hid HP.out⟩
         ·obtain rfl:k=L:=by omega
          clear hrow hil
          go_wp2_with fail
          go_roundw
          case measure=>simp only[intOf];omega
          case rel=>exact⟨i3+1,by go_num,by omega,hR4⟩
       ·obtain rfl:i3=xn:=by omega
        have hcC:=HS2.out.1.below hR3.out.b;have hmC:=HS2.out.2.1.below hR3.out.b;have HC3:=jd3 hcC hmC (fun b hb hc=>HS2.out.2.2.1 b hc hb:∀ b∈Y2.fp cb,b∉X2.fp mb);clear hcC hmC;go_upto_region 26 with(fail)
        go_loopw [14] (fun s14 wr=>∃ i5:Nat,s14 = .int .i64 i5/\i5<=i2/\Hid (∃ X,Stt W wr W.heap.size mb (ledF Ml ((gm.take i5).map (·.1))) X/\Stt W wr W.heap.size cb Mf Y2/\(∀ b∈Y2.fp cb,b∉X.fp mb))) (fun s14 _=>i2-(intOf s14).toNat)
        case atStart=>exact⟨0,rfl,Nat.zero_le _,hid ⟨X2,HC3.out.2.1,HC3.out.1,HC3.out.2.2⟩⟩
        case round =>
         obtain⟨i5,rfl,hi5,hR5⟩:=hrel;obtain⟨wE,hwE⟩:∃ q,q=wr:=⟨_,rfl⟩
         subst hwE;obtain⟨Z2,hSm,hSc,hap⟩:=hR5.out;by_cases hlt5:i5<i2
         ·have hig:i5<gm.length:=by rw[<-H.out.2.2.2.2.2];exact hlt5
          obtain⟨g,hgi⟩:∃ g,gm[i5]? = some g:=⟨_,List.getElem?_eq_getElem hig⟩
          have hgm:g∈gm:=List.mem_of_getElem? hgi;obtain⟨bb,bo,ea,en,ec,hia,hds,hrow⟩:=H.out.2.2.1.at hgi;obtain⟨r0,r1,r2,r3,r4,r5,r6⟩:=hrow wE hSm.b;have HD:=hid (hSm.step g.1 (.slice ea en ec) hds (HFA.out.2.2 g hgm) (H.out.2.2.2.1 g hgm));have HG:=hid hgi;have HK:=jd3 hSm hSc hap;clear hig hgi hgm hrow hds hSc hSm hap
          go_wp2_with (go_at_call 14;refine HD.out.mono ?_;rintro e w5 ⟨r5v,lv5,X5,rfl,_,_,hS5,hst5⟩;have HS5:=jd2 hS5 hst5;clear hS5 hst5)
          go_roundw
          case measure=>simp only[intOf];omega
          case rel =>
           have h9:=HK.out.2.1.other HK.out.1 HS5.out.2 HK.out.2.2;exact⟨i5+1,by go_num,by omega,hid ⟨X5,by rw[ledF_take HG.out];exact HS5.out.1,h9.1,h9.2⟩⟩
         ·obtain rfl:i5=i2:=by omega
          rw[<-HS2.out.2.2.2.2] at hSm;have HE:=jd2 hSm hSc;clear hSm hSc hap
          go_wp2_with fail
          refine HE.out.1.views.mono ?_;rintro e wF ⟨v3,rfl,hV3,hbF⟩;have HF:=jd2 hV3 (HE.out.2.below hbF);clear hV3 hbF
          go_wp2_with fail
          refine HF.out.2.views.mono ?_;rintro e wG ⟨v4,rfl,hV4,hbG⟩;have HG2:=jd3 (HF.out.1.below hbG) hV4 (HF.out.2.below hbG);clear hV4 hbG
          go_wp2_with fail
          refine(same_any (vs:=viewsM Mf.all) HG2.out.1.vr HG2.out.2.1.vr).mono ?_;rintro e wI ⟨rfl,hbI⟩;have HI:=hid (HG2.out.2.2.below hbI);clear hbI
          go_wp2_with fail
          refine(HAW.out _).mono ?_;rintro e wg ⟨rfl,hbg⟩;have hend:=(HI.out.below hbg).b;clear hbg
          go_wp2_with fail
          go_ret
          exact⟨rfl,hend⟩
 ·refine(HAW.out _).mono ?_;rintro e w2 ⟨rfl,hb2⟩;have hb12:=HB1.out.trans (hb2.mono HB1.out.size)
  go_wp2_with fail
  go_ret
  exact⟨rfl,hb12⟩
theorem copies_law (gs:List (Cm×Value))(v:Value)(gm:List (Cm×Value))(u:Value)(W:World)(hs:SlC W v gs)(hw:∀ g∈gs,(Lit.int .i64 g.1.kind).wf=true)(hs2:SlC W u gm)(hw2:∀ g∈gm,(Lit.int .i64 g.1.kind).wf=true)(hn:(gs.length+gm.length)*88<=140737488355328) :
 Calls prog 9 #[v,u] W fun e w'=>e = .returned (.bool true)/\Below W.heap.size W w':=copies_any hs hw hs2 hw2 hn
end Go.Proofs.YtgkabcaodnofnaaGreat
