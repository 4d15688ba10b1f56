import Derived.Test.YtgkabcaodnofnaaGreatVA
import Derived.Test.YtgkabcaodnofnaaGreatVB
import Derived.Test.YtgkabcaodnofnaaGreatB02
set_option linter.unusedSimpArgs false
set_option linter.unusedVariables false
set_option maxRecDepth 100000
set_option maxHeartbeats 3000000
open Go.Proofs.Tryz
namespace Go.Proofs.YtgkabcaodnofnaaGreat
open Go.RowKit Go.Mx Go.Md
theorem refused_any {W:World}{v:Value}{gs:List (Cm×Value)}{c:Cm}{da:Option Addr}{dn dc:Nat}(hs:SlC W v gs)(hw:∀ g∈gs,(Lit.int .i64 g.1.kind).wf=true)(hd:SlB W W.heap.size (.slice da dn dc) c.data)(hk:(Lit.int .i64 c.kind).wf=true)(hn:(gs.length+1)*88<=140737488355328) :
  Calls prog 3 #[v,cmV c (.slice da dn dc)] W fun e w'=>e = .returned (.bool true)/\Below W.heap.size W w':=by
 have hla:=fun w'=>hs.o.len (P:=prog) (t:=22) (ty:=3) underlying22 w';obtain⟨n,hn'⟩:∃ n,n=gs.length:=⟨_,rfl⟩
 rw[List.length_map,<-hn'] at hla;have hq:∀ mb (w':World),(binOp .eql 28 (pt mb) (.pointer none)).run prog w' = .ok (.bool false) w':=fun mb w'=>by simp[go_sem]
 have HAW:=hid awake_any;obtain⟨w1,hw1⟩:∃ q,q=W.alloc (.cells #[.int .i64 c.kind,str c.name,str c.tt,.int .i64 c.a,.int .i64 c.n,.int .i64 c.m,.slice da dn dc] 25):=⟨_,rfl⟩
 have hb1:Below W.heap.size W w1:=by rw[hw1];exact(Below.refl _ _).alloc (Nat.le_refl _) _
 have hz1:w1.heap.size=W.heap.size+1:=by rw[hw1];simp
 have hq1:w1.heap[W.heap.size]? = some (.cells #[.int .i64 c.kind,str c.name,str c.tt,.int .i64 c.a,.int .i64 c.n,.int .i64 c.m,.slice da dn dc] 25 (0,0)):=by rw[hw1];exact alloc_new W _
 have hbox:∀ w',Below w1.heap.size w1 w'->w'.heap[W.heap.size]? = some (.cells #[.int .i64 c.kind,str c.name,str c.tt,.int .i64 c.a,.int .i64 c.n,.int .i64 c.m,.slice da dn dc] 25 (0,0)):=fun w' hB=>(hB.block _ (by omega)).trans hq1;have c0:∀ w',Below w1.heap.size w1 w'->w'.cell? ⟨W.heap.size,0,none⟩=some (.int .i64 c.kind):=fun w' hB=>by simp[World.cell?,hbox w' hB]
 have c1:∀ w',Below w1.heap.size w1 w'->w'.cell? ⟨W.heap.size,1,none⟩=some (str c.name):=fun w' hB=>by simp[World.cell?,hbox w' hB]
 have c2:∀ w',Below w1.heap.size w1 w'->w'.cell? ⟨W.heap.size,2,none⟩=some (str c.tt):=fun w' hB=>by simp[World.cell?,hbox w' hB]
 have c3:∀ w',Below w1.heap.size w1 w'->w'.cell? ⟨W.heap.size,3,none⟩=some (.int .i64 c.a):=fun w' hB=>by simp[World.cell?,hbox w' hB]
 have c4:∀ w',Below w1.heap.size w1 w'->w'.cell? ⟨W.heap.size,4,none⟩=some (.int .i64 c.n):=fun w' hB=>by simp[World.cell?,hbox w' hB]
 have c5:∀ w',Below w1.heap.size w1 w'->w'.cell? ⟨W.heap.size,5,none⟩=some (.int .i64 c.m):=fun w' hB=>by simp[World.cell?,hbox w' hB]
 have c6:∀ w',Below w1.heap.size w1 w'->w'.cell? ⟨W.heap.size,6,none⟩=some (.slice da dn dc):=fun w' hB=>by simp[World.cell?,hbox w' hB]
 have H:=jd6 hs hw hd hk hn hn';have HW1:=jd2 hb1 hz1;clear hs hw hd hk hn hn' hbox hq1 hb1 hz1;go_enter func3,ntmps3
 go_wp2_with fail
 rw[<-hw1];clear hw1
 go_cut [17] from 18 (fun s17 wx=>∃ b:Bool,s17 = .bool b/\Hid ((b=false->FitAll (gs++[(c,.slice da dn dc)]))/\Below w1.heap.size w1 wx))
 case first =>
  refine wp_region_held_drew (S:=(fun w'=>Below w1.heap.size w1 w')) (by kernel_rfl) (Below.refl _ _).drew (fun hHeld=>?_);refine sk 1 ?_;try simp only[nk]
  refine sk 3 ?_;try simp only[nk]
  have hsl:∀ w',Below w1.heap.size w1 w'->SlG w' W.heap.size 7 v (gs.map crow):=fun w' hB=>H.out.1.o.below (HW1.out.1.trans (hB.mono (by rw[HW1.out.2];omega))) (Nat.le_refl _);refine wpAnyH_ready (rs:=[0,4]) (by kernel_rfl) (by simp) (AllReadyH.cons rfl (fun K hK=>?_) (AllReadyH.cons rfl (fun K hK=>?_) AllReadyH.nil))
  ·go_simp
   refine hK.out _ _ ((Below.refl _ _).drew.alloc (Nat.le_refl _) _) (fun hHeld=>?_);clear hK K
   try simp only[nk]
   have ho1:=ownG_empty w1.drew 25 7;refine wpAnyH_ready (rs:=[2,4]) (by kernel_rfl) (by simp) (AllReadyH.cons rfl (fun K hK=>?_) (AllReadyH.cons rfl (fun K hK=>?_) AllReadyH.nil))
   ·refine step_append_sg _ (by rfl) (.tmp 11) (.tmp 12) 22 25 _ 7 88 (by rfl) underlying22 info25 rfl (by decide) w1.heap.size (.slice (some ⟨w1.heap.size,0,none⟩) 0 0) [] (by rfl) ho1 W.heap.size v (gs.map crow) (by rfl) (hsl _ hHeld) (crow_lens gs) (crow_ones H.out.1) (by rw[List.length_map];have:=H.out.2.2.2.2.1;simp;omega) (by rw[List.length_map];have:=H.out.2.2.2.2.1;simp;omega) (by have:=hHeld.size;omega) ?_;intro v3 w3 ho3 hg3 hb3;have hB3:=hHeld.trans hb3;refine hK.out _ _ (hB3) (fun hHeld=>?_);clear hK K
    try simp only[nk]
    refine wpAnyH_ready (rs:=[4]) (by kernel_rfl) (by simp) (AllReadyH.cons rfl (fun K hK=>?_) AllReadyH.nil);go_simp
    have hoX:=ho3.below (w':=w3.alloc (.cells #[.int .i64 c.kind,str c.name,str c.tt,.int .i64 c.a,.int .i64 c.n,.int .i64 c.m,.slice da dn dc] 25)) (Below.alloc (Below.refl _ _) (Nat.le_refl _) _) (Nat.le_refl _);refine hK.out _ _ (Below.alloc (by assumption) (Below.size (by assumption)) _) (fun hHeld=>?_);clear hK K
    try simp only[nk]
    refine wpAnyH_ready (rs:=[5]) (by kernel_rfl) (by simp) (AllReadyH.cons rfl (fun K hK=>?_) AllReadyH.nil);refine step_append_g _ (by rfl) (.tmp 13) (.tmp 15) 22 25 _ 7 88 (by rfl) underlying22 info25 rfl (by decide) w1.heap.size _ ([]++gs.map crow) (by rfl) hoX w3.heap.size 1 (crow (c,.slice da dn dc)) (by rfl) rfl (row_cells w3 (crow (c,.slice da dn dc)) 25) (crow_one ⟨_,_,_,rfl⟩) (by have:=H.out.2.2.2.2.1;simp;omega) (by have:=H.out.2.2.2.2.1;simp;omega) (by have:=hHeld.size;omega) ?_;intro v5 w5 ho5 hg5 hb5;have hB5:=hHeld.trans hb5;refine hK.out _ _ (hB5) (fun hHeld=>?_);clear hK K
    try simp only[nk]
    refine wpAnyH_ready (rs:=[6]) (by kernel_rfl) (by simp) (AllReadyH.cons rfl (fun K hK=>?_) AllReadyH.nil);have hC5:=slc_app (g:=(c,.slice da dn dc)) H.out.1 (HW1.out.1.trans (hB5.mono (by rw[HW1.out.2];omega))) H.out.2.2.1 (by simpa using ho5);have HH5:=hid (heavy_any hC5);clear hC5;go_simp
    go_wp2_with (go_at_call 11;refine HH5.out.mono ?_;rintro e w6 ⟨b6,rfl,hf6,hb6⟩)
    refine hK.out _ _ (hB5.trans (hb6.mono hB5.size)) (fun hHeld6=>?_);clear hK K
    try simp only[nk]
    refine wpAnyH_done (by kernel_rfl) ?_ _;have HF6:=jd2 hf6 hHeld6;clear hf6 hHeld6 hb6 HH5
    go_wp2_with fail
    go_meet
    case rel=>exact⟨b6,rfl,HF6⟩
   ·go_simp
    have ho2:=ho1.below (w':=(w1.drew.alloc (.cells #[] 25)).alloc (.cells #[.int .i64 c.kind,str c.name,str c.tt,.int .i64 c.a,.int .i64 c.n,.int .i64 c.m,.slice da dn dc] 25)) (Below.alloc (Below.refl _ _) (Nat.le_refl _) _) (Nat.le_refl _);have hrw:=row_cells (w1.drew.alloc (.cells #[] 25)) (crow (c,.slice da dn dc)) 25;rw[show(w1.drew.alloc (.cells #[] 25)).heap.size=w1.heap.size+1 by simp] at hrw;refine hK.out _ _ (Below.alloc (by assumption) (Below.size (by assumption)) _) (fun hHeld=>?_);clear hK K
    try simp only[nk]
    refine wpAnyH_ready (rs:=[2]) (by kernel_rfl) (by simp) (AllReadyH.cons rfl (fun K hK=>?_) AllReadyH.nil);refine step_append_sg _ (by rfl) (.tmp 11) (.tmp 12) 22 25 _ 7 88 (by rfl) underlying22 info25 rfl (by decide) w1.heap.size (.slice (some ⟨w1.heap.size,0,none⟩) 0 0) [] (by rfl) ho2 W.heap.size v (gs.map crow) (by rfl) (hsl _ hHeld) (crow_lens gs) (crow_ones H.out.1) (by rw[List.length_map];have:=H.out.2.2.2.2.1;simp;omega) (by rw[List.length_map];have:=H.out.2.2.2.2.1;simp;omega) (by have:=hHeld.size;omega) ?_;intro v3 w3 ho3 hg3 hb3;have hB3:=hHeld.trans hb3;refine hK.out _ _ (hB3) (fun hHeld=>?_);clear hK K
    try simp only[nk]
    have hoX:=ho3;refine wpAnyH_ready (rs:=[5]) (by kernel_rfl) (by simp) (AllReadyH.cons rfl (fun K hK=>?_) AllReadyH.nil);refine step_append_g _ (by rfl) (.tmp 13) (.tmp 15) 22 25 _ 7 88 (by rfl) underlying22 info25 rfl (by decide) w1.heap.size _ ([]++gs.map crow) (by rfl) hoX (w1.heap.size+1) 1 (crow (c,.slice da dn dc)) (by rfl) rfl (fun j u hj=>hg3.cell (hrw j u hj) (by simp[Value.ownBlock])) (crow_one ⟨_,_,_,rfl⟩) (by have:=H.out.2.2.2.2.1;simp;omega) (by have:=H.out.2.2.2.2.1;simp;omega) (by have:=hHeld.size;omega) ?_;intro v5 w5 ho5 hg5 hb5;have hB5:=hHeld.trans hb5;refine hK.out _ _ (hB5) (fun hHeld=>?_);clear hK K
    try simp only[nk]
    refine wpAnyH_ready (rs:=[6]) (by kernel_rfl) (by simp) (AllReadyH.cons rfl (fun K hK=>?_) AllReadyH.nil);have hC5:=slc_app (g:=(c,.slice da dn dc)) H.out.1 (HW1.out.1.trans (hB5.mono (by rw[HW1.out.2];omega))) H.out.2.2.1 (by simpa using ho5);have HH5:=hid (heavy_any hC5);clear hC5;go_simp
    go_wp2_with (go_at_call 11;refine HH5.out.mono ?_;rintro e w6 ⟨b6,rfl,hf6,hb6⟩)
    refine hK.out _ _ (hB5.trans (hb6.mono hB5.size)) (fun hHeld6=>?_);clear hK K
    try simp only[nk]
    refine wpAnyH_done (by kernel_rfl) ?_ _;have HF6:=jd2 hf6 hHeld6;clear hf6 hHeld6 hb6 HH5
    go_wp2_with fail
    go_meet
    case rel=>exact⟨b6,rfl,HF6⟩
  ·go_simp
   have hrw:∀ j u,(crow (c,.slice da dn dc))[j]? = some u->(w1.drew.alloc (.cells #[.int .i64 c.kind,str c.name,str c.tt,.int .i64 c.a,.int .i64 c.n,.int .i64 c.m,.slice da dn dc] 25)).cell? ⟨w1.heap.size,j,none⟩=some u:=row_cells w1.drew (crow (c,.slice da dn dc)) 25;have hrw2:∀ j u,(crow (c,.slice da dn dc))[j]? = some u->((w1.drew.alloc (.cells #[.int .i64 c.kind,str c.name,str c.tt,.int .i64 c.a,.int .i64 c.n,.int .i64 c.m,.slice da dn dc] 25)).alloc (.cells #[] 25)).cell? ⟨w1.heap.size,j,none⟩=some u:=fun j u hj=>(World.cell?_alloc_some _ _ _ (by rw[hrw j u hj];rfl)).trans (hrw j u hj);refine hK.out _ _ ((Below.refl _ _).drew.alloc (Nat.le_refl _) _) (fun hHeld=>?_);clear hK K
   try simp only[nk]
   refine wpAnyH_ready (rs:=[0]) (by kernel_rfl) (by simp) (AllReadyH.cons rfl (fun K hK=>?_) AllReadyH.nil);go_simp
   have ho1:=ownG_empty (w1.drew.alloc (.cells #[.int .i64 c.kind,str c.name,str c.tt,.int .i64 c.a,.int .i64 c.n,.int .i64 c.m,.slice da dn dc] 25)) 25 7;rw[show(w1.drew.alloc (.cells #[.int .i64 c.kind,str c.name,str c.tt,.int .i64 c.a,.int .i64 c.n,.int .i64 c.m,.slice da dn dc] 25)).heap.size=w1.heap.size+1 by simp] at ho1;refine hK.out _ _ (Below.alloc (by assumption) (Below.size (by assumption)) _) (fun hHeld=>?_);clear hK K
   try simp only[nk]
   try simp only[nk]
   refine wpAnyH_ready (rs:=[2]) (by kernel_rfl) (by simp) (AllReadyH.cons rfl (fun K hK=>?_) AllReadyH.nil);refine step_append_sg _ (by rfl) (.tmp 11) (.tmp 12) 22 25 _ 7 88 (by rfl) underlying22 info25 rfl (by decide) w1.heap.size (.slice (some ⟨w1.heap.size+1,0,none⟩) 0 0) [] (by rfl) (ho1.any_base (Nat.le_succ _)) W.heap.size v (gs.map crow) (by rfl) (hsl _ hHeld) (crow_lens gs) (crow_ones H.out.1) (by rw[List.length_map];have:=H.out.2.2.2.2.1;simp;omega) (by rw[List.length_map];have:=H.out.2.2.2.2.1;simp;omega) (by have:=hHeld.size;omega) ?_;intro v3 w3 ho3 hg3 hb3;have hB3:=hHeld.trans hb3;refine hK.out _ _ (hB3) (fun hHeld=>?_);clear hK K
   try simp only[nk]
   have hoX:=ho3;refine wpAnyH_ready (rs:=[5]) (by kernel_rfl) (by simp) (AllReadyH.cons rfl (fun K hK=>?_) AllReadyH.nil);refine step_append_g _ (by rfl) (.tmp 13) (.tmp 15) 22 25 _ 7 88 (by rfl) underlying22 info25 rfl (by decide) w1.heap.size _ ([]++gs.map crow) (by rfl) hoX w1.heap.size 1 (crow (c,.slice da dn dc)) (by rfl) rfl (fun j u hj=>hg3.cell (hrw2 j u hj) (by simp[Value.ownBlock])) (crow_one ⟨_,_,_,rfl⟩) (by have:=H.out.2.2.2.2.1;simp;omega) (by have:=H.out.2.2.2.2.1;simp;omega) (by have:=hHeld.size;omega) ?_;intro v5 w5 ho5 hg5 hb5;have hB5:=hHeld.trans hb5;refine hK.out _ _ (hB5) (fun hHeld=>?_);clear hK K
   try simp only[nk]
   refine wpAnyH_ready (rs:=[6]) (by kernel_rfl) (by simp) (AllReadyH.cons rfl (fun K hK=>?_) AllReadyH.nil);have hC5:=slc_app (g:=(c,.slice da dn dc)) H.out.1 (HW1.out.1.trans (hB5.mono (by rw[HW1.out.2];omega))) H.out.2.2.1 (by simpa using ho5);have HH5:=hid (heavy_any hC5);clear hC5;go_simp
   go_wp2_with (go_at_call 11;refine HH5.out.mono ?_;rintro e w6 ⟨b6,rfl,hf6,hb6⟩)
   refine hK.out _ _ (hB5.trans (hb6.mono hB5.size)) (fun hHeld6=>?_);clear hK K
   try simp only[nk]
   refine wpAnyH_done (by kernel_rfl) ?_ _;have HF6:=jd2 hf6 hHeld6;clear hf6 hHeld6 hb6 HH5
   go_wp2_with fail
   go_meet
   case rel=>exact⟨b6,rfl,HF6⟩
 case rest =>
  obtain⟨b6,rfl,HF6⟩:=hcut;obtain⟨w6,hw6⟩:∃ q,q=wc:=⟨_,rfl⟩
  subst hw6;cases b6
  ·have hfa:=fit_app (HF6.out.1 rfl);have hn80:n<=80:=by rw[H.out.2.2.2.2.2];exact hfa.1.1
   have hWB:Below W.heap.size W w6:=HW1.out.1.trans (HF6.out.2.mono (by rw[HW1.out.2];omega));have HN:=hid (stt_new w1 w6 w1.heap.size HF6.out.2 (Nat.le_refl _));have HFA:=hid hfa;have hs1:SlC w1 v gs:=H.out.1.below HW1.out.1;have hd1:SlB w1 w1.heap.size (.slice da dn dc) c.data:=(H.out.2.2.1.below HW1.out.1 (Nat.le_refl _)).mono HW1.out.1.size;have H1:=jd2 hs1 hd1;clear hfa hWB hs1 hd1
   go_wp2_with fail
   refine HN.out.mono ?_;rintro e w2 ⟨mb,X1,rfl,hS1⟩;have HS1:=hid hS1;clear hS1;go_upto_region 7 with(fail)
   go_loopw [6] (fun s6 wr=>∃ i:Nat,s6 = .int .i64 i/\i<=n/\Hid (∃ X,Stt w1 wr w1.heap.size mb (ledF M0 ((gs.take i).map (·.1))) X)) (fun s6 _=>n-(intOf s6).toNat)
   case atStart=>exact⟨0,rfl,Nat.zero_le _,hid ⟨X1,HS1.out⟩⟩
   case round =>
    obtain⟨i,rfl,hi,hR⟩:=hrel;obtain⟨wO,hwO⟩:∃ q,q=wr:=⟨_,rfl⟩
    subst hwO;obtain⟨X2,hS⟩:=hR.out;by_cases hlt:i<n
    ·have hig:i<gs.length:=by rw[<-H.out.2.2.2.2.2];exact hlt
     obtain⟨g,hgi⟩:∃ g,gs[i]? = some g:=⟨_,List.getElem?_eq_getElem hig⟩
     have hgm:g∈gs:=List.mem_of_getElem? hgi;obtain⟨bb,bo,ea,en,ec,hia,hds,hrow⟩:=H1.out.1.at hgi;obtain⟨r0,r1,r2,r3,r4,r5,r6⟩:=hrow wO hS.b;have HD:=hid (hS.step g.1 (.slice ea en ec) hds (HFA.out.1.2 g hgm) (H.out.2.1 g hgm));have HG:=hid hgi;clear hig hgi hgm hrow hds hS
     go_wp2_with (go_at_call 14;refine HD.out.mono ?_;rintro e w5 ⟨r5v,lv5,X5,rfl,_,_,hS5,_⟩;have HS5:=hid hS5;clear hS5)
     go_roundw
     case measure=>simp only[intOf];omega
     case rel=>exact⟨i+1,by go_num,by omega,hid ⟨X5,by rw[ledF_take HG.out];exact HS5.out⟩⟩
    ·obtain rfl:i=n:=by omega
     obtain⟨Ml,hMl⟩:∃ q,q=ledF M0 ((gs.take i).map (·.1)):=⟨_,rfl⟩
     rw[<-hMl] at hS;have HS:=hid hS;clear hS hMl
     go_wp2_with fail
     refine HS.out.views.mono ?_;rintro e w3 ⟨v1,rfl,hV1,hb3⟩;have hS3:=HS.out.below hb3;obtain⟨va,vn,vc,rfl⟩:∃ a n c,v1 = .slice a n c:=by obtain⟨a,c,h⟩:=hV1.len;exact⟨a,_,c,h⟩
     have HV1:=jd2 hV1 hS3;clear hV1 hS3 hb3
     go_wp2_with fail
     refine HV1.out.2.keptC.mono ?_;rintro e w4 ⟨kb,XK,rfl,hK,hb4⟩;have HK:=jd3 hK (HV1.out.1.below hb4) (HV1.out.2.below hb4);clear hK hb4
     go_wp2_with fail
     refine HK.out.1.views.mono ?_;rintro e w5 ⟨v2,rfl,hV2,hb5⟩;obtain⟨ya,yn,yc,rfl⟩:∃ a n c,v2 = .slice a n c:=by obtain⟨a,c,h⟩:=hV2.len;exact⟨a,_,c,h⟩
     have hS5:=HK.out.2.2.below hb5;have hV5:=HK.out.2.1.below hb5;have hbB:=hS5.b;have f0:=c0 w5 hbB;have f1:=c1 w5 hbB;have f2:=c2 w5 hbB;have f3:=c3 w5 hbB;have f4:=c4 w5 hbB;have f5:=c5 w5 hbB;have f6:=c6 w5 hbB;have HD:=hid (hS5.step c (.slice da dn dc) H1.out.2 HFA.out.2 H.out.2.2.2.1);have H5:=jd3 hS5 hV5 hV2;clear hS5 hV5 hV2 hb5 hbB c0 c1 c2 c3 c4 c5 c6;go_upto_region 12 with(go_at_call 14;refine HD.out.mono ?_;rintro e w9 ⟨r9,lv9,X9,rfl,hrep,⟨frl,hfo,hfl⟩,hS9,hst9⟩;obtain⟨dv9,nv9,sv9,rfl,ho1,ho2,ho3⟩:=hrep.ex;obtain⟨pa,pn,pc,rfl⟩:=ownB_sh ho1;obtain⟨qa,qn,qc,rfl⟩:=ownG_sh ho2;obtain⟨ta,tn,tc,rfl⟩:=ownG_sh ho3;obtain⟨ua,un,uc,rfl⟩:=ownG_sh hfo;have H9:=jd7 hS9 hst9 ho1 ho2 ho3 hfo hfl;clear hS9 hst9 hrep ho1 ho2 ho3 hfo hfl)
     obtain⟨wR,hwR⟩:∃ z,z=w9.alloc (.cells #[.int .i64 (doM Ml c).2.1.code,.slice pa pn pc,.slice qa qn qc,.slice ta tn tc,.int .i64 (doM Ml c).2.1.n,.int .i64 (doM Ml c).2.1.m] 34):=⟨_,rfl⟩
     change Code.wp _ _ _ _ (w9.alloc (.cells #[.int .i64 (doM Ml c).2.1.code,.slice pa pn pc,.slice qa qn qc,.slice ta tn tc,.int .i64 (doM Ml c).2.1.n,.int .i64 (doM Ml c).2.1.m] 34));rw[<-hwR];have hbR:Below w9.heap.size w9 wR:=by rw[hwR];exact(Below.refl _ _).alloc (Nat.le_refl _) _
     have hqR:wR.heap[w9.heap.size]? = some (.cells #[.int .i64 (doM Ml c).2.1.code,.slice pa pn pc,.slice qa qn qc,.slice ta tn tc,.int .i64 (doM Ml c).2.1.n,.int .i64 (doM Ml c).2.1.m] 34 (0,0)):=by rw[hwR];exact alloc_new w9 _
     obtain⟨cd,hcd⟩:∃ q,q=(doM Ml c).2.1.code:=⟨_,rfl⟩
     rw[<-hcd] at hqR;have hqW:∀ w',Below wR.heap.size wR w'->w'.heap[w9.heap.size]? = some (.cells #[.int .i64 cd,.slice pa pn pc,.slice qa qn qc,.slice ta tn tc,.int .i64 (doM Ml c).2.1.n,.int .i64 (doM Ml c).2.1.m] 34 (0,0)):=fun w' hB=>(hB.block _ (blk_lt hqR)).trans hqR;have e0:wR.cell? ⟨w9.heap.size,0,none⟩=some (.int .i64 cd):=by simp[World.cell?,hqR]
     have hSR:=H9.out.1.below hbR;by_cases h0:cd=0
     ·subst h0;have HSR:=hid hSR;clear hSR hqR hqW hwR hbR hcd
      go_wp2_with fail
      refine(HAW.out _).mono ?_;rintro e wa ⟨rfl,hba⟩;have hend:=HW1.out.1.trans ((HSR.out.below hba).b.mono HW1.out.1.size);clear hba
      go_wp2_with fail
      go_ret
      exact⟨rfl,hend⟩
     ·have hne:(cd==0)=false:=by simpa using h0
      obtain⟨hM,hr,hf0⟩:=doM_refused (M:=Ml) (c:=c) (by rw[<-hcd];exact h0);obtain rfl:pn=0:=by obtain⟨a,c',h⟩:=ownB_k (n:=0) H9.out.2.2.1 (by rw[hr];rfl);cases h;rfl
      obtain rfl:qn=0:=by obtain⟨a,c',h⟩:=ownG_k (n:=0) H9.out.2.2.2.1 (by rw[hr];rfl);cases h;rfl
      obtain rfl:tn=0:=by obtain⟨a,c',h⟩:=ownG_k (n:=0) H9.out.2.2.2.2.1 (by rw[hr];rfl);cases h;rfl
      obtain rfl:un=0:=by obtain⟨a,c',h⟩:=ownG_k (n:=0) H9.out.2.2.2.2.2.1 (frl0 (H9.out.2.2.2.2.2.2.trans hf0));cases h;rfl
      rw[hM] at hSR;have hW1:=(H5.out.2.1.stp H5.out.1.mo H9.out.2.1).below hbR;have hW2:=(H5.out.2.2.stp H5.out.1.mo H9.out.2.1).below hbR;have hlu:∀ w',(Builtin.len_ #[35] 3 #[.slice ua 0 uc]).run prog w' = .ok (.int .i64 0) w':=fun w'=>len_sl underlying35 rfl w';have hlp:∀ w',(Builtin.len_ #[23] 3 #[.slice pa 0 pc]).run prog w' = .ok (.int .i64 0) w':=fun w'=>len_sl underlying23 rfl w';have hlq:∀ w',(Builtin.len_ #[31] 3 #[.slice qa 0 qc]).run prog w' = .ok (.int .i64 0) w':=fun w'=>len_sl underlying31 rfl w';have hlt:∀ w',(Builtin.len_ #[32] 3 #[.slice ta 0 tc]).run prog w' = .ok (.int .i64 0) w':=fun w'=>len_sl underlying32 rfl w';have HSR:=jd3 hSR hW1 hW2;have HQW:=hid hqW;clear hSR hqR hqW hwR hbR hcd hW1 hW2 hM hr hf0
      go_wp2_with fail
      refine HSR.out.1.views.mono ?_;rintro e wa ⟨v3,rfl,hV3,hba⟩;have HA1:=jd5 hV3 (HSR.out.1.below hba) (HSR.out.2.1.below hba) (HSR.out.2.2.below hba) hba;clear hV3 hba
      go_wp2_with fail
      refine(same_any (vs:=viewsM Ml.all) HA1.out.1.vr HA1.out.2.2.1.vr).mono ?_;rintro e wb ⟨rfl,hbb⟩;have HA2:=jd3 (HA1.out.2.1.below hbb) (HA1.out.2.2.2.1.below hbb) (HA1.out.2.2.2.2.trans (hbb.mono HA1.out.2.2.2.2.size));clear hbb
      go_wp2_with fail
      refine HA2.out.1.keptC.mono ?_;rintro e wd ⟨kb3,XK3,rfl,hK3,hbd⟩;have HA3:=jd3 hK3 (HA2.out.2.1.below hbd) (HA2.out.2.2.trans (hbd.mono HA2.out.2.2.size));clear hK3 hbd
      go_wp2_with fail
      refine HA3.out.1.views.mono ?_;rintro e we ⟨v4,rfl,hV4,hbe⟩;have HA4:=jd4 hV4 (HA3.out.1.below hbe) (HA3.out.2.1.below hbe) (HA3.out.2.2.trans (hbe.mono HA3.out.2.2.size));clear hV4 hbe
      go_wp2_with fail
      refine(same_any (vs:=viewsM Ml.kept) HA4.out.1.vr HA4.out.2.2.1.vr).mono ?_;rintro e wf ⟨rfl,hbf⟩;have hqF:=HQW.out wf (HA4.out.2.2.2.trans (hbf.mono HA4.out.2.2.2.size));have g1:wf.cell? ⟨w9.heap.size,1,none⟩=some (.slice pa 0 pc):=by simp[World.cell?,hqF]
      have g2:wf.cell? ⟨w9.heap.size,2,none⟩=some (.slice qa 0 qc):=by simp[World.cell?,hqF]
      have g3:wf.cell? ⟨w9.heap.size,3,none⟩=some (.slice ta 0 tc):=by simp[World.cell?,hqF]
      have HA5:=hid (HA4.out.2.1.below hbf);clear hqF hbf
      go_wp2_with fail
      refine(HAW.out _).mono ?_;rintro e wg ⟨rfl,hbg⟩;have hend:=HW1.out.1.trans ((HA5.out.below hbg).b.mono HW1.out.1.size);clear hbg
      go_wp2_with fail
      go_ret
      exact⟨rfl,hend⟩
  ·go_wp2_with fail
   refine(HAW.out _).mono ?_;rintro e w2 ⟨rfl,hb2⟩;have hb12:=(HW1.out.1.trans (HF6.out.2.mono (by rw[HW1.out.2];omega))).trans (hb2.mono (by have:=HF6.out.2.size;rw[HW1.out.2] at this;omega))
   go_wp2_with fail
   go_ret
   exact⟨rfl,hb12⟩
theorem refused_law (gs:List (Cm×Value))(v:Value)(c:Cm)(dv:Value)(W:World)(hs:SlC W v gs)(hw:∀ g∈gs,(Lit.int .i64 g.1.kind).wf=true)(hd:SlB W W.heap.size dv c.data)(hk:(Lit.int .i64 c.kind).wf=true)(hn:(gs.length+1)*88<=140737488355328) :
  Calls prog 3 #[v,cmV c dv] W fun e w'=>e = .returned (.bool true)/\Below W.heap.size W w':=by
 obtain⟨a,n,cc,rfl⟩:=slB_shape hd;exact refused_any hs hw hd hk hn
end Go.Proofs.YtgkabcaodnofnaaGreat
