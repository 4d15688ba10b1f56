import Derived.Test.YtgkabcaodnofnaaGreatB02
import Derived.Test.YtgkabcaodnofnaaGreatB26
import Derived.Test.YtgkabcaodnofnaaGreatB20
import Derived.Test.YtgkabcaodnofnaaGreatB16
import Derived.Test.YtgkabcaodnofnaaGreatB21
set_option linter.unusedSimpArgs false
set_option linter.unusedVariables false
set_option maxRecDepth 100000
set_option maxHeartbeats 2000000
open Go.Proofs.Tryz
namespace Go.Proofs.YtgkabcaodnofnaaGreat
open Go.RowKit Go.Mx Go.Md
section
variable {w w' w0:World}{base:Nat}{v:Value}{l:List BM}{ps:List PB}
theorem merge123 {g n c:Nat}(h:BMS w base (.slice (some ⟨g,0,none⟩) n c) l ps)(hw0:Below w0.heap.size w0 w)(hg0:w0.heap.size<=g)(hbase:base<=w0.heap.size){k:Nat}{b:BM}(hb:l[k]? = some b){nb:Nat}{mv:Value}(hq:w0.heap[nb]? = some (.cells #[mv] 32 (0,0)))(more:List Sp)(hm:SpS w0 w0.heap.size mv more)(hml:more.length<=3000000000)(o:Nat)(ho:o=k*3) :
  Calls prog 123 #[.pointer (some ⟨g,o,none⟩),pt nb] w fun e w'=>e = .returned (.tuple #[])/\Below w0.heap.size w0 w'/\∃ ps',BMS w' base (.slice (some ⟨g,0,none⟩) n c) (l.set k (mergeL more b)) ps':=by
 obtain⟨p,hp,rfl⟩:=h.pAt hb;obtain⟨la,ln,lc,hlv⟩:=ownG_sh (h.s p (List.mem_of_getElem? hp));have c1:=h.cellAt hp 2 _ rfl;rw[<-ho,hlv] at c1;have hkk:=h.k p.b (List.mem_of_getElem? hb);have HA0:=hid (add_any p.b.l ((0:Int),(0:Int)) p.lv w (by omega) (h.s p (List.mem_of_getElem? hp)).slG);rw[hlv] at HA0;obtain⟨oa,mn,mc,hmv⟩:∃ oa n c,mv = .slice oa n c:=by obtain⟨oa,c,e,_⟩:=hm;exact⟨_,_,_,e⟩
 have hmn:mn=more.length:=by obtain⟨oa',c',e,_⟩:=hm;rw[hmv] at e;cases e;simp
 have q0:∀ W,Below w0.heap.size w0 W->W.cell? ⟨nb,0,none⟩=some (.slice oa mn mc):=fun W hB=>by rw[World.cell?_of_block (hB.block nb (blk_lt hq))];simp[World.cell?,hq,hmv]
 have z0:=(fun W (hB:Below w.heap.size w W)=>(h.below hB).fz (o+2))
 have HQ:=jd8 h hw0 hg0 hbase hp ho hmv hmn;have HM:=hid (fun W (hB:Below w0.heap.size w0 W)=>hm.below hB nlr);have HML:=jd2 hml hb;have HQ0:=hid q0;clear h hw0 hp hkk hq hm ho hml hb hlv hmn;subst hmv;go_enter func123,ntmps123
 go_upto_region 1 with(go_at_call 116;refine HA0.out.mono ?_;rintro e w1 ⟨v1,rfl,ho1,hb1⟩;obtain⟨xa,xn,xc,rfl⟩:=ownG_sh ho1;have c11:w1.cell? ⟨g,o+2,none⟩=some (.slice la ln lc):=(hb1.cell (p:=⟨g,o+2,none⟩) (World.block_lt_of_cell? w _ c1)).trans c1;have z11:=z0 w1 hb1)
 obtain⟨w2,hw2⟩:∃ z,z=w1.setCell ⟨g,o+2,none⟩ (.slice xa xn xc):=⟨_,rfl⟩
 rw[<-hw2];obtain⟨h,hw0,hg0,hbase,hp,ho,hmv,hmn⟩:=HQ.out;have hB2:=(h.below hb1).setL hp (ho1.any_base (Nat.le_trans hbase hw0.size)) (addS_len _ _);rw[<-ho,<-hw2] at hB2;have hb2:Below w0.heap.size w0 w2:=by rw[hw2];exact(hw0.trans (hb1.mono hw0.size)).setCell hg0 _
 have HB2:=jd2 hB2 hb2;have q2:=q0 w2 hb2;obtain⟨R,hR⟩:∃ R,R=rightS (-1) more:=⟨_,rfl⟩
 have HRT:=hid (right_any more (.slice oa mn mc) w2 (by have:=HML.out.1;omega) (SlG.mono (HM.out w2 hb2) hb2.size));rw[<-hR] at HRT;have HR:=hid hR;clear h hw0 hp ho hmv hmn hB2 hb2 hw2 hR c1 c11 z11 z0 ho1 hb1 HA0;cases R
 ·go_wp2_with (go_at_call 124;refine HRT.out.mono ?_;rintro e w3 ⟨rfl,hb3⟩)
  go_end0
  have hG:mergeL more p.b={p.b with l:=addS p.b.l (0,0)}:=by unfold mergeL;rw[<-HR.out];rfl
  rw[hG];exact⟨rfl,HB2.out.2.trans (hb3.mono HB2.out.2.size),_,HB2.out.1.below hb3⟩
 ·have hG:mergeL more p.b={p.b with l:=more.foldl addS (addS p.b.l (0,0))}:=by unfold mergeL;rw[<-HR.out];rfl
  have HG:=hid hG;clear hG;go_upto_region 2 with(go_at_call 124;refine HRT.out.mono ?_;rintro e w3 ⟨rfl,hb3⟩)
  have hb03:=HB2.out.2.trans (hb3.mono HB2.out.2.size);have q3:=q0 w3 hb03;have hlen:∀ w',(Builtin.len_ #[32] 3 #[.slice oa mn mc]).run prog w' = .ok (.int .i64 mn) w':=fun w'=>len_sl underlying32 rfl w';have HB3:=jd2 (HB2.out.1.below hb3) hb03;have hmb:mn<=3000000000:=by have:=HML.out.1;have:=HQ.out.2.2.2.2.2.2.2;omega
  clear hb3 hb03 q2 q0
  go_wp2_with fail
  go_loopw [18] (fun s wr=>∃ (j:Nat) (ps':List PB),s = .int .i64 j/\j<=mn/\Hid (BMS wr base (.slice (some ⟨g,0,none⟩) n c) (l.set k {p.b with l:=(more.take j).foldl addS (addS p.b.l (0,0))}) ps'/\Below w0.heap.size w0 wr)) (fun s _=>mn-(intOf s).toNat)
  case atStart=>exact⟨0,_,rfl,by omega,hid HB3.out⟩
  case round =>
   obtain⟨j,ps',rfl,hj,hR2⟩:=hrel;obtain⟨wO,hwO⟩:∃ x,x=wr:=⟨_,rfl⟩
   subst hwO;by_cases hlt:j<mn
   ·have hlt2:j<more.length:=by have:=HQ.out.2.2.2.2.2.2.2;omega
    obtain⟨bb,bo,hbb,hia,hrow⟩:=(HM.out wO hR2.out.2).addr (P:=prog) underlying32 size111 j (by rw[List.length_map];exact hlt2);obtain⟨s,hs⟩:∃ s,s=more[j]:=⟨_,rfl⟩
    rw[show(more.map spC).getD j []=spC s by rw[hs];simp[List.getD_eq_getElem?_getD,List.getElem?_map,List.getElem?_eq_getElem hlt2]] at hrow;obtain⟨sx,sy⟩:=s;have d0:wO.cell? ⟨bb,bo,none⟩=some (.int .i64 sx):=by have:=hrow 0 _ rfl;simpa using this
    have d1:wO.cell? ⟨bb,bo+1,none⟩=some (.int .i64 sy):=hrow 1 _ rfl;have htk:more.take (j+1)=more.take j++[(sx,sy)]:=by rw[List.take_add_one,List.getElem?_eq_getElem hlt2,hs];rfl
    have HTK:=hid htk;have HJ:=hid hlt2;clear hrow hs htk hlt2;go_upto_region 5 with(fail)
    obtain⟨wA,hwA⟩:∃ z,z=wO.alloc (.cells #[.int .i64 sx,.int .i64 sy] 111):=⟨_,rfl⟩
    rw[<-hwA];have hbA:Below wO.heap.size wO wA:=by rw[hwA];exact brf.alloc nlr _
    have hqA:wA.heap[wO.heap.size]? = some (.cells #[.int .i64 sx,.int .i64 sy] 111 (0,0)):=by rw[hwA];exact alloc_new wO _
    have hBA:=hR2.out.1.below hbA;have hkl:k<l.length:=(List.getElem?_eq_some_iff.1 HML.out.2).1;have hbk:(l.set k {p.b with l:=(more.take j).foldl addS (addS p.b.l (0,0))})[k]? = some {p.b with l:=(more.take j).foldl addS (addS p.b.l (0,0))}:=by rw[List.getElem?_set_self hkl]
    obtain⟨p',hp',hpb⟩:=hBA.pAt hbk;obtain⟨ta,tn,tc,hlv'⟩:=ownG_sh (hBA.s p' (List.mem_of_getElem? hp'));have e1:=hBA.cellAt hp' 2 _ rfl;obtain⟨h,hw0,hg0,hbase,hp,ho,hmv,hmn⟩:=HQ.out;clear hmn hmv;rw[<-ho,hlv'] at e1;have kL:∀ w',Below wA.heap.size wA w'->w'.cell? ⟨g,o+2,none⟩=some (.slice ta tn tc):=fun w' hB=>(hB.cell (p:=⟨g,o+2,none⟩) (World.block_lt_of_cell? wA _ e1)).trans e1;have kx0:∀ w',Below wA.heap.size wA w'->w'.cell? ⟨wO.heap.size,0,none⟩=some (.int .i64 sx):=fun w' hB=>by rw[World.cell?_of_block (hB.block _ (blk_lt hqA))];simp[World.cell?,hqA]
    have kx1:∀ w',Below wA.heap.size wA w'->w'.cell? ⟨wO.heap.size,1,none⟩=some (.int .i64 sy):=fun w' hB=>by rw[World.cell?_of_block (hB.block _ (blk_lt hqA))];simp[World.cell?,hqA]
    have kz:∀ w',Below wA.heap.size wA w'->w'.frozen? ⟨g,o+2,none⟩=false:=fun w' hB=>(hBA.below hB).fz _;have hpl:=hBA.k p'.b (by rw[hpb];exact List.mem_of_getElem? hbk);have HA:=hid (fun w' (hB:Below wA.heap.size wA w')=>add_any p'.b.l (sx,sy) p'.lv w' (by omega) ((hBA.s p' (List.mem_of_getElem? hp')).below hB nlr).slG);rw[hlv'] at HA;have hbw:Below w0.heap.size w0 wA:=hR2.out.2.trans (hbA.mono hR2.out.2.size);have HX:=jd7 hBA hp' hpb hbw ho hg0 hbase;have hB0:Below wA.heap.size wA wA.drew:=brf.drew;clear hwA hbA hqA hBA hkl hbk hp' hpb hlv' e1 h hw0 hg0 hbase hp ho hpl hbw d0 d1 q3;refine wp_region_K 9 (fun w'=>Below wA.heap.size wA w') (by kernel_rfl) ?_;refine qk 0 ?_;try simp only[nk]
    refine qk 1 ?_;try simp only[nk]
    refine qk 2 ?_;try simp only[nk]
    refine qk 3 ?_;try simp only[nk]
    refine rq 4 ?_;try simp only[nk]
    refine rq 5 ?_;try simp only[nk]
    refine wpAnyK_ready (rs:=[6]) (by kernel_rfl) (by simp) (AllReadyK.cons rfl (fun K hK=>?_) AllReadyK.nil);go_simp
    go_wp2_with (go_at_call 116;refine(HA.out _ brf.drew).mono ?_;rintro e w5 ⟨v5,rfl,ho5,hb5c⟩;obtain⟨ya,yn,yc,rfl⟩:=ownG_sh ho5;have hb5:Below wA.heap.size wA w5:=brf.drew.trans hb5c;have hc5:=kL w5 hb5;have hz5:=kz w5 hb5)
    refine hK.out _ _ (fun _=>hb5) ?_;clear hK K
    try simp only[nk]
    refine qk 7 ?_;try simp only[nk]
    refine qk 8 ?_;try simp only[nk]
    refine wpAnyK_ready (rs:=[9]) (by kernel_rfl) (by simp) (AllReadyK.cons rfl (fun K hK=>?_) AllReadyK.nil);go_simp
    refine hK.out _ _ (fun h=>by cases h) ?_;clear hK K
    try simp only[nk]
    refine wpAnyK_done (by kernel_rfl) ?_ _;obtain⟨hBA,hp',hpb,hbw,ho,hg0,hbase⟩:=HX.out;obtain⟨w7,hw7⟩:∃ z,z=w5.setCell ⟨g,o+2,none⟩ (.slice ya yn yc):=⟨_,rfl⟩
    have hB7:=(hBA.below hb5).setL hp' (ho5.any_base (Nat.le_trans hbase hbw.size)) (addS_len _ _);rw[<-ho,<-hw7,hpb,List.set_set] at hB7;have hb7:Below w0.heap.size w0 w7:=by rw[hw7];exact(hbw.trans (hb5.mono hbw.size)).setCell hg0 _
    have hfold:addS ((more.take j).foldl addS (addS p.b.l (0,0))) (sx,sy)=(more.take (j+1)).foldl addS (addS p.b.l (0,0)):=by rw[HTK.out,List.foldl_append];rfl
    simp only at hB7;rw[hfold] at hB7;have HY:=jd2 hB7 hb7;have HW7:=hid hw7;clear hBA hp' hpb hbw ho hg0 hbase hw7 hB7 hb7 hfold ho5 hb5c hb5 hc5 hz5 kL kx0 kx1 kz hB0
    go_wp2_with fail
    go_roundw
    case rel=>exact⟨j+1,_,by go_num,by have h1:=HJ.out;have h2:=HQ.out.2.2.2.2.2.2.2;omega,hid (by rw[<-HW7.out];exact HY.out)⟩
    case measure=>have h1:=HJ.out;have h2:=HQ.out.2.2.2.2.2.2.2;simp[intOf];omega
   ·obtain rfl:j=mn:=by omega
    clear q3
    go_wp2
    go_end0
    have h9:=hR2.out.1;rw[HQ.out.2.2.2.2.2.2.2,List.take_length] at h9;rw[HG.out];exact⟨rfl,hR2.out.2,_,h9⟩
theorem turnMerge (h:BMS w base v l ps)(hbase:base<=w.heap.size)(n:Bs){nb:Nat}{mv:Value}(hq:w.heap[nb]? = some (.cells #[mv] 32 (0,0)))(more:List Sp)(hm:SpS w w.heap.size mv more)(hml:more.length<=3000000000):Calls prog 120 #[v,str n,.func (.func 123) #[] #[pt nb]] w fun e w'=>∃ v' ps',e = .returned (.tuple #[v',.int .i64 (modBM l n (mergeL more)).1])/\BMS w' base v' (modBM l n (mergeL more)).2 ps'/\Below w.heap.size w w':=by
 have HPL:=hid (place118 h n);have HO:=hid (fun w' (hB:Below w.heap.size w w')=>own_any (h.below hB) (Nat.le_trans hbase hB.size));have H:=jd2 h hbase;obtain⟨sa,sn,sc,hsv⟩:=ownG_sh h.o;rw[hsv] at HPL HO ⊢;clear h hbase hsv;have HQ:=jd3 hq hm hml;clear hq hm hml;cases hpn:posN (l.map (·.name)) n with
 | none =>
  have hF:modBM l n (mergeL more)=(4,[]):=by unfold modBM;rw[hpn]
  rw[hF];rw[posI_none hpn] at HPL;clear hpn hF;go_enter func120,ntmps120
  go_wp2_with (go_at_call 118;refine HPL.out.mono ?_;rintro e w5 ⟨rfl,hb5⟩)
  go_ret2
  exact⟨_,[],rfl,BMS.nil _ _,hb5⟩
 | some k =>
  have hk:=posN_lt hpn;rw[List.length_map] at hk;obtain⟨b,hlb⟩:∃ b,l[k]? = some b:=⟨_,List.getElem?_eq_getElem hk⟩
  have hF:modBM l n (mergeL more)=(0,l.set k ((mergeL more) b)):=by unfold modBM;rw[hpn];simp only;rw[hlb]
  rw[hF];rw[posI_some hpn] at HPL;have HLB:=jd2 hlb hk;clear hpn hF hk hlb;go_enter func120,ntmps120
  go_upto_region 4 with(go_at_call 118;refine HPL.out.mono ?_;rintro e w5 ⟨rfl,hb5⟩)
  go_wp2_with fail
  refine(HO.out _ hb5).mono ?_;rintro e w6 ⟨v6,ps6,rfl,hB6,hnew6,hb6⟩;obtain⟨p,hp,rfl⟩:=hB6.pAt HLB.out.1;obtain⟨gb,n6,c6,rfl,_,_,hia⟩:=hB6.place hp;obtain⟨o,ho⟩:∃ o,o=k*3:=⟨_,rfl⟩
  rw[<-ho] at hia;have hgb:w5.heap.size<=gb:=hnew6 gb rfl;have hb06:Below w.heap.size w w6:=hb5.trans (hb6.mono hb5.size);have hgw:w.heap.size<=gb:=Nat.le_trans hb5.size hgb;have HC:=hid (merge123 (w0:=w) hB6 hb06 hgw H.out.2 HLB.out.1 HQ.out.1 more HQ.out.2.1 HQ.out.2.2 o ho);have H6:=jd3 hB6 hb06 hgw;clear hB6 hnew6 hb6 hb5 hb06 hgw hgb hp ho
  go_wp2_with fail
  refine HC.out.mono ?_;rintro e w7 ⟨rfl,hb7,ps7,hB7⟩;have HB7:=jd2 hB7 hb7;clear hB7 hb7
  go_wp2_with fail
  go_ret2
  exact⟨_,ps7,rfl,HB7.out.1,HB7.out.2⟩
theorem merge92 (h:BMS w base v l ps)(hbase:base<=w.heap.size)(n o:Bs):Calls prog 92 #[v,str n,str o] w fun e w'=>∃ v' ps',e = .returned (.tuple #[v',.int .i64 (mergeBM l n o).1])/\BMS w' base v' (mergeBM l n o).2 ps'/\Below w.heap.size w w':=by
 have HPo:=hid (place118 h o);have HPn:=hid (fun w' (hB:Below w.heap.size w w')=>place118 (h.below hB) n);have H:=jd2 h hbase;obtain⟨sa,sn,sc,hsv⟩:=ownG_sh h.o;rw[hsv] at HPo HPn ⊢;have HSV:=hid hsv;clear h hbase hsv;obtain⟨ko,hko⟩:∃ q,q=posN (l.map (·.name)) o:=⟨_,rfl⟩
 obtain⟨kn,hkn⟩:∃ q,q=posN (l.map (·.name)) n:=⟨_,rfl⟩
 rw[posI_pv,<-hko] at HPo;rw[posI_pv,<-hkn] at HPn;have HKO:=hid hko;have HKN:=hid hkn;clear hko hkn;cases kn with
 | none =>
  obtain⟨q,hq⟩:∃ q,q=pvO ko:=⟨_,rfl⟩
  rw[<-hq] at HPo;rw[show pvO none = -1 from rfl] at HPn;have hF:mergeBM l n o=(4,[]):=by
   unfold mergeBM;rw[<-HKO.out];cases ko with
   | none=>rfl
   | some k =>
    simp only;cases hlk:l[k]? with
    | none=>rfl
    | some m=>unfold modBM;simp only;rw[<-HKN.out]
  rw[hF];clear hq hF;go_enter func92,ntmps92
  go_wp2_with (first
   | (go_at_call 118;refine HPo.out.mono ?_;rintro e w5 ⟨rfl,hb5⟩)
   | (go_at_call 118;refine(HPn.out _ hb5).mono ?_;rintro e w6 ⟨rfl,hb6⟩))
  go_ret2
  exact⟨_,[],rfl,BMS.nil _ _,hb5.trans (hb6.mono hb5.size)⟩
 | some k1 =>
  rw[show pvO (some k1)=(k1:Int) from rfl] at HPn;cases ko with
  | none =>
   rw[show pvO none = -1 from rfl] at HPo;have hF:mergeBM l n o=(4,[]):=by unfold mergeBM;rw[<-HKO.out]
   rw[hF];clear hF;go_enter func92,ntmps92
   go_wp2_with (first
    | (go_at_call 118;refine HPo.out.mono ?_;rintro e w5 ⟨rfl,hb5⟩)
    | (go_at_call 118;refine(HPn.out _ hb5).mono ?_;rintro e w6 ⟨rfl,hb6⟩))
   go_ret2
   exact⟨_,[],rfl,BMS.nil _ _,hb5.trans (hb6.mono hb5.size)⟩
  | some k =>
   rw[show pvO (some k)=(k:Int) from rfl] at HPo;have hk:=posN_lt HKO.out.symm;rw[List.length_map] at hk;obtain⟨b,hlb⟩:∃ b,l[k]? = some b:=⟨_,List.getElem?_eq_getElem hk⟩
   have hF:mergeBM l n o=modBM l n (mergeL b.l):=by unfold mergeBM;rw[<-HKO.out];simp only;rw[hlb]
   rw[hF];have HLB:=hid hlb;have HF:=jd2 hF hk;clear hF hlb hk;go_enter func92,ntmps92
   go_upto_region 4 with(first
    | (go_at_call 118;refine HPo.out.mono ?_;rintro e w5 ⟨rfl,hb5⟩)
    | (go_at_call 118;refine(HPn.out _ hb5).mono ?_;rintro e w6 ⟨rfl,hb6⟩))
   have hb06:Below w.heap.size w w6:=hb5.trans (hb6.mono hb5.size);have h6:=H.out.1.below hb06;rw[HSV.out] at h6;obtain⟨p,hp,rfl⟩:=h6.pAt HLB.out;obtain⟨gb,n6,c6,hve,_,_,hia⟩:=h6.place hp;obtain⟨rfl,rfl,rfl⟩:sa=some ⟨gb,0,none⟩/\sn=n6/\sc=c6:=by simpa using hve
   obtain⟨q,hq⟩:∃ q,q=k*3:=⟨_,rfl⟩
   rw[<-hq] at hia;have c2:=h6.cellAt hp 2 _ rfl;rw[<-hq] at c2;obtain⟨ta,tn,tc,hlv⟩:=ownG_sh (h6.s p (List.mem_of_getElem? hp));rw[hlv] at c2;have hbA:Below w6.heap.size w6 (w6.alloc (.cells #[.slice ta tn tc] 32)):=brf.alloc nlr _;have hsp:=((h6.s p (List.mem_of_getElem? hp)).below hbA nlr).slG;rw[hlv] at hsp;have HT:=hid (turnMerge (h6.below hbA) (Nat.le_trans H.out.2 (Nat.le_trans hb06.size hbA.size)) n (alloc_new w6 _) p.b.l hsp (h6.k p.b (List.mem_of_getElem? HLB.out)));have HB:=hid (hb06.trans (hbA.mono hb06.size));clear hb06 h6 hp hve hq hlv hbA hsp hb5 hb6
   go_wp2_with (go_at_call 120;refine HT.out.mono ?_;rintro e w8 ⟨v8,ps8,rfl,hB8,hb8⟩;obtain⟨ya,yn,yc,rfl⟩:=ownG_sh hB8.o)
   go_ret2
   exact⟨_,ps8,rfl,hB8,HB.out.trans (hb8.mono HB.out.size)⟩
end
end Go.Proofs.YtgkabcaodnofnaaGreat
namespace Go.Md
def bmR (l:List BM)(c:Cm):Int×List BM:=if c.kind=12 then addBM l c.tt else if c.kind=13 then dropBM l c.tt else if c.kind=14 then modBM l c.tt (fun b=>{b with on:=true})
 else if c.kind=15 then modBM l c.tt (fun b=>{b with on:=false}) else if c.kind=16 then modBM l c.tt (fun b=>{b with l:=[]}) else mergeBM l c.tt c.data
def bitmapF (M:MM)(c:Cm):MM×Rp×Nat:=match fnd M.all c.name with
 | none=>(M,failR 4,0)
 | some i=>if (bmR i.maps c).1=0 then({M with all:=setI M.all c.name {i with maps:=(bmR i.maps c).2}},{},0) else(M,failR (bmR i.maps c).1,0)
def BmK (M:MM)(c:Cm):Prop:=Go.Proofs.YtgkabcaodnofnaaGreat.HasN M c/\12<=c.kind/\c.kind<=17
end Go.Md
namespace Go.Proofs.YtgkabcaodnofnaaGreat
open Go.RowKit Go.Mx Go.Md
theorem IOk.setMaps {i:IM}(h:IOk i)(l:List BM):IOk {i with maps:=l}:=⟨h.cl,h.size,h.whole,h.own,h.shots,h.ns,h.nb⟩
theorem cmd47_any:CmdOk 47 BmK bitmapF:=by
 intro w base mb M X c dv h hM hbase hfr hC hp;obtain⟨da,dn,dc,rfl⟩:=slB_shape hC.d.slB;obtain⟨x,hx,hxn,hfx⟩:=has_x h hC hp.1;have hok:=h.a.ok x hx;obtain⟨ma,mn,mc,hmv⟩:=ownG_sh (h.a.i x hx).maps.o;obtain⟨w2,hw2,P⟩:=pro_of w c (.slice da dn dc);have f0:=P.m0 h;have f1:=P.c1;have f2:=P.c2;have fk:=P.c0;have f6:∀ w',Below w2.heap.size w2 w'->w'.cell? ⟨w.heap.size,6,none⟩=some (.slice da dn dc):=fun w' hB=>P.cb 6 _ rfl w' (P.wd _ hB);have lk:=P.l0 h hx hxn;have i5:∀ w',Below w2.heap.size w2 w'->w'.cell? ⟨x.ib,5,none⟩=some (.slice ma mn mc):=fun w' hB=>by rw[((P.mo h w' (P.wd _ hB)).a.i x hx).cells.2.2.2.2.2.1,hmv]
 have hsl:=hC.d.slB;have hp2:=hp.2;have HW:=hid hw2;have HP:=hid P;have HM:=hid h;have HK:=jd5 hM hbase hfr hC hp;have HMV:=hid hmv;have HX:=jd4 hx hxn hfx hok;have HSL:=hid hsl;have HKD:=hid hp2;have ef0:=f0 w2 brf;have ef1:=f1 w2 brf;have ef2:=f2 w2 brf;have efk:=fk w2 brf;have ef6:=f6 w2 brf;have elk:=lk w2 brf;have ei5:=i5 w2 brf;clear hw2 P h hM hfr hC hp hmv hxn hfx hok hsl hp2;go_enter func47,ntmps47
 go_upto_region 1 with(fail)
 rw[<-HW.out]
 go_region_held (fun w'=>Below w2.heap.size w2 w') (first|with_reducible exact brf.drew|with_reducible assumption|with_reducible exact Below.drew (by assumption)) (fail)
 obtain⟨w3,hw3⟩:∃ z,z=w2.drew:=⟨_,rfl⟩
 have hb3:Below w2.heap.size w2 w3:=by rw[hw3];exact brf.drew
 rw[<-hw3];clear hw3 ef0 ef1 ef2 efk ef6 elk ei5;have g5:=i5 w3 hb3;have gk:=fk w3 hb3;have g2:=f2 w3 hb3;have g6:=f6 w3 hb3;have hM3:=HP.out.mo HM.out w3 (HP.out.wd _ hb3);have hII:=hM3.a.i x HX.out.1;have hm3:=hII.maps;rw[HMV.out] at hm3;have b3:base<=w3.heap.size:=Nat.le_trans hbase (HP.out.bel (HP.out.wd _ hb3)).size;have hcv:(convert 23 9 (.slice da dn dc)).run prog w3 = .ok (str c.data) w3:=conv_sl (P:=prog) (src:=23) (dst:=9) (e:=5) underlying23 underlying5 underlying9 (HSL.out.below (HP.out.bel (HP.out.wd _ hb3)) nlr);have HQ:=jd5 hM3 hII hm3 b3 hb3;have hkd:c.kind=12\/c.kind=13\/c.kind=14\/c.kind=15\/c.kind=16\/c.kind=17:=by have:=HKD.out;omega
 clear hM3 hII hm3 b3 f0 f1 f2 fk f6 lk i5;rcases hkd with hk|hk|hk|hk|hk|hk
 ·have hr:bmR x.i.maps c=addBM x.i.maps c.tt:=by unfold bmR;simp[hk]
  rw[hk] at gk;obtain⟨cd,l2,hcl⟩:∃ cd l2,(addBM x.i.maps c.tt)=((cd:Int),(l2:List BM)):=⟨_,_,rfl⟩
  have HC:=hid (add88 HQ.out.2.2.1 HQ.out.2.2.2.1 c.tt);rw[hcl] at HC hr;have HR:=hid hr;clear hk hr hcl hcv g6;by_cases hz:cd=0
  ·subst hz;go_upto_region 17 with(go_at_call 88;refine HC.out.mono ?_;rintro e w4 ⟨v4,ps4,rfl,hB4,hb4⟩;obtain⟨ya,yn,yc,rfl⟩:=ownG_sh hB4.o;have h4:=HQ.out.1.below hb4;have c45:=(h4.a.i x HX.out.1).cells.2.2.2.2.2.1;rw[HMV.out] at c45;have z45:=(h4.a.i x HX.out.1).cells.2.2.2.2.2.2 5;have H4:=jd3 hB4 h4 hb4;clear hB4 h4 hb4)
   go_upto_region 18 with(fail)
   obtain⟨w6,hw6⟩:∃ z,z=w4.setCell ⟨x.ib,5,none⟩ (.slice ya yn yc):=⟨_,rfl⟩
   rw[<-hw6];obtain⟨hB4,h4,hb4⟩:=H4.out;have hnd:=II.fp_nodup h4 HX.out.1;have hII6:=(h4.a.i x HX.out.1).set5 hnd hB4;rw[<-hw6] at hII6;have h9:=h4.same HX.out.1 (by rw[hw6];exact Kept.set _ _ _ _ (by simp)) hII6 (HX.out.2.2.2.setMaps l2) rfl rfl rfl;have hst:=(Stp.of_below (HQ.out.2.2.2.2.trans (hb4.mono HQ.out.2.2.2.2.size)) (X.fp mb)).trans h9.2;have hF:bitmapF M c=({M with all:=setI M.all x.n {x.i with maps:=l2}},{},0):=by
    unfold bitmapF;rw[HX.out.2.2.1];simp only;rw[HR.out,if_pos rfl,HX.out.2.1]
   have HF:=hid hF;have HE:=jd2 h9.1 hst;obtain⟨x0,x1,x2,x3,x4,x5,xz⟩:=zcells (HP.out.zs HM.out hst);clear hB4 h4 hb4 hnd hII6 h9 hst hF hw6 c45 z45;obtain⟨W,hW,⟨y0,y1,y2,y3,y4,y5⟩,r1,r2,r3⟩:=end_ok HP.out HM.out HE.out.1 HE.out.2;have HWW:=hid hW;have HR:=jd3 r1 r2 r3;clear hW r1 r2 r3
   go_wp2_with fail
   change bodyPost _ _ _ _ _ (st6 w6 (w.heap.size+1) (.int .i64 0) nilS nilS nilS (.int .i64 0) (.int .i64 0));rw[<-HWW.out,HF.out];clear x0 x1 x2 x3 x4 x5 xz;refine bodyPost_ret (v:=failV 0) (by simp[results,results47,go_sem,y0,y1,y2,y3,y4,y5]) rfl ?_
   first
    | exact⟨_,rfl,HR.out.1,_,HR.out.2.1,rfl,nlr,rfl,HR.out.2.2⟩
    | exact⟨_,_,rfl,HR.out.1,HR.out.2.1,rfl,nlr,rfl,HR.out.2.2⟩
  ·have tz:¬ (cd=0):=hz;have tz1:(cd==0)=false:=by simpa using hz
   go_upto_region 16 with(go_at_call 88;refine HC.out.mono ?_;rintro e w4 ⟨v4,ps4,rfl,hB4,hb4⟩;obtain⟨ya,yn,yc,rfl⟩:=ownG_sh hB4.o;have H4:=hid hb4;clear hB4 hb4)
   have HZ:=hid hz;clear tz tz1 hz;have hbZ:=HQ.out.2.2.2.2.trans (H4.out.mono HQ.out.2.2.2.2.size)
   go_wp2_with (go_at_call 21;refine(failed_any cd _).mono ?_;rintro e w9 ⟨rfl,hb9⟩;obtain⟨x0,x1,x2,x3,x4,x5,xz⟩:=zcells (HP.out.z (hbZ.trans (hb9.mono hbZ.size))))
   obtain⟨W,hW,⟨y0,y1,y2,y3,y4,y5⟩,r1,r2,r3⟩:=end_fail HP.out HM.out (hbZ.trans (hb9.mono hbZ.size)) cd;have hF:bitmapF M c=(M,failR cd,0):=by
    unfold bitmapF;rw[HX.out.2.2.1];simp only;rw[HR.out,if_neg HZ.out]
   rw[hF];clear x0 x1 x2 x3 x4 x5 xz hF;change bodyPost _ _ _ _ _ (st6 w9 (w.heap.size+1) (.int .i64 cd) nilS nilS nilS (.int .i64 0) (.int .i64 0));rw[<-hW];exact bodyPost_ret (v:=failV cd) (by simp[results,results47,go_sem,y0,y1,y2,y3,y4,y5]) rfl ⟨_,X,rfl,r1,r2,rfl,nlr,rfl,r3⟩
 ·have hr:bmR x.i.maps c=dropBM x.i.maps c.tt:=by unfold bmR;simp[hk]
  rw[hk] at gk;obtain⟨cd,l2,hcl⟩:∃ cd l2,(dropBM x.i.maps c.tt)=((cd:Int),(l2:List BM)):=⟨_,_,rfl⟩
  have HC:=hid (drop89 HQ.out.2.2.1 HQ.out.2.2.2.1 c.tt);rw[hcl] at HC hr;have HR:=hid hr;clear hk hr hcl hcv g6;by_cases hz:cd=0
  ·subst hz;go_upto_region 17 with(go_at_call 89;refine HC.out.mono ?_;rintro e w4 ⟨v4,ps4,rfl,hB4,hb4⟩;obtain⟨ya,yn,yc,rfl⟩:=ownG_sh hB4.o;have h4:=HQ.out.1.below hb4;have c45:=(h4.a.i x HX.out.1).cells.2.2.2.2.2.1;rw[HMV.out] at c45;have z45:=(h4.a.i x HX.out.1).cells.2.2.2.2.2.2 5;have H4:=jd3 hB4 h4 hb4;clear hB4 h4 hb4)
   go_upto_region 18 with(fail)
   obtain⟨w6,hw6⟩:∃ z,z=w4.setCell ⟨x.ib,5,none⟩ (.slice ya yn yc):=⟨_,rfl⟩
   rw[<-hw6];obtain⟨hB4,h4,hb4⟩:=H4.out;have hnd:=II.fp_nodup h4 HX.out.1;have hII6:=(h4.a.i x HX.out.1).set5 hnd hB4;rw[<-hw6] at hII6;have h9:=h4.same HX.out.1 (by rw[hw6];exact Kept.set _ _ _ _ (by simp)) hII6 (HX.out.2.2.2.setMaps l2) rfl rfl rfl;have hst:=(Stp.of_below (HQ.out.2.2.2.2.trans (hb4.mono HQ.out.2.2.2.2.size)) (X.fp mb)).trans h9.2;have hF:bitmapF M c=({M with all:=setI M.all x.n {x.i with maps:=l2}},{},0):=by
    unfold bitmapF;rw[HX.out.2.2.1];simp only;rw[HR.out,if_pos rfl,HX.out.2.1]
   have HF:=hid hF;have HE:=jd2 h9.1 hst;obtain⟨x0,x1,x2,x3,x4,x5,xz⟩:=zcells (HP.out.zs HM.out hst);clear hB4 h4 hb4 hnd hII6 h9 hst hF hw6 c45 z45;obtain⟨W,hW,⟨y0,y1,y2,y3,y4,y5⟩,r1,r2,r3⟩:=end_ok HP.out HM.out HE.out.1 HE.out.2;have HWW:=hid hW;have HR:=jd3 r1 r2 r3;clear hW r1 r2 r3
   go_wp2_with fail
   change bodyPost _ _ _ _ _ (st6 w6 (w.heap.size+1) (.int .i64 0) nilS nilS nilS (.int .i64 0) (.int .i64 0));rw[<-HWW.out,HF.out];clear x0 x1 x2 x3 x4 x5 xz;refine bodyPost_ret (v:=failV 0) (by simp[results,results47,go_sem,y0,y1,y2,y3,y4,y5]) rfl ?_
   first
    | exact⟨_,rfl,HR.out.1,_,HR.out.2.1,rfl,nlr,rfl,HR.out.2.2⟩
    | exact⟨_,_,rfl,HR.out.1,HR.out.2.1,rfl,nlr,rfl,HR.out.2.2⟩
  ·have tz:¬ (cd=0):=hz;have tz1:(cd==0)=false:=by simpa using hz
   go_upto_region 16 with(go_at_call 89;refine HC.out.mono ?_;rintro e w4 ⟨v4,ps4,rfl,hB4,hb4⟩;obtain⟨ya,yn,yc,rfl⟩:=ownG_sh hB4.o;have H4:=hid hb4;clear hB4 hb4)
   have HZ:=hid hz;clear tz tz1 hz;have hbZ:=HQ.out.2.2.2.2.trans (H4.out.mono HQ.out.2.2.2.2.size)
   go_wp2_with (go_at_call 21;refine(failed_any cd _).mono ?_;rintro e w9 ⟨rfl,hb9⟩;obtain⟨x0,x1,x2,x3,x4,x5,xz⟩:=zcells (HP.out.z (hbZ.trans (hb9.mono hbZ.size))))
   obtain⟨W,hW,⟨y0,y1,y2,y3,y4,y5⟩,r1,r2,r3⟩:=end_fail HP.out HM.out (hbZ.trans (hb9.mono hbZ.size)) cd;have hF:bitmapF M c=(M,failR cd,0):=by
    unfold bitmapF;rw[HX.out.2.2.1];simp only;rw[HR.out,if_neg HZ.out]
   rw[hF];clear x0 x1 x2 x3 x4 x5 xz hF;change bodyPost _ _ _ _ _ (st6 w9 (w.heap.size+1) (.int .i64 cd) nilS nilS nilS (.int .i64 0) (.int .i64 0));rw[<-hW];exact bodyPost_ret (v:=failV cd) (by simp[results,results47,go_sem,y0,y1,y2,y3,y4,y5]) rfl ⟨_,X,rfl,r1,r2,rfl,nlr,rfl,r3⟩
 ·have hr:bmR x.i.maps c=modBM x.i.maps c.tt (fun b=>{b with on:=true}):=by unfold bmR;simp[hk]
  rw[hk] at gk;obtain⟨cd,l2,hcl⟩:∃ cd l2,(modBM x.i.maps c.tt (fun b=>{b with on:=true}))=((cd:Int),(l2:List BM)):=⟨_,_,rfl⟩
  have HC:=hid (turn90 HQ.out.2.2.1 HQ.out.2.2.2.1 c.tt true);rw[hcl] at HC hr;have HR:=hid hr;clear hk hr hcl hcv g6;by_cases hz:cd=0
  ·subst hz;go_upto_region 17 with(go_at_call 90;refine HC.out.mono ?_;rintro e w4 ⟨v4,ps4,rfl,hB4,hb4⟩;obtain⟨ya,yn,yc,rfl⟩:=ownG_sh hB4.o;have h4:=HQ.out.1.below hb4;have c45:=(h4.a.i x HX.out.1).cells.2.2.2.2.2.1;rw[HMV.out] at c45;have z45:=(h4.a.i x HX.out.1).cells.2.2.2.2.2.2 5;have H4:=jd3 hB4 h4 hb4;clear hB4 h4 hb4)
   go_upto_region 18 with(fail)
   obtain⟨w6,hw6⟩:∃ z,z=w4.setCell ⟨x.ib,5,none⟩ (.slice ya yn yc):=⟨_,rfl⟩
   rw[<-hw6];obtain⟨hB4,h4,hb4⟩:=H4.out;have hnd:=II.fp_nodup h4 HX.out.1;have hII6:=(h4.a.i x HX.out.1).set5 hnd hB4;rw[<-hw6] at hII6;have h9:=h4.same HX.out.1 (by rw[hw6];exact Kept.set _ _ _ _ (by simp)) hII6 (HX.out.2.2.2.setMaps l2) rfl rfl rfl;have hst:=(Stp.of_below (HQ.out.2.2.2.2.trans (hb4.mono HQ.out.2.2.2.2.size)) (X.fp mb)).trans h9.2;have hF:bitmapF M c=({M with all:=setI M.all x.n {x.i with maps:=l2}},{},0):=by
    unfold bitmapF;rw[HX.out.2.2.1];simp only;rw[HR.out,if_pos rfl,HX.out.2.1]
   have HF:=hid hF;have HE:=jd2 h9.1 hst;obtain⟨x0,x1,x2,x3,x4,x5,xz⟩:=zcells (HP.out.zs HM.out hst);clear hB4 h4 hb4 hnd hII6 h9 hst hF hw6 c45 z45;obtain⟨W,hW,⟨y0,y1,y2,y3,y4,y5⟩,r1,r2,r3⟩:=end_ok HP.out HM.out HE.out.1 HE.out.2;have HWW:=hid hW;have HR:=jd3 r1 r2 r3;clear hW r1 r2 r3
   go_wp2_with fail
   change bodyPost _ _ _ _ _ (st6 w6 (w.heap.size+1) (.int .i64 0) nilS nilS nilS (.int .i64 0) (.int .i64 0));rw[<-HWW.out,HF.out];clear x0 x1 x2 x3 x4 x5 xz;refine bodyPost_ret (v:=failV 0) (by simp[results,results47,go_sem,y0,y1,y2,y3,y4,y5]) rfl ?_
   first
    | exact⟨_,rfl,HR.out.1,_,HR.out.2.1,rfl,nlr,rfl,HR.out.2.2⟩
    | exact⟨_,_,rfl,HR.out.1,HR.out.2.1,rfl,nlr,rfl,HR.out.2.2⟩
  ·have tz:¬ (cd=0):=hz;have tz1:(cd==0)=false:=by simpa using hz
   go_upto_region 16 with(go_at_call 90;refine HC.out.mono ?_;rintro e w4 ⟨v4,ps4,rfl,hB4,hb4⟩;obtain⟨ya,yn,yc,rfl⟩:=ownG_sh hB4.o;have H4:=hid hb4;clear hB4 hb4)
   have HZ:=hid hz;clear tz tz1 hz;have hbZ:=HQ.out.2.2.2.2.trans (H4.out.mono HQ.out.2.2.2.2.size)
   go_wp2_with (go_at_call 21;refine(failed_any cd _).mono ?_;rintro e w9 ⟨rfl,hb9⟩;obtain⟨x0,x1,x2,x3,x4,x5,xz⟩:=zcells (HP.out.z (hbZ.trans (hb9.mono hbZ.size))))
   obtain⟨W,hW,⟨y0,y1,y2,y3,y4,y5⟩,r1,r2,r3⟩:=end_fail HP.out HM.out (hbZ.trans (hb9.mono hbZ.size)) cd;have hF:bitmapF M c=(M,failR cd,0):=by
    unfold bitmapF;rw[HX.out.2.2.1];simp only;rw[HR.out,if_neg HZ.out]
   rw[hF];clear x0 x1 x2 x3 x4 x5 xz hF;change bodyPost _ _ _ _ _ (st6 w9 (w.heap.size+1) (.int .i64 cd) nilS nilS nilS (.int .i64 0) (.int .i64 0));rw[<-hW];exact bodyPost_ret (v:=failV cd) (by simp[results,results47,go_sem,y0,y1,y2,y3,y4,y5]) rfl ⟨_,X,rfl,r1,r2,rfl,nlr,rfl,r3⟩
 ·have hr:bmR x.i.maps c=modBM x.i.maps c.tt (fun b=>{b with on:=false}):=by unfold bmR;simp[hk]
  rw[hk] at gk;obtain⟨cd,l2,hcl⟩:∃ cd l2,(modBM x.i.maps c.tt (fun b=>{b with on:=false}))=((cd:Int),(l2:List BM)):=⟨_,_,rfl⟩
  have HC:=hid (turn90 HQ.out.2.2.1 HQ.out.2.2.2.1 c.tt false);rw[hcl] at HC hr;have HR:=hid hr;clear hk hr hcl hcv g6;by_cases hz:cd=0
  ·subst hz;go_upto_region 17 with(go_at_call 90;refine HC.out.mono ?_;rintro e w4 ⟨v4,ps4,rfl,hB4,hb4⟩;obtain⟨ya,yn,yc,rfl⟩:=ownG_sh hB4.o;have h4:=HQ.out.1.below hb4;have c45:=(h4.a.i x HX.out.1).cells.2.2.2.2.2.1;rw[HMV.out] at c45;have z45:=(h4.a.i x HX.out.1).cells.2.2.2.2.2.2 5;have H4:=jd3 hB4 h4 hb4;clear hB4 h4 hb4)
   go_upto_region 18 with(fail)
   obtain⟨w6,hw6⟩:∃ z,z=w4.setCell ⟨x.ib,5,none⟩ (.slice ya yn yc):=⟨_,rfl⟩
   rw[<-hw6];obtain⟨hB4,h4,hb4⟩:=H4.out;have hnd:=II.fp_nodup h4 HX.out.1;have hII6:=(h4.a.i x HX.out.1).set5 hnd hB4;rw[<-hw6] at hII6;have h9:=h4.same HX.out.1 (by rw[hw6];exact Kept.set _ _ _ _ (by simp)) hII6 (HX.out.2.2.2.setMaps l2) rfl rfl rfl;have hst:=(Stp.of_below (HQ.out.2.2.2.2.trans (hb4.mono HQ.out.2.2.2.2.size)) (X.fp mb)).trans h9.2;have hF:bitmapF M c=({M with all:=setI M.all x.n {x.i with maps:=l2}},{},0):=by
    unfold bitmapF;rw[HX.out.2.2.1];simp only;rw[HR.out,if_pos rfl,HX.out.2.1]
   have HF:=hid hF;have HE:=jd2 h9.1 hst;obtain⟨x0,x1,x2,x3,x4,x5,xz⟩:=zcells (HP.out.zs HM.out hst);clear hB4 h4 hb4 hnd hII6 h9 hst hF hw6 c45 z45;obtain⟨W,hW,⟨y0,y1,y2,y3,y4,y5⟩,r1,r2,r3⟩:=end_ok HP.out HM.out HE.out.1 HE.out.2;have HWW:=hid hW;have HR:=jd3 r1 r2 r3;clear hW r1 r2 r3
   go_wp2_with fail
   change bodyPost _ _ _ _ _ (st6 w6 (w.heap.size+1) (.int .i64 0) nilS nilS nilS (.int .i64 0) (.int .i64 0));rw[<-HWW.out,HF.out];clear x0 x1 x2 x3 x4 x5 xz;refine bodyPost_ret (v:=failV 0) (by simp[results,results47,go_sem,y0,y1,y2,y3,y4,y5]) rfl ?_
   first
    | exact⟨_,rfl,HR.out.1,_,HR.out.2.1,rfl,nlr,rfl,HR.out.2.2⟩
    | exact⟨_,_,rfl,HR.out.1,HR.out.2.1,rfl,nlr,rfl,HR.out.2.2⟩
  ·have tz:¬ (cd=0):=hz;have tz1:(cd==0)=false:=by simpa using hz
   go_upto_region 16 with(go_at_call 90;refine HC.out.mono ?_;rintro e w4 ⟨v4,ps4,rfl,hB4,hb4⟩;obtain⟨ya,yn,yc,rfl⟩:=ownG_sh hB4.o;have H4:=hid hb4;clear hB4 hb4)
   have HZ:=hid hz;clear tz tz1 hz;have hbZ:=HQ.out.2.2.2.2.trans (H4.out.mono HQ.out.2.2.2.2.size)
   go_wp2_with (go_at_call 21;refine(failed_any cd _).mono ?_;rintro e w9 ⟨rfl,hb9⟩;obtain⟨x0,x1,x2,x3,x4,x5,xz⟩:=zcells (HP.out.z (hbZ.trans (hb9.mono hbZ.size))))
   obtain⟨W,hW,⟨y0,y1,y2,y3,y4,y5⟩,r1,r2,r3⟩:=end_fail HP.out HM.out (hbZ.trans (hb9.mono hbZ.size)) cd;have hF:bitmapF M c=(M,failR cd,0):=by
    unfold bitmapF;rw[HX.out.2.2.1];simp only;rw[HR.out,if_neg HZ.out]
   rw[hF];clear x0 x1 x2 x3 x4 x5 xz hF;change bodyPost _ _ _ _ _ (st6 w9 (w.heap.size+1) (.int .i64 cd) nilS nilS nilS (.int .i64 0) (.int .i64 0));rw[<-hW];exact bodyPost_ret (v:=failV cd) (by simp[results,results47,go_sem,y0,y1,y2,y3,y4,y5]) rfl ⟨_,X,rfl,r1,r2,rfl,nlr,rfl,r3⟩
 ·have hr:bmR x.i.maps c=modBM x.i.maps c.tt (fun b=>{b with l:=[]}):=by unfold bmR;simp[hk]
  rw[hk] at gk;obtain⟨cd,l2,hcl⟩:∃ cd l2,(modBM x.i.maps c.tt (fun b=>{b with l:=[]}))=((cd:Int),(l2:List BM)):=⟨_,_,rfl⟩
  have HC:=hid (clear91 HQ.out.2.2.1 HQ.out.2.2.2.1 c.tt);rw[hcl] at HC hr;have HR:=hid hr;clear hk hr hcl hcv g6;by_cases hz:cd=0
  ·subst hz;go_upto_region 17 with(go_at_call 91;refine HC.out.mono ?_;rintro e w4 ⟨v4,ps4,rfl,hB4,hb4⟩;obtain⟨ya,yn,yc,rfl⟩:=ownG_sh hB4.o;have h4:=HQ.out.1.below hb4;have c45:=(h4.a.i x HX.out.1).cells.2.2.2.2.2.1;rw[HMV.out] at c45;have z45:=(h4.a.i x HX.out.1).cells.2.2.2.2.2.2 5;have H4:=jd3 hB4 h4 hb4;clear hB4 h4 hb4)
   go_upto_region 18 with(fail)
   obtain⟨w6,hw6⟩:∃ z,z=w4.setCell ⟨x.ib,5,none⟩ (.slice ya yn yc):=⟨_,rfl⟩
   rw[<-hw6];obtain⟨hB4,h4,hb4⟩:=H4.out;have hnd:=II.fp_nodup h4 HX.out.1;have hII6:=(h4.a.i x HX.out.1).set5 hnd hB4;rw[<-hw6] at hII6;have h9:=h4.same HX.out.1 (by rw[hw6];exact Kept.set _ _ _ _ (by simp)) hII6 (HX.out.2.2.2.setMaps l2) rfl rfl rfl;have hst:=(Stp.of_below (HQ.out.2.2.2.2.trans (hb4.mono HQ.out.2.2.2.2.size)) (X.fp mb)).trans h9.2;have hF:bitmapF M c=({M with all:=setI M.all x.n {x.i with maps:=l2}},{},0):=by
    unfold bitmapF;rw[HX.out.2.2.1];simp only;rw[HR.out,if_pos rfl,HX.out.2.1]
   have HF:=hid hF;have HE:=jd2 h9.1 hst;obtain⟨x0,x1,x2,x3,x4,x5,xz⟩:=zcells (HP.out.zs HM.out hst);clear hB4 h4 hb4 hnd hII6 h9 hst hF hw6 c45 z45;obtain⟨W,hW,⟨y0,y1,y2,y3,y4,y5⟩,r1,r2,r3⟩:=end_ok HP.out HM.out HE.out.1 HE.out.2;have HWW:=hid hW;have HR:=jd3 r1 r2 r3;clear hW r1 r2 r3
   go_wp2_with fail
   change bodyPost _ _ _ _ _ (st6 w6 (w.heap.size+1) (.int .i64 0) nilS nilS nilS (.int .i64 0) (.int .i64 0));rw[<-HWW.out,HF.out];clear x0 x1 x2 x3 x4 x5 xz;refine bodyPost_ret (v:=failV 0) (by simp[results,results47,go_sem,y0,y1,y2,y3,y4,y5]) rfl ?_
   first
    | exact⟨_,rfl,HR.out.1,_,HR.out.2.1,rfl,nlr,rfl,HR.out.2.2⟩
    | exact⟨_,_,rfl,HR.out.1,HR.out.2.1,rfl,nlr,rfl,HR.out.2.2⟩
  ·have tz:¬ (cd=0):=hz;have tz1:(cd==0)=false:=by simpa using hz
   go_upto_region 16 with(go_at_call 91;refine HC.out.mono ?_;rintro e w4 ⟨v4,ps4,rfl,hB4,hb4⟩;obtain⟨ya,yn,yc,rfl⟩:=ownG_sh hB4.o;have H4:=hid hb4;clear hB4 hb4)
   have HZ:=hid hz;clear tz tz1 hz;have hbZ:=HQ.out.2.2.2.2.trans (H4.out.mono HQ.out.2.2.2.2.size)
   go_wp2_with (go_at_call 21;refine(failed_any cd _).mono ?_;rintro e w9 ⟨rfl,hb9⟩;obtain⟨x0,x1,x2,x3,x4,x5,xz⟩:=zcells (HP.out.z (hbZ.trans (hb9.mono hbZ.size))))
   obtain⟨W,hW,⟨y0,y1,y2,y3,y4,y5⟩,r1,r2,r3⟩:=end_fail HP.out HM.out (hbZ.trans (hb9.mono hbZ.size)) cd;have hF:bitmapF M c=(M,failR cd,0):=by
    unfold bitmapF;rw[HX.out.2.2.1];simp only;rw[HR.out,if_neg HZ.out]
   rw[hF];clear x0 x1 x2 x3 x4 x5 xz hF;change bodyPost _ _ _ _ _ (st6 w9 (w.heap.size+1) (.int .i64 cd) nilS nilS nilS (.int .i64 0) (.int .i64 0));rw[<-hW];exact bodyPost_ret (v:=failV cd) (by simp[results,results47,go_sem,y0,y1,y2,y3,y4,y5]) rfl ⟨_,X,rfl,r1,r2,rfl,nlr,rfl,r3⟩
 ·have hr:bmR x.i.maps c=mergeBM x.i.maps c.tt c.data:=by unfold bmR;simp[hk]
  rw[hk] at gk;obtain⟨cd,l2,hcl⟩:∃ cd l2,(mergeBM x.i.maps c.tt c.data)=((cd:Int),(l2:List BM)):=⟨_,_,rfl⟩
  have HC:=hid (merge92 HQ.out.2.2.1 HQ.out.2.2.2.1 c.tt c.data);rw[hcl] at HC hr;have HR:=hid hr;clear hk hr hcl;by_cases hz:cd=0
  ·subst hz;go_upto_region 17 with(go_at_call 92;refine HC.out.mono ?_;rintro e w4 ⟨v4,ps4,rfl,hB4,hb4⟩;obtain⟨ya,yn,yc,rfl⟩:=ownG_sh hB4.o;have h4:=HQ.out.1.below hb4;have c45:=(h4.a.i x HX.out.1).cells.2.2.2.2.2.1;rw[HMV.out] at c45;have z45:=(h4.a.i x HX.out.1).cells.2.2.2.2.2.2 5;have H4:=jd3 hB4 h4 hb4;clear hB4 h4 hb4)
   go_upto_region 18 with(fail)
   obtain⟨w6,hw6⟩:∃ z,z=w4.setCell ⟨x.ib,5,none⟩ (.slice ya yn yc):=⟨_,rfl⟩
   rw[<-hw6];obtain⟨hB4,h4,hb4⟩:=H4.out;have hnd:=II.fp_nodup h4 HX.out.1;have hII6:=(h4.a.i x HX.out.1).set5 hnd hB4;rw[<-hw6] at hII6;have h9:=h4.same HX.out.1 (by rw[hw6];exact Kept.set _ _ _ _ (by simp)) hII6 (HX.out.2.2.2.setMaps l2) rfl rfl rfl;have hst:=(Stp.of_below (HQ.out.2.2.2.2.trans (hb4.mono HQ.out.2.2.2.2.size)) (X.fp mb)).trans h9.2;have hF:bitmapF M c=({M with all:=setI M.all x.n {x.i with maps:=l2}},{},0):=by
    unfold bitmapF;rw[HX.out.2.2.1];simp only;rw[HR.out,if_pos rfl,HX.out.2.1]
   have HF:=hid hF;have HE:=jd2 h9.1 hst;obtain⟨x0,x1,x2,x3,x4,x5,xz⟩:=zcells (HP.out.zs HM.out hst);clear hB4 h4 hb4 hnd hII6 h9 hst hF hw6 c45 z45;obtain⟨W,hW,⟨y0,y1,y2,y3,y4,y5⟩,r1,r2,r3⟩:=end_ok HP.out HM.out HE.out.1 HE.out.2;have HWW:=hid hW;have HR:=jd3 r1 r2 r3;clear hW r1 r2 r3
   go_wp2_with fail
   change bodyPost _ _ _ _ _ (st6 w6 (w.heap.size+1) (.int .i64 0) nilS nilS nilS (.int .i64 0) (.int .i64 0));rw[<-HWW.out,HF.out];clear x0 x1 x2 x3 x4 x5 xz;refine bodyPost_ret (v:=failV 0) (by simp[results,results47,go_sem,y0,y1,y2,y3,y4,y5]) rfl ?_
   first
    | exact⟨_,rfl,HR.out.1,_,HR.out.2.1,rfl,nlr,rfl,HR.out.2.2⟩
    | exact⟨_,_,rfl,HR.out.1,HR.out.2.1,rfl,nlr,rfl,HR.out.2.2⟩
  ·have tz:¬ (cd=0):=hz;have tz1:(cd==0)=false:=by simpa using hz
   go_upto_region 16 with(go_at_call 92;refine HC.out.mono ?_;rintro e w4 ⟨v4,ps4,rfl,hB4,hb4⟩;obtain⟨ya,yn,yc,rfl⟩:=ownG_sh hB4.o;have H4:=hid hb4;clear hB4 hb4)
   have HZ:=hid hz;clear tz tz1 hz;have hbZ:=HQ.out.2.2.2.2.trans (H4.out.mono HQ.out.2.2.2.2.size)
   go_wp2_with (go_at_call 21;refine(failed_any cd _).mono ?_;rintro e w9 ⟨rfl,hb9⟩;obtain⟨x0,x1,x2,x3,x4,x5,xz⟩:=zcells (HP.out.z (hbZ.trans (hb9.mono hbZ.size))))
   obtain⟨W,hW,⟨y0,y1,y2,y3,y4,y5⟩,r1,r2,r3⟩:=end_fail HP.out HM.out (hbZ.trans (hb9.mono hbZ.size)) cd;have hF:bitmapF M c=(M,failR cd,0):=by
    unfold bitmapF;rw[HX.out.2.2.1];simp only;rw[HR.out,if_neg HZ.out]
   rw[hF];clear x0 x1 x2 x3 x4 x5 xz hF;change bodyPost _ _ _ _ _ (st6 w9 (w.heap.size+1) (.int .i64 cd) nilS nilS nilS (.int .i64 0) (.int .i64 0));rw[<-hW];exact bodyPost_ret (v:=failV cd) (by simp[results,results47,go_sem,y0,y1,y2,y3,y4,y5]) rfl ⟨_,X,rfl,r1,r2,rfl,nlr,rfl,r3⟩
end Go.Proofs.YtgkabcaodnofnaaGreat
namespace Go.Md
def listF (M:MM)(c:Cm):MM×Rp×Nat:=(M,{names:=sortN (M.all.map (·.1))},0)
end Go.Md
namespace Go.Proofs.YtgkabcaodnofnaaGreat
open Go.RowKit Go.Mx Go.Md
theorem cmd56_any:CmdOk 56 (fun _ _=>True) listF:=by
 intro w base mb M X c dv h hM hbase hfr hC hp;obtain⟨da,dn,dc,rfl⟩:=slB_shape hC.d.slB;obtain⟨w2,hw2,P⟩:=pro_of w c (.slice da dn dc);have f0:=P.m0 h;have HS:=hid (names24 (P.mo h w2 brf).a (by rw[h.a.len];have:=hM.le;omega));have HW:=hid hw2;have HP:=hid P;have HM:=hid h;have HK:=jd5 hM hbase hfr hC hp;have ef0:=f0 w2 brf;clear hw2 P h hM hfr hC hp;go_enter func56,ntmps56
 go_upto_region 1 with(fail)
 rw[<-HW.out]
 go_wp2_with (first
  | (go_at_call 25;refine(keysS_c _ _).mono ?_;rintro e w3 ⟨rfl,rfl⟩)
  | (go_at_call 24;refine HS.out.mono ?_;rintro e w4 ⟨v4,rfl,ho4,hb4⟩;obtain⟨ya,yn,yc,rfl⟩:=ownG_sh ho4;obtain⟨x0,x1,x2,x3,x4,x5,xz⟩:=zcells (HP.out.z hb4)))
 have hrep:RepOK w4 w.heap.size (rpV 0 nilS (.slice ya yn yc) nilS 0 0) {names:=sortN (M.all.map (·.1))}:=⟨_,_,_,rfl,OwnB.nil _ _ _,ho4.any_base HP.out.b.size,OwnG.nil _ _ _ _⟩
 obtain⟨W,hW,⟨y0,y1,y2,y3,y4,y5⟩,r1,r2,r3⟩:=end_same HP.out HM.out hb4 hrep;change bodyPost _ _ _ _ _ (st6 w4 (w.heap.size+1) _ _ _ _ _ _);rw[<-hW];clear x0 x1 x2 x3 x4 x5 xz hW;exact bodyPost_ret (v:=rpV 0 nilS (.slice ya yn yc) nilS 0 0) (by simp[results,results56,go_sem,y0,y1,y2,y3,y4,y5]) rfl ⟨_,X,rfl,r1,r2,rfl,nlr,rfl,r3⟩
end Go.Proofs.YtgkabcaodnofnaaGreat
