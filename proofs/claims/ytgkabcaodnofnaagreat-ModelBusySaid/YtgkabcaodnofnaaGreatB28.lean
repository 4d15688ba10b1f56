import Derived.Test.YtgkabcaodnofnaaGreatB02
import Derived.Test.YtgkabcaodnofnaaGreatB17
import Derived.Test.YtgkabcaodnofnaaGreatB26
import Derived.Test.YtgkabcaodnofnaaGreatB27
import Derived.Test.YtgkabcaodnofnaaGreatB15
set_option linter.unusedSimpArgs false
set_option linter.unusedVariables false
set_option maxRecDepth 100000
set_option maxHeartbeats 2000000
open Go.Proofs.Tryz
namespace Go.Md
def infoN (i:IM):List Bs:=(if i.back=[] then[] else[i.back])++i.shots.map (·.name)
def infoF (M:MM)(c:Cm):MM×Rp×Nat:=match fnd M.all c.name with
 | none=>(M,failR 4,0)
 | some i=>(M,{names:=infoN i,n:=i.size,m:=i.cl},0)
end Go.Md
namespace Go.Proofs.YtgkabcaodnofnaaGreat
open Go.RowKit Go.Mx Go.Md
structure IR (w2 wr:World)(rb:Nat)(i:IM)(pre:List Bs)(nv:Value):Prop where
 b:Below w2.heap.size w2 wr
 q:wr.heap[rb]? = some (.cells #[.int .i64 0,nilS,nv,nilS,.int .i64 i.size,.int .i64 i.cl] 34 (0,0))
 o:OwnG wr w2.heap.size 9 1 nv (strR pre)
 g:w2.heap.size<=rb
theorem cmd55_any:CmdOk 55 HasN infoF:=by
 intro w base mb M X c dv h hM hbase hfr hC hp;obtain⟨da,dn,dc,rfl⟩:=slB_shape hC.d.slB;obtain⟨x,hx,hxn,hfx⟩:=has_x h hC hp;have hok:=h.a.ok x hx;obtain⟨sa,sn,sc,hsv⟩:=ownG_sh (h.a.i x hx).so;obtain⟨w2,hw2,P⟩:=pro_of w c (.slice da dn dc);have f0:=P.m0 h;have f1:=P.c1;have lk:=P.l0 h hx hxn;have i0:=P.i0 h hx;have i1:=P.i1 h hx;have i2:=P.i2 h hx;have i4:∀ w',Below w2.heap.size w2 w'->w'.cell? ⟨x.ib,4,none⟩=some (.slice sa sn sc):=fun w' hB=>by rw[((P.mo h w' (P.wd _ hB)).a.i x hx).cells.2.2.2.2.1,hsv]
 have hsn:sn=x.i.shots.length:=by
  have h1:=(h.a.i x hx).so;rw[hsv] at h1;rw[(h.a.i x hx).se,List.length_map];rcases h1.shape with⟨h2,h3⟩|⟨g,cc,h2,_⟩
  ·cases h2;have:=congrArg List.length h3;simpa using this.symm
  ·cases h2;rw[List.length_map]
 have HSN:=hid hsn;have hsn8:sn<=8:=by have:=hok.ns;omega
 have hlen:∀ w',(Builtin.len_ #[85] 3 #[.slice sa sn sc]).run prog w' = .ok (.int .i64 sn) w':=fun w'=>len_sl underlying85 rfl w';have HW:=hid hw2;have HP:=hid P;have HM:=hid h;have HK:=jd5 hM hbase hfr hC hp;have HX:=jd4 hx hxn hfx hok;have HSV:=hid hsv;have ef0:=f0 w2 brf;have ef1:=f1 w2 brf;have elk:=lk w2 brf;have ei0:=i0 w2 brf;have ei1:=i1 w2 brf;have ei2:=i2 w2 brf;have ei4:=i4 w2 brf;clear hw2 P h hM hfr hC hp hxn hfx hok hsv hsn;go_enter func55,ntmps55
 go_upto_region 1 with(fail)
 rw[<-HW.out]
 go_region_held (fun w'=>Below w2.heap.size w2 w') (first|with_reducible exact brf.drew|with_reducible assumption|with_reducible exact Below.drew (by assumption)) (fail)
 obtain⟨w3,hw3⟩:∃ z,z=w2.drew:=⟨_,rfl⟩
 have hb3:Below w2.heap.size w2 w3:=by rw[hw3];exact brf.drew
 rw[<-hw3];clear hw3 ef0 ef1 elk ei0 ei1 ei2 ei4;go_upto_region 2 with(fail)
 go_region_held (fun w'=>Below w2.heap.size w2 w') (first|with_reducible exact hb3.drew|with_reducible assumption|with_reducible exact Below.drew (by assumption)|exact(hb3.alloc hb3.size _).drew|exact hb3.drew.alloc hb3.drew.size _|exact(hb3.drew.alloc hb3.drew.size _).drew|exact Below.setCell (Below.alloc (by assumption) (Below.size (by assumption)) _) (by simp) _) (fail)
 obtain⟨w6,hw6⟩:∃ z,z=(w3.alloc (.cells #[.int .i64 0,.slice none 0 0,.slice none 0 0,.slice none 0 0,.int .i64 x.i.size,.int .i64 x.i.cl] 34)).drew:=⟨_,rfl⟩
 rw[<-hw6];have hb36:Below w3.heap.size w3 w6:=by rw[hw6];exact(brf.alloc nlr _).drew
 have hb6:Below w2.heap.size w2 w6:=hb3.trans (hb36.mono hb3.size);have q6:w6.heap[w3.heap.size]? = some (.cells #[.int .i64 0,.slice none 0 0,.slice none 0 0,.slice none 0 0,.int .i64 x.i.size,.int .i64 x.i.cl] 34 (0,0)):=by rw[hw6];exact alloc_new w3 _
 obtain⟨rb,hrb⟩:∃ q,q=w3.heap.size:=⟨_,rfl⟩
 rw[<-hrb] at q6 ⊢;have hrb2:w2.heap.size<=rb:=by rw[hrb];exact hb3.size
 have HI:=jd2 (⟨hb6,q6,OwnG.nil _ _ _ _,hrb2⟩:IR w2 w6 rb x.i [] nilS) (show rb<w6.heap.size from blk_lt q6);have hM6:=HP.out.mo HM.out w6 (HP.out.wd _ hb6);have g2:=i2 w6 hb6;have g4:=i4 w6 hb6;clear hw6 hb36 hb3 hrb hM6 f0 f1 lk i0 i1;by_cases hbk:x.i.back=[]
 ·have eb:(x.i.back==[])=true:=by simpa using hbk
  have HBK:=hid (show infoN x.i=[]++x.i.shots.map (·.name) by unfold infoN;rw[if_pos hbk]);obtain⟨pre,hpre⟩:∃ p:List Bs,p=[]:=⟨_,rfl⟩
  have HPL:=hid (show pre.length<=1 by rw[hpre];simp);rw[<-hpre] at HBK;have HI2:Hid (IR w2 w6 rb x.i pre nilS):=by rw[hpre];exact HI.out.1
  obtain⟨wX,hwX⟩:∃ z,z=w6:=⟨_,rfl⟩
  subst hwX;clear hbk hpre q6 g2;go_upto_region 5 with(fail)
  clear eb;clear i2 hb6 hrb2;have HM4:=hid (fun w' (hB:Below w2.heap.size w2 w')=>(HP.out.mo HM.out w' (HP.out.wd _ hB)).a.i x HX.out.1)
  go_wp2_with fail
  go_loopw [44] (fun s wr=>∃ (j:Nat) (nv:Value),s = .int .i64 j/\j<=sn/\Hid (IR w2 wr rb x.i (pre++(x.i.shots.take j).map (·.name)) nv)) (fun s _=>sn-(intOf s).toNat)
  case atStart=>exact⟨0,_,rfl,by omega,hid (by simpa using HI2.out)⟩
  case round =>
   obtain⟨j,nv,rfl,hj,hR⟩:=hrel;obtain⟨wO,hwO⟩:∃ q,q=wr:=⟨_,rfl⟩
   subst hwO;by_cases hlt:j<sn
   ·have hII:=HM4.out wO hR.out.b;have hsl:x.x.ss.length=x.i.shots.length:=by rw[hII.se,List.length_map]
    have hjs:j<x.x.ss.length:=by rw[hsl,<-HSN.out];exact hlt
    obtain⟨s,hs⟩:∃ s,x.x.ss[j]? = some s:=⟨_,List.getElem?_eq_getElem hjs⟩
    have hsh:x.i.shots[j]? = some s.s:=by rw[hII.se,List.getElem?_map,hs];rfl
    have hso:=hII.so.slG;rw[HSV.out] at hso;obtain⟨bb,bo,hbb,hia,hrow⟩:=hso.addr (P:=prog) underlying85 size90 j (by rw[List.length_map];exact hjs);rw[show(x.x.ss.map sxrow).getD j []=sxrow s by rw[List.getD_eq_getElem?_getD,List.getElem?_map,hs];rfl] at hrow;have d0:wO.cell? ⟨bb,bo,none⟩=some (str s.s.name):=by have:=hrow 0 _ rfl;simpa using this
    have d1:wO.cell? ⟨bb,bo+1,none⟩=some (.int .i64 s.s.size):=hrow 1 _ rfl;have d2:wO.cell? ⟨bb,bo+2,none⟩=some (.map (some s.m)):=hrow 2 _ rfl;obtain⟨va,vn,vc,rfl⟩:=ownG_sh hR.out.o;have HJ:=hid (show(x.i.shots.take (j+1)).map (·.name)=(x.i.shots.take j).map (·.name)++[s.s.name] by rw[List.take_add_one,hsh,List.map_append];rfl);have hll:(strR (pre++(x.i.shots.take j).map (·.name))).length<=100:=by
     have:=HPL.out;simp only[List.length_map,List.length_append,List.length_take];omega
    clear hII hsl hjs hs hsh hso hrow;go_upto_region 8 with(fail)
    obtain⟨wA,hwA⟩:∃ z,z=wO.alloc (.cells #[str s.s.name,.int .i64 s.s.size,.map (some s.m)] 90):=⟨_,rfl⟩
    rw[<-hwA];have hbA:Below wO.heap.size wO wA:=by rw[hwA];exact brf.alloc nlr _
    have hqA:wA.heap[wO.heap.size]? = some (.cells #[str s.s.name,.int .i64 s.s.size,.map (some s.m)] 90 (0,0)):=by rw[hwA];exact alloc_new wO _
    have e0:wA.cell? ⟨wO.heap.size,0,none⟩=some (str s.s.name):=by simp[World.cell?,hqA]
    have hqr:=(hbA.block rb (blk_lt hR.out.q)).trans hR.out.q;have e2:wA.cell? ⟨rb,2,none⟩=some (.slice va vn vc):=by simp[World.cell?,hqr]
    have hbB:Below wA.heap.size wA (wA.alloc (.cells #[str s.s.name] 9)):=brf.alloc nlr _;have hoA:OwnG (wA.alloc (.cells #[str s.s.name] 9)) w2.heap.size 9 1 (.slice va vn vc) (strR (pre++(x.i.shots.take j).map (·.name))):=(hR.out.o.below hbA nlr).below hbB nlr;have hsz:w2.heap.size<=(wA.alloc (.cells #[str s.s.name] 9)).heap.size:=Nat.le_trans (Nat.le_trans hR.out.b.size hbA.size) hbB.size;have HQ:=jd3 hbA hqr hbB;clear hwA hbA hqA hqr hbB d0 d1 d2
    go_wp2_with (at_builtin;refine append_g _ rfl _ _ 31 9 _ 1 16 rfl underlying31 info9 rfl (by decide) w2.heap.size _ (strR (pre++(x.i.shots.take j).map (·.name))) rfl hoA wA.heap.size 1 [str s.s.name] rfl rfl (fun j u hj=>row_cells wA [str s.s.name] 9 j u hj) (by simp[Value.oneCell']) (by omega) (by omega) hsz ?_;intro v9 w9 ho9 hg9 hb9;obtain⟨ga,gn,gc,rfl⟩:=ownG_sh ho9;have hq9:w9.heap[rb]? = some (.cells #[.int .i64 0,nilS,.slice va vn vc,nilS,.int .i64 x.i.size,.int .i64 x.i.cl] 34 (0,0)):=(hg9.block rb (Nat.lt_of_lt_of_le (blk_lt HQ.out.2.1) HQ.out.2.2.size) (fun e=>by(obtain⟨c1,f1,h1⟩:=ownG_type hoA rb e.symm;rw[HQ.out.2.2.block rb (blk_lt HQ.out.2.1),HQ.out.2.1] at h1;cases h1))).trans ((HQ.out.2.2.block rb (blk_lt HQ.out.2.1)).trans HQ.out.2.1);have c9:w9.cell? ⟨rb,2,none⟩=some (.slice va vn vc):=(by simp[World.cell?,hq9]);have z9:w9.frozen? ⟨rb,2,none⟩=false:=(by simp[World.frozen?,hq9]);have H9:=jd4 ho9 hg9 hb9 hq9;clear ho9 hg9 hb9 hq9 hoA)
    go_roundw
    case rel =>
     obtain⟨ho9,hg9,hb9,hq9⟩:=H9.out;refine⟨j+1,.slice ga gn gc,by go_num,by omega,hid ⟨?_,?_,?_,hR.out.g⟩⟩
     ·exact(((hR.out.b.trans (HQ.out.1.mono hR.out.b.size)).trans (HQ.out.2.2.mono (Nat.le_trans hR.out.b.size HQ.out.1.size))).trans hb9).setCell hR.out.g _
     ·rw[heap_setCell_at' w9 rb 2 _ _ 34 _ hq9];rfl
     ·rw[HJ.out,<-List.append_assoc,show ∀ (A:List Bs) (n:Bs),strR (A++[n])=strR A++[[str n]] from fun A n=>by simp];exact ho9.kept (N:=(·≠rb)) (Kept.set _ _ _ _ (by simp)) fun q hq e=>by
       obtain⟨c1,f1,h1⟩:=ownG_type ho9 q hq;rw[e,hq9] at h1;cases h1
    case measure=>simp[intOf];omega
   ·obtain rfl:j=sn:=by omega
    obtain⟨va,vn,vc,rfl⟩:=ownG_sh hR.out.o;have hq:=hR.out.q;have v0:wO.cell? ⟨rb,0,none⟩=some (.int .i64 0):=by simp[World.cell?,hq]
    have v1:wO.cell? ⟨rb,1,none⟩=some (.slice none 0 0):=by simp[World.cell?,hq]
    have v2:wO.cell? ⟨rb,2,none⟩=some (.slice va vn vc):=by simp[World.cell?,hq]
    have v3:wO.cell? ⟨rb,3,none⟩=some (.slice none 0 0):=by simp[World.cell?,hq]
    have v4:wO.cell? ⟨rb,4,none⟩=some (.int .i64 x.i.size):=by simp[World.cell?,hq]
    have v5:wO.cell? ⟨rb,5,none⟩=some (.int .i64 x.i.cl):=by simp[World.cell?,hq]
    obtain⟨x0,x1,x2,x3,x4,x5,xz⟩:=zcells (HP.out.z hR.out.b);have hpre:pre++(x.i.shots.take j).map (·.name)=infoN x.i:=by rw[HBK.out,HSN.out,List.take_length]
    have ho:=hR.out.o;rw[hpre] at ho;have hrep:RepOK wO w.heap.size (rpV 0 nilS (.slice va vn vc) nilS x.i.size x.i.cl) {names:=infoN x.i,n:=x.i.size,m:=x.i.cl}:=⟨_,_,_,rfl,OwnB.nil _ _ _,ho.any_base HP.out.b.size,OwnG.nil _ _ _ _⟩
    obtain⟨W,hW,⟨y0,y1,y2,y3,y4,y5⟩,r1,r2,r3⟩:=end_same HP.out HM.out hR.out.b hrep;have hF:infoF M c=(M,{names:=infoN x.i,n:=x.i.size,m:=x.i.cl},0):=by unfold infoF;rw[HX.out.2.2.1]
    have HR:=jd4 r1 r2 r3 hF;have HWW:=hid hW;clear r1 r2 r3 hF hW hrep hq ho hpre
    go_wp2_with fail
    change bodyPost _ _ _ _ _ (st6 wO (w.heap.size+1) (.int .i64 0) nilS (.slice va vn vc) nilS (.int .i64 x.i.size) (.int .i64 x.i.cl));rw[<-HWW.out,HR.out.2.2.2];clear x0 x1 x2 x3 x4 x5 xz v0 v1 v2 v3 v4 v5;exact bodyPost_ret (v:=rpV 0 nilS (.slice va vn vc) nilS x.i.size x.i.cl) (by simp[results,results55,go_sem,y0,y1,y2,y3,y4,y5]) rfl ⟨_,X,rfl,HR.out.1,HR.out.2.1,rfl,nlr,rfl,HR.out.2.2.1⟩
 ·have eb:(x.i.back==[])=false:=by simpa using hbk
  have HBK:=hid (show infoN x.i=[x.i.back]++x.i.shots.map (·.name) by unfold infoN;rw[if_neg hbk]);clear hbk;go_upto_region 4 with(fail)
  clear eb;have kr:∀ w',Below w6.heap.size w6 w'->w'.heap[rb]? = some (.cells #[.int .i64 0,.slice none 0 0,.slice none 0 0,.slice none 0 0,.int .i64 x.i.size,.int .i64 x.i.cl] 34 (0,0)):=fun w' hB=>(hB.block rb HI.out.2).trans HI.out.1.q;have k2:∀ w',Below w6.heap.size w6 w'->w'.cell? ⟨rb,2,none⟩=some (.slice none 0 0):=fun w' hB=>by simp[World.cell?,kr w' hB]
  have kb:∀ w',Below w6.heap.size w6 w'->w'.cell? ⟨x.ib,2,none⟩=some (str x.i.back):=fun w' hB=>i2 w' (hb6.trans (hB.mono hb6.size));have hB0:Below w6.heap.size w6 w6.drew:=brf.drew;have hbA:Below w6.heap.size w6 (w6.alloc (.cells #[str x.i.back] 9)).drew:=(brf.alloc nlr _).drew;have hrowA:∀ (j:Nat) (u:Value),([str x.i.back]:List Value)[j]? = some u->(w6.alloc (.cells #[str x.i.back] 9)).drew.cell? ⟨w6.heap.size,j,none⟩=some u:=fun j u hu=>row_cells w6 [str x.i.back] 9 j u hu;have hsA:w2.heap.size<=(w6.alloc (.cells #[str x.i.back] 9)).drew.heap.size:=Nat.le_trans hb6.size hbA.size
  have hq9:∀ w9,(w6.alloc (.cells #[str x.i.back] 9)).drew.grownBy w9 (Value.slice none 0 0).ownBlock->w9.heap[rb]? = some (.cells #[.int .i64 0,.slice none 0 0,.slice none 0 0,.slice none 0 0,.int .i64 x.i.size,.int .i64 x.i.cl] 34 (0,0)):=fun w9 hg=>(hg.block rb (Nat.lt_of_lt_of_le HI.out.2 hbA.size) (by simp[Value.ownBlock])).trans (kr _ hbA);have hz9:∀ w9,(w6.alloc (.cells #[str x.i.back] 9)).drew.grownBy w9 (Value.slice none 0 0).ownBlock->w9.frozen? ⟨rb,2,none⟩=false:=fun w9 hg=>by simp[World.frozen?,hq9 w9 hg]
  have hc9:∀ w9,(w6.alloc (.cells #[str x.i.back] 9)).drew.grownBy w9 (Value.slice none 0 0).ownBlock->w9.cell? ⟨rb,2,none⟩=some (.slice none 0 0):=fun w9 hg=>by simp[World.cell?,hq9 w9 hg]
  have HQ9:=hid (fun w9 hg=>hq9 w9 hg);have HB6:=jd2 hb6 hbA;clear kr hq9 q6 g2;refine wp_region_K 7 (fun w'=>Below w6.heap.size w6 w') (by kernel_rfl) ?_;refine qk 0 ?_;try simp only[nk]
  refine rq 1 ?_;try simp only[nk]
  refine qk 2 ?_;try simp only[nk]
  refine qk 3 ?_;try simp only[nk]
  refine qk 4 ?_;try simp only[nk]
  refine rq 5 ?_;try simp only[nk]
  refine wpAnyK_ready (rs:=[6]) (by kernel_rfl) (by simp) (AllReadyK.cons rfl (fun K hK=>?_) AllReadyK.nil);go_simp
  refine hK.out _ _ (fun _=>hbA) ?_;clear hK K
  try simp only[nk]
  refine wpAnyK_ready (rs:=[7]) (by kernel_rfl) (by simp) (AllReadyK.cons rfl (fun K hK=>?_) AllReadyK.nil);refine step_append_gn _ (by rfl) (.tmp 31) (.tmp 36) 31 9 _ 1 16 (by rfl) underlying31 info9 rfl (by decide) w2.heap.size _ [] (by rfl) (OwnG.nil _ _ _ _) w6.heap.size 1 [str x.i.back] (by rfl) rfl hrowA (by simp[Value.oneCell']) (by simp) (by simp) hsA ?_;intro v9 w9 ho9 hg9 hb9 hq9;obtain⟨ga,gn,gc,rfl⟩:=ownG_sh ho9;have z9:=hz9 _ hg9;have c9:=hc9 _ hg9;refine hK.out _ _ (fun h=>by cases h) ?_;clear hK K
  try simp only[nk]
  refine qk 8 ?_;try simp only[nk]
  refine wpAnyK_ready (rs:=[9]) (by kernel_rfl) (by simp) (AllReadyK.cons rfl (fun K hK=>?_) AllReadyK.nil);go_simp
  refine hK.out _ _ (fun h=>by cases h) ?_;clear hK K
  try simp only[nk]
  refine wpAnyK_done (by kernel_rfl) ?_ _;obtain⟨w8,hw8⟩:∃ z,z=w9.setCell ⟨rb,2,none⟩ (.slice ga gn gc):=⟨_,rfl⟩
  have hqq:=HQ9.out w9 hg9;have HI2:Hid (IR w2 w8 rb x.i [x.i.back] (.slice ga gn gc)):=by
   refine⟨?_,?_,?_,hrb2⟩
   ·rw[hw8];exact((HB6.out.1.trans (HB6.out.2.mono HB6.out.1.size)).trans hb9).setCell hrb2 _
   ·rw[hw8,heap_setCell_at' w9 rb 2 _ _ 34 _ hqq];rfl
   ·rw[hw8];exact ho9.kept (N:=(·≠rb)) (Kept.set _ _ _ _ (by simp)) fun q hq e=>by
     obtain⟨c1,f1,h1⟩:=ownG_type ho9 q hq;rw[e,hqq] at h1;cases h1
  obtain⟨pre,hpre⟩:∃ p:List Bs,p=[x.i.back]:=⟨_,rfl⟩
  have HPL:=hid (show pre.length<=1 by rw[hpre];simp);rw[<-hpre] at HBK HI2;have g4:=i4 w8 HI2.out.b;have HW8:=hid hw8;clear hpre hw8 hqq ho9 hg9 hb9 hq9 z9 c9 hbA hrowA hsA hz9 hc9 hB0 k2 kb;go_upto_region 5 with(fail)
  rw[<-HW8.out];clear i2 hb6 hrb2;have HM4:=hid (fun w' (hB:Below w2.heap.size w2 w')=>(HP.out.mo HM.out w' (HP.out.wd _ hB)).a.i x HX.out.1)
  go_wp2_with fail
  go_loopw [44] (fun s wr=>∃ (j:Nat) (nv:Value),s = .int .i64 j/\j<=sn/\Hid (IR w2 wr rb x.i (pre++(x.i.shots.take j).map (·.name)) nv)) (fun s _=>sn-(intOf s).toNat)
  case atStart=>exact⟨0,_,rfl,by omega,hid (by simpa using HI2.out)⟩
  case round =>
   obtain⟨j,nv,rfl,hj,hR⟩:=hrel;obtain⟨wO,hwO⟩:∃ q,q=wr:=⟨_,rfl⟩
   subst hwO;by_cases hlt:j<sn
   ·have hII:=HM4.out wO hR.out.b;have hsl:x.x.ss.length=x.i.shots.length:=by rw[hII.se,List.length_map]
    have hjs:j<x.x.ss.length:=by rw[hsl,<-HSN.out];exact hlt
    obtain⟨s,hs⟩:∃ s,x.x.ss[j]? = some s:=⟨_,List.getElem?_eq_getElem hjs⟩
    have hsh:x.i.shots[j]? = some s.s:=by rw[hII.se,List.getElem?_map,hs];rfl
    have hso:=hII.so.slG;rw[HSV.out] at hso;obtain⟨bb,bo,hbb,hia,hrow⟩:=hso.addr (P:=prog) underlying85 size90 j (by rw[List.length_map];exact hjs);rw[show(x.x.ss.map sxrow).getD j []=sxrow s by rw[List.getD_eq_getElem?_getD,List.getElem?_map,hs];rfl] at hrow;have d0:wO.cell? ⟨bb,bo,none⟩=some (str s.s.name):=by have:=hrow 0 _ rfl;simpa using this
    have d1:wO.cell? ⟨bb,bo+1,none⟩=some (.int .i64 s.s.size):=hrow 1 _ rfl;have d2:wO.cell? ⟨bb,bo+2,none⟩=some (.map (some s.m)):=hrow 2 _ rfl;obtain⟨va,vn,vc,rfl⟩:=ownG_sh hR.out.o;have HJ:=hid (show(x.i.shots.take (j+1)).map (·.name)=(x.i.shots.take j).map (·.name)++[s.s.name] by rw[List.take_add_one,hsh,List.map_append];rfl);have hll:(strR (pre++(x.i.shots.take j).map (·.name))).length<=100:=by
     have:=HPL.out;simp only[List.length_map,List.length_append,List.length_take];omega
    clear hII hsl hjs hs hsh hso hrow;go_upto_region 8 with(fail)
    obtain⟨wA,hwA⟩:∃ z,z=wO.alloc (.cells #[str s.s.name,.int .i64 s.s.size,.map (some s.m)] 90):=⟨_,rfl⟩
    rw[<-hwA];have hbA:Below wO.heap.size wO wA:=by rw[hwA];exact brf.alloc nlr _
    have hqA:wA.heap[wO.heap.size]? = some (.cells #[str s.s.name,.int .i64 s.s.size,.map (some s.m)] 90 (0,0)):=by rw[hwA];exact alloc_new wO _
    have e0:wA.cell? ⟨wO.heap.size,0,none⟩=some (str s.s.name):=by simp[World.cell?,hqA]
    have hqr:=(hbA.block rb (blk_lt hR.out.q)).trans hR.out.q;have e2:wA.cell? ⟨rb,2,none⟩=some (.slice va vn vc):=by simp[World.cell?,hqr]
    have hbB:Below wA.heap.size wA (wA.alloc (.cells #[str s.s.name] 9)):=brf.alloc nlr _;have hoA:OwnG (wA.alloc (.cells #[str s.s.name] 9)) w2.heap.size 9 1 (.slice va vn vc) (strR (pre++(x.i.shots.take j).map (·.name))):=(hR.out.o.below hbA nlr).below hbB nlr;have hsz:w2.heap.size<=(wA.alloc (.cells #[str s.s.name] 9)).heap.size:=Nat.le_trans (Nat.le_trans hR.out.b.size hbA.size) hbB.size;have HQ:=jd3 hbA hqr hbB;clear hwA hbA hqA hqr hbB d0 d1 d2
    go_wp2_with (at_builtin;refine append_g _ rfl _ _ 31 9 _ 1 16 rfl underlying31 info9 rfl (by decide) w2.heap.size _ (strR (pre++(x.i.shots.take j).map (·.name))) rfl hoA wA.heap.size 1 [str s.s.name] rfl rfl (fun j u hj=>row_cells wA [str s.s.name] 9 j u hj) (by simp[Value.oneCell']) (by omega) (by omega) hsz ?_;intro v9 w9 ho9 hg9 hb9;obtain⟨ga,gn,gc,rfl⟩:=ownG_sh ho9;have hq9:w9.heap[rb]? = some (.cells #[.int .i64 0,nilS,.slice va vn vc,nilS,.int .i64 x.i.size,.int .i64 x.i.cl] 34 (0,0)):=(hg9.block rb (Nat.lt_of_lt_of_le (blk_lt HQ.out.2.1) HQ.out.2.2.size) (fun e=>by(obtain⟨c1,f1,h1⟩:=ownG_type hoA rb e.symm;rw[HQ.out.2.2.block rb (blk_lt HQ.out.2.1),HQ.out.2.1] at h1;cases h1))).trans ((HQ.out.2.2.block rb (blk_lt HQ.out.2.1)).trans HQ.out.2.1);have c9:w9.cell? ⟨rb,2,none⟩=some (.slice va vn vc):=(by simp[World.cell?,hq9]);have z9:w9.frozen? ⟨rb,2,none⟩=false:=(by simp[World.frozen?,hq9]);have H9:=jd4 ho9 hg9 hb9 hq9;clear ho9 hg9 hb9 hq9 hoA)
    go_roundw
    case rel =>
     obtain⟨ho9,hg9,hb9,hq9⟩:=H9.out;refine⟨j+1,.slice ga gn gc,by go_num,by omega,hid ⟨?_,?_,?_,hR.out.g⟩⟩
     ·exact(((hR.out.b.trans (HQ.out.1.mono hR.out.b.size)).trans (HQ.out.2.2.mono (Nat.le_trans hR.out.b.size HQ.out.1.size))).trans hb9).setCell hR.out.g _
     ·rw[heap_setCell_at' w9 rb 2 _ _ 34 _ hq9];rfl
     ·rw[HJ.out,<-List.append_assoc,show ∀ (A:List Bs) (n:Bs),strR (A++[n])=strR A++[[str n]] from fun A n=>by simp];exact ho9.kept (N:=(·≠rb)) (Kept.set _ _ _ _ (by simp)) fun q hq e=>by
       obtain⟨c1,f1,h1⟩:=ownG_type ho9 q hq;rw[e,hq9] at h1;cases h1
    case measure=>simp[intOf];omega
   ·obtain rfl:j=sn:=by omega
    obtain⟨va,vn,vc,rfl⟩:=ownG_sh hR.out.o;have hq:=hR.out.q;have v0:wO.cell? ⟨rb,0,none⟩=some (.int .i64 0):=by simp[World.cell?,hq]
    have v1:wO.cell? ⟨rb,1,none⟩=some (.slice none 0 0):=by simp[World.cell?,hq]
    have v2:wO.cell? ⟨rb,2,none⟩=some (.slice va vn vc):=by simp[World.cell?,hq]
    have v3:wO.cell? ⟨rb,3,none⟩=some (.slice none 0 0):=by simp[World.cell?,hq]
    have v4:wO.cell? ⟨rb,4,none⟩=some (.int .i64 x.i.size):=by simp[World.cell?,hq]
    have v5:wO.cell? ⟨rb,5,none⟩=some (.int .i64 x.i.cl):=by simp[World.cell?,hq]
    obtain⟨x0,x1,x2,x3,x4,x5,xz⟩:=zcells (HP.out.z hR.out.b);have hpre:pre++(x.i.shots.take j).map (·.name)=infoN x.i:=by rw[HBK.out,HSN.out,List.take_length]
    have ho:=hR.out.o;rw[hpre] at ho;have hrep:RepOK wO w.heap.size (rpV 0 nilS (.slice va vn vc) nilS x.i.size x.i.cl) {names:=infoN x.i,n:=x.i.size,m:=x.i.cl}:=⟨_,_,_,rfl,OwnB.nil _ _ _,ho.any_base HP.out.b.size,OwnG.nil _ _ _ _⟩
    obtain⟨W,hW,⟨y0,y1,y2,y3,y4,y5⟩,r1,r2,r3⟩:=end_same HP.out HM.out hR.out.b hrep;have hF:infoF M c=(M,{names:=infoN x.i,n:=x.i.size,m:=x.i.cl},0):=by unfold infoF;rw[HX.out.2.2.1]
    have HR:=jd4 r1 r2 r3 hF;have HWW:=hid hW;clear r1 r2 r3 hF hW hrep hq ho hpre
    go_wp2_with fail
    change bodyPost _ _ _ _ _ (st6 wO (w.heap.size+1) (.int .i64 0) nilS (.slice va vn vc) nilS (.int .i64 x.i.size) (.int .i64 x.i.cl));rw[<-HWW.out,HR.out.2.2.2];clear x0 x1 x2 x3 x4 x5 xz v0 v1 v2 v3 v4 v5;exact bodyPost_ret (v:=rpV 0 nilS (.slice va vn vc) nilS x.i.size x.i.cl) (by simp[results,results55,go_sem,y0,y1,y2,y3,y4,y5]) rfl ⟨_,X,rfl,HR.out.1,HR.out.2.1,rfl,nlr,rfl,HR.out.2.2.1⟩
end Go.Proofs.YtgkabcaodnofnaaGreat
namespace Go.Md
open Go.Proofs.YtgkabcaodnofnaaGreat
def Chg (S:IL)(n:Bs)(i':IM)(S':IL):Prop:=S'.length=S.length/\∀ m,fnd S' m=if m=n then some i' else fnd S m
theorem Chg.set {S:IL}{n:Bs}{i:IM}(hf:fnd S n=some i)(i':IM):Chg S n i' (setI S n i'):=⟨setI_len (by rw[hf];rfl) i',fun m=>fnd_setI _ _ _ _⟩
theorem Chg.same {S:IL}{n:Bs}{i:IM}(hf:fnd S n=some i):Chg S n i S:=⟨rfl,fun m=>by
 by_cases e:m=n
 ·rw[if_pos e,e,hf]
 ·rw[if_neg e]⟩
theorem Chg.trans {S T U:IL}{n:Bs}{i j:IM}(h:Chg S n i T)(h2:Chg T n j U):Chg S n j U:=⟨h2.1.trans h.1,fun m=>by
 rw[h2.2,h.2];split<;>rfl⟩
theorem ok_chg {M:MM}(h:MOk M){n:Bs}{i i':IM}{S:IL}(hf:fnd M.all n=some i)(hb:i'.back=i.back)(hc:Chg M.all n i' S):MOk {M with all:=S,ch:=fun m=>if m=n then true else M.ch m}:=by
 have h1:=ok_changed h hf hb;have hs:∀ m,fnd S m=fnd (setI M.all n i') m:=fun m=>by rw[hc.2,fnd_setI]
 refine⟨fun m j hj=>h1.nm m j (by rw[<-hs];exact hj),fun m j hj=>?_,fun m=>?_,?_,h1.kl,fun m=>?_,fun m hm=>?_,fun m hm=>?_⟩
 ·have h2:=h1.bk m j (by show fnd (setI M.all n i') m=_;rw[<-hs];exact hj);exact h2.imp id fun h3=>by show(fnd S _).isSome=true;rw[hs];exact h3
 ·exact dep_same (fun t=>by rw[hs]) 8 m (h1.dp m)
 ·show S.length<=16;rw[hc.1];exact h.le
 ·show _=(fnd S m).map (·.back);rw[hs];exact h1.kb m
 ·show _=fnd S m;rw[hs];exact h1.ch m hm
 ·show(fnd S m).isSome=true;rw[hs];exact h1.cn m hm
def Turns (F:MM->Cm->MM×Rp×Nat):Prop:=∀ M c i,fnd M.all c.name=some i->((F M c).1=M/\(F M c).2.1=failR (F M c).2.1.code/\(F M c).2.1.code≠0/\(F M c).2.2=0)\/
 (∃ i' S,i'.back=i.back/\Chg M.all c.name i' S/\(F M c).1={M with all:=S}/\(F M c).2.1={}/\(F M c).2.2=0)
theorem Turns.ok {F:MM->Cm->MM×Rp×Nat}(h:Turns F){M:MM}{c:Cm}(hM:MOk M)(hn:HasN M c)(ht:turnsI c.kind=true):MOk (doK F M c).1:=by
 obtain⟨i,hi⟩:=Option.isSome_iff_exists.1 hn;unfold doK;rcases h M c i hi with⟨h1,h2,h3,h4⟩|⟨i',S,hb,hc,h1,h2,h3⟩
 ·simp only;rw[if_neg (fun h=>h3 h.1),h1];exact hM
 ·simp only;rw[h2,if_pos ⟨rfl,ht⟩,h1];exact ok_chg hM hi hb hc
theorem turns_write:Turns writeF:=fun M c i hf=>by
 unfold writeF;rw[hf];simp only;split
 ·exact .inl ⟨rfl,rfl,by simp,rfl⟩
 split
 ·exact .inl ⟨rfl,rfl,by simp,rfl⟩
 split
 ·exact .inr ⟨_,_,(writeI_same M.all 8 i _ _).2.2.1,Chg.set hf _,rfl,rfl,rfl⟩
 ·exact .inl ⟨rfl,rfl,by simp,rfl⟩
theorem nouS_chg (whole:Bool)(n:Bs):∀ (ps:List (Nat×Nat)) (S:IL) (i:IM),fnd S n=some i->∃ i',i'.back=i.back/\Chg S n i' (nouS whole n ps S)
 | [],S,i,hf=>⟨i,rfl,Chg.same hf⟩
 | p :: r,S,i,hf=>by
  unfold nouS;rw[hf];simp only;split
  ·obtain⟨i',h1,h2⟩:=nouS_chg whole n r (setI S n (writeI S 8 i p.1 (zer (p.2*16)))) (writeI S 8 i p.1 (zer (p.2*16))) (by rw[fnd_setI,if_pos rfl]);exact⟨i',h1.trans (writeI_same S 8 i _ _).2.2.1,(Chg.set hf _).trans h2⟩
  ·exact nouS_chg whole n r S i hf
theorem turns_noughts (whole:Bool):Turns (noughtsF whole):=fun M c i hf=>by
 unfold noughtsF;rw[hf];simp only;split
 ·exact .inl ⟨rfl,rfl,by simp,rfl⟩
 split
 ·exact .inl ⟨rfl,rfl,by simp,rfl⟩
 ·obtain⟨i',h1,h2⟩:=nouS_chg whole c.name (pcs (2^i.cl) c.a.toNat (c.a.toNat+c.n.toNat)) M.all i hf;exact .inr ⟨i',_,h1,h2,rfl,rfl,rfl⟩
theorem turns_resize:Turns resizeF:=fun M c i hf=>by
 unfold resizeF;rw[hf];simp only;split
 ·exact .inl ⟨rfl,rfl,by simp,rfl⟩
 split
 ·exact .inl ⟨rfl,rfl,by simp,rfl⟩
 ·exact .inr ⟨resizeI i c.n.toNat,_,rfl,Chg.set hf _,rfl,rfl,rfl⟩
theorem turns_shoot:Turns shootF:=fun M c i hf=>by
 unfold shootF;rw[hf];simp only;split
 ·exact .inl ⟨rfl,rfl,by simp,rfl⟩
 split
 ·exact .inl ⟨rfl,rfl,by simp,rfl⟩
 split
 ·exact .inl ⟨rfl,rfl,by simp,rfl⟩
 ·exact .inr ⟨{i with shots:=i.shots++[⟨c.tt,i.size,i.own⟩]},_,rfl,Chg.set hf _,rfl,rfl,rfl⟩
theorem turns_revert:Turns revertF:=fun M c i hf=>by
 unfold revertF;rw[hf];simp only;split
 ·exact .inl ⟨rfl,rfl,by simp,rfl⟩
 split
 ·exact .inl ⟨rfl,rfl,by simp,rfl⟩
 split
 ·exact .inl ⟨rfl,rfl,by simp,rfl⟩
 ·rename_i s _;exact .inr ⟨revI i s,_,rfl,Chg.set hf _,rfl,rfl,rfl⟩
theorem turns_unshot:Turns unshotF:=fun M c i hf=>by
 unfold unshotF;rw[hf];simp only;split
 ·exact .inl ⟨rfl,rfl,by simp,rfl⟩
 ·rename_i k _;exact .inr ⟨{i with shots:=i.shots.eraseIdx k},_,rfl,Chg.set hf _,rfl,rfl,rfl⟩
theorem turns_bitmap:Turns bitmapF:=fun M c i hf=>by
 unfold bitmapF;rw[hf];simp only;split
 ·exact .inr ⟨{i with maps:=(bmR i.maps c).2},_,rfl,Chg.set hf _,rfl,rfl,rfl⟩
 ·rename_i h;exact .inl ⟨rfl,rfl,h,rfl⟩
end Go.Md
