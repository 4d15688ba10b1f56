import Derived.Test.YtgkabcaodnofnaaGreatB02
import Derived.Test.YtgkabcaodnofnaaGreatB18
import Derived.Test.YtgkabcaodnofnaaGreatB15
import Derived.Test.YtgkabcaodnofnaaGreatB11
set_option linter.unusedSimpArgs false
set_option linter.unusedVariables false
set_option maxRecDepth 100000
set_option maxHeartbeats 2000000
open Go.Proofs.Tryz
namespace Go.Md
def nouS (whole:Bool)(n:Bs):List (Nat×Nat)->IL->IL
 | [],S=>S
 | p :: r,S=>nouS whole n r (match fnd S n with
  | some i=>if whole=false\/p.2=2^i.cl then setI S n (writeI S 8 i p.1 (zer (p.2*16))) else S
  | none=>S)
def noughtsF (whole:Bool)(M:MM)(c:Cm):MM×Rp×Nat:=match fnd M.all c.name with
 | none=>(M,failR 4,0)
 | some i=>if Go.Proofs.YtgkabcaodnofnaaGreat.aboveN M.all c.name≠0 then(M,failR 14,0) else if withinI i.size c.a c.n=false then(M,failR 6,0)
  else({M with all:=nouS whole c.name (Go.Proofs.YtgkabcaodnofnaaGreat.pcs (2^i.cl) c.a.toNat (c.a.toNat+c.n.toNat)) M.all},{},0)
theorem wrI_same (S:IL)(d:Nat):∀ (ps:List (Nat×Nat)) (b:Bs) (i:IM),(wrI S d ps b i).cl=i.cl/\(wrI S d ps b i).size=i.size/\(wrI S d ps b i).back=i.back/\(wrI S d ps b i).shots=i.shots
 | [],b,i=>⟨rfl,rfl,rfl,rfl⟩
 | p :: r,b,i=>by unfold wrI;exact wrI_same S d r _ _
theorem writeI_same (S:IL)(d:Nat)(i:IM)(a:Nat)(b:Bs):(writeI S d i a b).cl=i.cl/\(writeI S d i a b).size=i.size/\(writeI S d i a b).back=i.back/\(writeI S d i a b).shots=i.shots:=wrI_same S d _ b i
theorem dep_setI {S:IL}{n:Bs}{i i':IM}(hf:fnd S n=some i)(hb:i'.back=i.back){d:Nat}{m:Bs}(h:dep S d m):dep (setI S n i') d m:=by
 refine dep_same (fun t=>?_) d m h;rw[fnd_setI];by_cases e:t=n
 ·subst e;rw[if_pos rfl,hf];simp[hb]
 ·rw[if_neg e]
end Go.Md
namespace Go.Proofs.YtgkabcaodnofnaaGreat
open Go.RowKit Go.Mx Go.Md
theorem pieces_len (W:Nat):∀ (f a stop:Nat),(pieces W f a stop).length<=f
 | 0,_,_=>Nat.zero_le _
 | f+1,a,stop=>by
  simp only[pieces];split
  ·rw[List.length_cons];exact Nat.succ_le_succ (pieces_len W f _ _)
  ·exact Nat.zero_le _
theorem pcs_len (W a stop:Nat):(pcs W a stop).length<=stop-a:=pieces_len W _ _ _
theorem end_rep {w w2 w5:World}{base mb B:Nat}{M M':MM}{X X':MX}{c:Cm}{dv v0 v1 v2 v3 v4 v5:Value}{p:Rp}(P:Pro w w2 c dv)(h:MO w base mb M X)(h5:MO w5 base mb M' X')(hs:Stp w2 w5 (X.fp mb) (X'.fp mb))(hr:RepOK w5 B (.agg #[v0,v1,v2,v3,v4,v5]) p)(hB:w.heap.size<=B) :
  ∃ W,W=st6 w5 (w.heap.size+1) v0 v1 v2 v3 v4 v5/\Lies W (w.heap.size+1) v0 v1 v2 v3 v4 v5/\RepOK W w.heap.size (.agg #[v0,v1,v2,v3,v4,v5]) p/\MO W base mb M' X'/\Stp w W (X.fp mb) (X'.fp mb):=by
 have hz:=P.zs h hs;have hk:=st6_kept w5 (w.heap.size+1) v0 v1 v2 v3 v4 v5;refine⟨_,rfl,st6_lies _ _ _ _ _ _ hz rfl,(hr.base hB).kept hk fun b c t f h1 ht e=>?_,h5.kept hk (fun b h1 e=>h5.not34 b h1 _ _ (e▸hz)) fun b c t f h1 ht e=>?_,((Stp.of_below P.b (X.fp mb)).trans hs).over hk (by omega)⟩
 ·rw[e,hz] at h1;cases h1;rcases ht with h|h|h<;>cases h
 ·rw[e,hz] at h1;cases h1;rcases ht with h|h|h<;>cases h
def NouOk (whole:Bool):Prop:=∀ (w:World) (base mb:Nat) (M:MM) (X:MX) (c:Cm) (dv:Value),MO w base mb M X->MOk M->base<=w.heap.size->X.fr.length<=10->CIn w (X.fp mb) c dv->HasN M c->
 Calls prog 82 #[pt mb,cmV c dv,.bool whole] w fun e w'=>∃ r X',e = .returned r/\RepOK w' w.heap.size r (noughtsF whole M c).2.1/\MO w' base mb (noughtsF whole M c).1 X'/\X'.dm=X.dm/\X'.cl.length<=X.cl.length/\X'.fr.length=X.fr.length+(noughtsF whole M c).2.2/\Stp w w' (X.fp mb) (X'.fp mb)
structure NR (w5 wr:World)(base mb:Nat)(M:MM)(X:MX)(x:XI)(whole:Bool)(W a stop pos:Nat)(S:IL)(X':MX)(y:XI):Prop where
 mo:MO wr base mb {M with all:=S} X'
 dm:X'.dm=X.dm
 cl:X'.cl=X.cl
 fr:X'.fr=X.fr
 st:Stp w5 wr (X.fp mb) (X'.fp mb)
 my:y∈X'.xs
 yn:y.n=x.n
 yb:y.ib=x.ib
 yc:y.i.cl=x.i.cl
 ys:y.i.size=x.i.size
 dp:dep S 8 x.n
 e:nouS whole x.n (pcs W pos stop) S=nouS whole x.n (pcs W a stop) M.all
theorem noughts_any (whole:Bool):NouOk whole:=by
 intro w base mb M X c dv h hM hbase hfr hC hp;obtain⟨da,dn,dc,rfl⟩:=slB_shape hC.d.slB;obtain⟨x,hx,hxn,hfx⟩:=has_x h hC hp;have hok:=h.a.ok x hx;obtain⟨w2,hw2,P⟩:=pro_of w c (.slice da dn dc);have f1:=P.c1;have f3:=P.c3;have f4:=P.c4;have i0:=P.i0 h hx;have i1:=P.i1 h hx;obtain⟨fr,hfe⟩:∃ fr,fr=decide (aboveN M.all c.name=0):=⟨_,rfl⟩
 have HT:=hid (turned_any (P.mo h w2 brf).mod0 (P.mo h w2 brf).a (by have:=hM.le;omega) hx);rw[hxn,<-hfe] at HT;have hab:aboveN M.all c.name=0↔fr=true:=by rw[hfe];simp
 have HAB:=hid hab;have HW0:=hid (fun w'=>within_any x.i.size c.a c.n (by omega) (by have:=hok.size;omega) w');obtain⟨wi,hwi⟩:∃ z,z=withinI x.i.size c.a c.n:=⟨_,rfl⟩
 rw[<-hwi] at HW0;have HWI:=hid hwi;have HW:=hid hw2;have HP:=hid P;have HM:=hid h;have HK:=jd5 hM hbase hfr hC hp;have HX:=jd4 hx hxn hfx hok;have ef1:=f1 w2 brf;have ef3:=f3 w2 brf;have ef4:=f4 w2 brf;have ei0:=i0 w2 brf;have ei1:=i1 w2 brf;clear hw2 P h hM hfr hC hp hxn hfx hok hfe hab hwi ef3 ef4 ei0 ei1;go_enter func82,ntmps82
 go_upto_region 1 with(fail)
 rw[<-HW.out];cases fr
 ·have HA:=hid (show aboveN M.all c.name≠0 from fun e=>by have:=HAB.out.1 e;cases this);go_upto_region 3 with(go_at_call 80;refine HT.out.mono ?_;rintro e w4 ⟨rfl,hb4⟩)
  have hbZ:=hb4
  go_wp2_with (go_at_call 21;refine(failed_any 14 _).mono ?_;rintro e w9 ⟨rfl,hb9⟩;obtain⟨x0,x1,x2,x3,x4,x5,xz⟩:=zcells (HP.out.z (hbZ.trans (hb9.mono hbZ.size))))
  obtain⟨W,hW,⟨y0,y1,y2,y3,y4,y5⟩,r1,r2,r3⟩:=end_fail HP.out HM.out (hbZ.trans (hb9.mono hbZ.size)) 14;have hF:noughtsF whole M c=(M,failR 14,0):=by
   unfold noughtsF;rw[HX.out.2.2.1];simp only;rw[if_pos HA.out]
  rw[hF];clear x0 x1 x2 x3 x4 x5 xz hF;change bodyPost _ _ _ _ _ (st6 w9 (w.heap.size+1) (.int .i64 14) nilS nilS nilS (.int .i64 0) (.int .i64 0));rw[<-hW];exact bodyPost_ret (v:=failV 14) (by simp[results,results82,go_sem,y0,y1,y2,y3,y4,y5]) rfl ⟨_,X,rfl,r1,r2,rfl,nlr,rfl,r3⟩
 ·have HA:=hid (show ¬ aboveN M.all c.name≠0 from fun e=>e (HAB.out.2 rfl));go_upto_region 4 with(go_at_call 80;refine HT.out.mono ?_;rintro e w4 ⟨rfl,hb4⟩)
  have hB0:Below w2.heap.size w2 w4.drew:=hb4.drew;cases wi
  ·go_region_held (fun w'=>Below w2.heap.size w2 w') (first|with_reducible exact hB0|with_reducible assumption|with_reducible exact Below.drew (by assumption)) (first|(go_at_call 79;refine(HW0.out _).mono ?_;rintro e w5 ⟨rfl,rfl⟩))
   go_upto_region 5 with(fail)
   have hbZ:=hB0
   go_wp2_with (go_at_call 21;refine(failed_any 6 _).mono ?_;rintro e w9 ⟨rfl,hb9⟩;obtain⟨x0,x1,x2,x3,x4,x5,xz⟩:=zcells (HP.out.z (hbZ.trans (hb9.mono hbZ.size))))
   obtain⟨W,hW,⟨y0,y1,y2,y3,y4,y5⟩,r1,r2,r3⟩:=end_fail HP.out HM.out (hbZ.trans (hb9.mono hbZ.size)) 6;have hF:noughtsF whole M c=(M,failR 6,0):=by
    unfold noughtsF;rw[HX.out.2.2.1];simp only;rw[if_neg HA.out,if_pos HWI.out.symm]
   rw[hF];clear x0 x1 x2 x3 x4 x5 xz hF;change bodyPost _ _ _ _ _ (st6 w9 (w.heap.size+1) (.int .i64 6) nilS nilS nilS (.int .i64 0) (.int .i64 0));rw[<-hW];exact bodyPost_ret (v:=failV 6) (by simp[results,results82,go_sem,y0,y1,y2,y3,y4,y5]) rfl ⟨_,X,rfl,r1,r2,rfl,nlr,rfl,r3⟩
  ·go_region_held (fun w'=>Below w2.heap.size w2 w') (first|with_reducible exact hB0|with_reducible assumption|with_reducible exact Below.drew (by assumption)) (first|(go_at_call 79;refine(HW0.out _).mono ?_;rintro e w5 ⟨rfl,rfl⟩))
   obtain⟨w3,hw3⟩:∃ z,z=w4.drew:=⟨_,rfl⟩
   rw[<-hw3] at hB0 ⊢;clear hw3;have HBD:=hid (within_bounds HWI.out.symm HX.out.2.2.2.size);have hcl6:=HX.out.2.2.2.cl;have HSP:=hid (fun w'=>split_any c.a.toNat c.n.toNat x.i.cl w' hcl6 HBD.out.2.2.1 HBD.out.2.2.2.1);rw[<-HBD.out.1,<-HBD.out.2.1] at HSP;go_upto_region 6 with(fail)
   have hB1:Below w2.heap.size w2 w3.drew:=hB0.drew
   go_region_held (fun w'=>Below w2.heap.size w2 w') (first|with_reducible exact hB1|with_reducible assumption|with_reducible exact Below.drew (by assumption)) (first|(go_at_call 64;refine(HSP.out _).mono ?_;rintro e w5 ⟨v5,rfl,ho5,hb5c⟩;obtain⟨pa,pn,pc,rfl⟩:=ownG_sh ho5;have hb5:Below w2.heap.size w2 w5:=hB1.trans (hb5c.mono hB1.size)))
   obtain⟨a,ha⟩:∃ q,q=c.a.toNat:=⟨_,rfl⟩
   obtain⟨stop,hstop⟩:∃ q,q=c.a.toNat+c.n.toNat:=⟨_,rfl⟩
   obtain⟨W,hW⟩:∃ q,q=2^x.i.cl:=⟨_,rfl⟩
   obtain⟨L,hL⟩:∃ q,q=pcs W a stop:=⟨_,rfl⟩
   rw[<-hstop,<-ha,<-hW,<-hL] at ho5;have hpn:pn=L.length:=by
    rcases ho5.shape with⟨h1,h2⟩|⟨g,cc,h1,_⟩
    ·cases h1;have:=congrArg List.length h2;simpa using this.symm
    ·cases h1;rw[List.length_map]
   have hlen:∀ w',(Builtin.len_ #[112] 3 #[.slice pa pn pc]).run prog w' = .ok (.int .i64 pn) w':=fun w'=>len_sl underlying112 rfl w';have hM5:=HP.out.mo HM.out w5 (HP.out.wd _ hb5);have hst5:stop<=x.i.size:=by rw[hstop];exact HBD.out.2.2.2.2
   have hsz:=HX.out.2.2.2.size;have hW1:=two_pow6 hcl6;rw[<-hW] at hW1;have hLl:L.length<=4096:=by
    rw[hL];exact Nat.le_trans (pcs_len W _ _) (by omega)
   have hpn4:pn<=4096:=by omega
   have H5:=jd8 hM5 hb5 (ho5) hpn hL hW ha hstop;have HD8:=hid (HK.out.1.dp x.n);have hw3s:w2.heap.size<=w3.drew.heap.size:=hB1.size;clear hM5 ha hstop hW hL hpn f1 f3 f4 i0 i1 hb4 hb5c hB0 hB1 ef1 hcl6;go_upto_region 7 with(fail)
   go_wp2_with fail
   go_loopw [50] (fun s wr=>∃ (j pos:Nat) (S:IL) (X':MX) (y:XI),s = .int .i64 j/\pos<=stop/\j<=pn/\L.drop j=pcs W pos stop/\Hid (NR w5 wr base mb M X x whole W a stop pos S X' y)) (fun s _=>pn-(intOf s).toNat)
   case atStart =>
    refine⟨0,a,M.all,X,x,rfl,by have:=H5.out;omega,by omega,?_,hid ⟨H5.out.1,rfl,rfl,rfl,Stp.refl _ _,HX.out.1,rfl,rfl,rfl,rfl,HD8.out,rfl⟩⟩;rw[List.drop_zero];exact H5.out.2.2.2.2.1
   case round =>
    obtain⟨j,pos,S,X',y,rfl,hps,hjn,hdr,hR⟩:=hrel;obtain⟨wO,hwO⟩:∃ q,q=wr:=⟨_,rfl⟩
    subst hwO;by_cases hlt:pos<stop
    ·have hdr':(pcs W a stop).drop j=pcs W pos stop:=by rw[<-H5.out.2.2.2.2.1];exact hdr
     obtain⟨k,hk1,hks,hkW,hjl,hget,hnext,hcons⟩:=pcs_at hW1.1 hdr' hlt;rw[<-H5.out.2.2.2.2.1] at hjl hget hnext;have hjn2:j<pn:=by rw[H5.out.2.2.2.1];exact hjl
     obtain⟨Q,hQ⟩:∃ q,q=pos/W:=⟨_,rfl⟩
     obtain⟨R,hRe⟩:∃ q,q=pos%W:=⟨_,rfl⟩
     rw[<-hQ,<-hRe] at hget;have hoO:=H5.out.2.2.1.kept hR.out.st.k fun q hq hm=>by
      have h1:=H5.out.2.2.1.ge q hq;have h2:=HM.out.lt q hm;have h3:=HP.out.s;omega
     obtain⟨bb,bo,hbb,hia,hrow⟩:=hoO.slG.addr (P:=prog) underlying112 size116 j (by rw[List.length_map];exact hjl);rw[hget] at hrow;have d0:wO.cell? ⟨bb,bo,none⟩=some (.int .i64 Q):=by have:=hrow 0 _ rfl;simpa using this
     have d1:wO.cell? ⟨bb,bo+1,none⟩=some (.int .i64 R):=hrow 1 _ rfl;have d2:wO.cell? ⟨bb,bo+2,none⟩=some (.int .i64 k):=hrow 2 _ rfl;have HJ:=jd8 hjn2 hk1 hks hkW hnext hcons hQ hRe;clear hrow hget hnext hcons hdr hdr' hQ hRe hoO hjl;go_upto_region 10 with(fail)
     obtain⟨wA,hwA⟩:∃ z,z=wO.alloc (.cells #[.int .i64 Q,.int .i64 R,.int .i64 k] 116):=⟨_,rfl⟩
     rw[<-hwA];have hbA:Below wO.heap.size wO wA:=by rw[hwA];exact brf.alloc nlr _
     have hqA:wA.heap[wO.heap.size]? = some (.cells #[.int .i64 Q,.int .i64 R,.int .i64 k] 116 (0,0)):=by rw[hwA];exact alloc_new wO _
     have kq:∀ (t:Nat) v,(#[Value.int .i64 Q,.int .i64 R,.int .i64 k]:Array Value)[t]? = some v->∀ w',Below wA.heap.size wA w'->w'.cell? ⟨wO.heap.size,t,none⟩=some v:=fun t v hv w' hB=>by rw[World.cell?_of_block (hB.block _ (blk_lt hqA))];simp only[World.cell?,hqA];exact hv
     have k0:=kq 0 _ rfl;have k1:=kq 1 _ rfl;have k2:=kq 2 _ rfl;have kc:∀ w',Below wA.heap.size wA w'->w'.cell? ⟨x.ib,0,none⟩=some (.int .i64 x.i.cl):=fun w' hB=>by
      have:=(((hR.out.mo.below hbA).below hB).a.i y hR.out.my).cells.1;rw[hR.out.yb,hR.out.yc] at this;exact this
     have hmin:min x.i.cl 64=x.i.cl:=Nat.min_eq_left (by have:=HX.out.2.2.2.cl;omega);have hone:IntKind.i64.wrap ((2:Int)^min x.i.cl 64)=(W:Int):=by
      rw[hmin];have:=shl_nat 1 x.i.cl;rw[Nat.one_mul,<-H5.out.2.2.2.2.2.1] at this;simp only[Int.one_mul,Int.natCast_one] at this;rw[this,IntWalk.i64_in _ (by omega)]
     have s0:Below wA.heap.size wA wA.drew:=brf.drew;have HA1:=jd3 hbA hmin hqA;clear hwA hbA hqA kq hmin d0 d1 d2 hia;have hfy:fnd S x.n=some y.i:=by rw[<-hR.out.yn];exact hR.out.mo.a.find hR.out.my
     have HFY:=hid hfy;clear hfy;have hpc:min x.i.cl 64=x.i.cl:=HA1.out.2.1;obtain⟨QW,hQW⟩:∃ q,q=Q*W:=⟨_,rfl⟩
     have hQWR:QW+R=pos:=by
      rw[hQW,HJ.out.2.2.2.2.2.2.1,HJ.out.2.2.2.2.2.2.2,Nat.mul_comm];exact Nat.div_add_mod pos W
     have hQWl:QW<=4096:=by omega
     have hsum:IntKind.i64.wrap ((Q:Int)*2^min x.i.cl 64)=(QW:Int):=by
      rw[hpc,shl_nat,<-H5.out.2.2.2.2.2.1,<-hQW,IntWalk.i64_in _ (by omega)]
     have hadd:IntKind.i64.wrap ((QW:Int)+(R:Int))=(pos:Int):=by
      rw[show((QW:Int)+(R:Int))=((QW+R:Nat):Int) by push_cast;rfl,hQWR,IntWalk.i64_in _ (by omega)]
     obtain⟨N,hN⟩:∃ q,q=k*16:=⟨_,rfl⟩
     have hNl:N<=65536:=by have:=HJ.out.2.2.1;omega
     have hmul:IntKind.i64.wrap ((k:Int)*16)=(N:Int):=by
      rw[show((k:Int)*16)=((k*16:Nat):Int) by push_cast;rfl,<-hN,IntWalk.i64_in _ (by omega)]
     have hmk:∀ w',(Instr.makeSlice 23 (.int .i64 (N:Int)) (.int .i64 (N:Int))).run prog w' = .ok (.slice (some ⟨w'.heap.size,0,none⟩) N N) (w'.alloc (.cells (madeCells #[.int .u8 0] N) 5)):=fun w'=>run_make_row' (P:=prog) 23 5 (.int .u8 0) 1 underlying23 info5 rfl .i64 .i64 N (by omega) (by omega) w';have HSUM:=jd3 hsum hadd hmul;have HNN:=hid hN;clear hpc hQW hQWR hQWl hsum hadd hmul hN;by_cases hgo:whole=false\/k=W
     ·have HGO:=hid hgo;cases whole
      ·clear hgo;refine wp_region_K 11 (fun w'=>Below wA.heap.size wA w') (by kernel_rfl) ?_;refine qk 0 ?_;try simp only[nk]
       refine qk 1 ?_;try simp only[nk]
       refine qk 2 ?_;try simp only[nk]
       refine rv 3 ?_;try simp only[nk]
       refine rv 4 ?_;try simp only[nk]
       refine rv 5 ?_;try simp only[nk]
       refine rv 6 ?_;try simp only[nk]
       refine rv 7 ?_;try simp only[nk]
       refine rv 8 ?_;try simp only[nk]
       refine rv 9 ?_;try simp only[nk]
       refine rv 10 ?_;try simp only[nk]
       refine wpAnyK_ready (rs:=[11]) (by kernel_rfl) (by simp) (AllReadyK.cons rfl (fun K hK=>?_) AllReadyK.nil);go_simp
       refine hK.out _ _ (fun h=>by cases h) ?_;clear hK K
       try simp only[nk]
       refine wpAnyK_done (by kernel_rfl) ?_ _;go_upto_region 11 with(fail)
       obtain⟨wB,hwB⟩:∃ z,z=wA.drew:=⟨_,rfl⟩
       rw[<-hwB];have hbB:Below wA.heap.size wA wB:=by rw[hwB];exact s0
       have hbOB:Below wO.heap.size wO wB:=HA1.out.1.trans (hbB.mono HA1.out.1.size);have j0:∀ w',Below wB.heap.size wB w'->w'.cell? ⟨wO.heap.size,0,none⟩=some (.int .i64 Q):=fun w' hB=>k0 w' (hbB.trans (hB.mono hbB.size));have j1:∀ w',Below wB.heap.size wB w'->w'.cell? ⟨wO.heap.size,1,none⟩=some (.int .i64 R):=fun w' hB=>k1 w' (hbB.trans (hB.mono hbB.size));have j2:∀ w',Below wB.heap.size wB w'->w'.cell? ⟨wO.heap.size,2,none⟩=some (.int .i64 k):=fun w' hB=>k2 w' (hbB.trans (hB.mono hbB.size));have jc:∀ w',Below wB.heap.size wB w'->w'.cell? ⟨x.ib,0,none⟩=some (.int .i64 x.i.cl):=fun w' hB=>kc w' (hbB.trans (hB.mono hbB.size));obtain⟨wC,hwC⟩:∃ z,z=(wB.alloc (.cells (madeCells #[.int .u8 0] N) 5)).drew:=⟨_,rfl⟩
       have hbC:Below wB.heap.size wB wC:=by rw[hwC];exact(brf.alloc nlr _).drew
       have hbOC:Below wO.heap.size wO wC:=hbOB.trans (hbC.mono hbOB.size);have hMC:=hR.out.mo.below hbOC;have bB:base<=wB.heap.size:=Nat.le_trans (Nat.le_trans (Nat.le_trans hbase (HP.out.bel (HP.out.wd _ H5.out.2.1)).size) hR.out.st.k.size) hbOB.size;have hoC:OwnB wC base 5 (.slice (some ⟨wB.heap.size,0,none⟩) N N) (zer N):=by
        rw[hwC];exact(zeros_own wB base N bB (by omega)).below (B:=(wB.alloc (.cells (madeCells #[.int .u8 0] N) 5)).heap.size) brf.drew fun q hq=>by cases hq;simp
       have hIIC:=hMC.a.i y hR.out.my;have hWR:=write_any 8 (bv:=.slice (some ⟨wB.heap.size,0,none⟩) N N) (b:=zer N) hMC.a hMC.mod0 (Ap.of hMC.nd).na (Nat.le_trans bB hbC.size) hR.out.my (by show dep S 8 y.n;rw[hR.out.yn];exact hR.out.dp) pos k (SlN.own hoC (fun b cc f hbb hq=>⟨(fun e=>by rw[e,hIIC.ck] at hq;cases hq),(fun e=>by obtain⟨es,mc,hmap⟩:=hIIC.own.g.isMap;rw[e,hmap] at hq;cases hq)⟩)) (by rw[HNN.out];simp[zer]) (by rw[hR.out.ys];have:=HJ.out.2.2.1;omega);rw[hR.out.yb] at hWR;have HWR:=hid hWR;have HC9:=jd3 hMC hbOC hbC;have HWC:=hid hwC;have t0:Below wB.heap.size wB wB.drew:=brf.drew;have hsum:=HSUM.out.1;have hadd:=HSUM.out.2.1;have hmul:=HSUM.out.2.2;clear hwB hbB hbOB k0 k1 k2 kc s0 hwC hbOC hMC bB hoC hIIC hWR hone;refine wp_region_K 16 (fun w'=>Below wB.heap.size wB w') (by kernel_rfl) ?_;refine qk 0 ?_;try simp only[nk]
       refine qk 1 ?_;try simp only[nk]
       refine qk 2 ?_;try simp only[nk]
       refine rq 3 ?_;try simp only[nk]
       refine qk 4 ?_;try simp only[nk]
       refine qk 5 ?_;try simp only[nk]
       refine qk 6 ?_;try simp only[nk]
       refine rq 7 ?_;try simp only[nk]
       refine rq 8 ?_;try simp only[nk]
       refine qk 9 ?_;try simp only[nk]
       refine rq 10 ?_;try simp only[nk]
       refine rq 11 ?_;try simp only[nk]
       refine qk 12 ?_;try simp only[nk]
       refine rq 13 ?_;try simp only[nk]
       refine rq 14 ?_;try simp only[nk]
       refine wpAnyK_ready (rs:=[15]) (by kernel_rfl) (by simp) (AllReadyK.cons rfl (fun K hK=>?_) AllReadyK.nil);go_simp
       try rw[<-HWC.out]
       refine hK.out _ _ (fun _=>hbC) ?_;clear hK K
       try simp only[nk]
       try rw[<-HWC.out]
       refine wpAnyK_ready (rs:=[16]) (by kernel_rfl) (by simp) (AllReadyK.cons rfl (fun K hK=>?_) AllReadyK.nil);go_simp
       go_wp2_with (go_at_call 81;refine HWR.out.mono ?_;rintro e w6 ⟨rfl,x6,hII6,hok6,ho6,hs6,hv6,hk6⟩)
       refine hK.out _ _ (fun h=>by cases h) ?_;clear hK K
       try simp only[nk]
       refine wpAnyK_done (by kernel_rfl) ?_ _;clear hsum hadd hmul hmk j0 j1 j2 jc t0;obtain⟨hMC,hbOC,hbC⟩:=HC9.out;obtain⟨iZ,hiZ⟩:∃ i,i=writeI S 8 y.i pos (zer N):=⟨_,rfl⟩
       have hsame:=writeI_same S 8 y.i pos (zer N);have hII6':=hII6;rw[<-hiZ] at hII6' hok6 hsame;have h9:=hMC.same hR.out.my (w':=w6) (by rw[hR.out.yb];exact hk6.imp fun b hb=>by rw[<-hR.out.yb] at hb;exact hb) (i':=iZ) (x':=x6) (by rw[hR.out.yb];exact hII6') hok6 ho6 hs6 hv6;have hNR:NR w5 w6 base mb M X x false W a stop (pos+k) (setI S x.n iZ) {X' with xs:=repl X'.xs ⟨y.n,iZ,y.ib,x6⟩} ⟨y.n,iZ,y.ib,x6⟩:=by
        have h:=hR.out;refine⟨?_,h.dm,h.cl,h.fr,(h.st.trans (Stp.of_below hbOC _)).trans h9.2,repl_mem h.my iZ x6,h.yn,h.yb,hsame.1.trans h.yc,hsame.2.1.trans h.ys,dep_setI HFY.out hsame.2.2.1 h.dp,?_⟩
        ·have:=h9.1;rw[show setI S x.n iZ=setI S y.n iZ by rw[h.yn]];exact this
        ·rw[<-h.e,HJ.out.2.2.2.2.2.1];show _=nouS _ x.n (pcs W (pos+k) stop) _;simp only[HFY.out];rw[if_pos (HGO.out.elim .inl fun h1 => .inr (by rw[h.yc,<-H5.out.2.2.2.2.2.1];exact h1)),hiZ,HNN.out]
       have HNR:=hid hNR;clear hMC hbOC hbC hiZ hsame hII6 hII6' hok6 ho6 hs6 hv6 hk6 h9 hNR
       go_wp2_with fail
       go_roundw
       case rel=>exact⟨j+1,pos+k,_,_,_,by go_num,by have:=HJ.out.2.2.1;omega,by have:=HJ.out.1;omega,HJ.out.2.2.2.2.1,HNR⟩
       case measure=>have:=HJ.out.1;simp[intOf];omega
      ·have hkW:k=W:=by
        rcases hgo with h|h
        ·cases h
        ·exact h
       have ekW:((k:Int)==(W:Int))=true:=by rw[hkW];simp
       clear hgo hkW;refine wp_region_K 11 (fun w'=>Below wA.heap.size wA w') (by kernel_rfl) ?_;refine qk 0 ?_;try simp only[nk]
       refine qk 1 ?_;try simp only[nk]
       refine qk 2 ?_;try simp only[nk]
       refine qk 3 ?_;try simp only[nk]
       refine rq 4 ?_;try simp only[nk]
       refine qk 5 ?_;try simp only[nk]
       refine qk 6 ?_;try simp only[nk]
       refine qk 7 ?_;try simp only[nk]
       refine rq 8 ?_;try simp only[nk]
       refine rq 9 ?_;try simp only[nk]
       refine rq 10 ?_;try simp only[nk]
       refine wpAnyK_ready (rs:=[11]) (by kernel_rfl) (by simp) (AllReadyK.cons rfl (fun K hK=>?_) AllReadyK.nil);go_simp
       refine hK.out _ _ (fun h=>by cases h) ?_;clear hK K
       try simp only[nk]
       refine wpAnyK_done (by kernel_rfl) ?_ _;clear ekW;go_upto_region 11 with(fail)
       obtain⟨wB,hwB⟩:∃ z,z=wA.drew:=⟨_,rfl⟩
       rw[<-hwB];have hbB:Below wA.heap.size wA wB:=by rw[hwB];exact s0
       have hbOB:Below wO.heap.size wO wB:=HA1.out.1.trans (hbB.mono HA1.out.1.size);have j0:∀ w',Below wB.heap.size wB w'->w'.cell? ⟨wO.heap.size,0,none⟩=some (.int .i64 Q):=fun w' hB=>k0 w' (hbB.trans (hB.mono hbB.size));have j1:∀ w',Below wB.heap.size wB w'->w'.cell? ⟨wO.heap.size,1,none⟩=some (.int .i64 R):=fun w' hB=>k1 w' (hbB.trans (hB.mono hbB.size));have j2:∀ w',Below wB.heap.size wB w'->w'.cell? ⟨wO.heap.size,2,none⟩=some (.int .i64 k):=fun w' hB=>k2 w' (hbB.trans (hB.mono hbB.size));have jc:∀ w',Below wB.heap.size wB w'->w'.cell? ⟨x.ib,0,none⟩=some (.int .i64 x.i.cl):=fun w' hB=>kc w' (hbB.trans (hB.mono hbB.size));obtain⟨wC,hwC⟩:∃ z,z=(wB.alloc (.cells (madeCells #[.int .u8 0] N) 5)).drew:=⟨_,rfl⟩
       have hbC:Below wB.heap.size wB wC:=by rw[hwC];exact(brf.alloc nlr _).drew
       have hbOC:Below wO.heap.size wO wC:=hbOB.trans (hbC.mono hbOB.size);have hMC:=hR.out.mo.below hbOC;have bB:base<=wB.heap.size:=Nat.le_trans (Nat.le_trans (Nat.le_trans hbase (HP.out.bel (HP.out.wd _ H5.out.2.1)).size) hR.out.st.k.size) hbOB.size;have hoC:OwnB wC base 5 (.slice (some ⟨wB.heap.size,0,none⟩) N N) (zer N):=by
        rw[hwC];exact(zeros_own wB base N bB (by omega)).below (B:=(wB.alloc (.cells (madeCells #[.int .u8 0] N) 5)).heap.size) brf.drew fun q hq=>by cases hq;simp
       have hIIC:=hMC.a.i y hR.out.my;have hWR:=write_any 8 (bv:=.slice (some ⟨wB.heap.size,0,none⟩) N N) (b:=zer N) hMC.a hMC.mod0 (Ap.of hMC.nd).na (Nat.le_trans bB hbC.size) hR.out.my (by show dep S 8 y.n;rw[hR.out.yn];exact hR.out.dp) pos k (SlN.own hoC (fun b cc f hbb hq=>⟨(fun e=>by rw[e,hIIC.ck] at hq;cases hq),(fun e=>by obtain⟨es,mc,hmap⟩:=hIIC.own.g.isMap;rw[e,hmap] at hq;cases hq)⟩)) (by rw[HNN.out];simp[zer]) (by rw[hR.out.ys];have:=HJ.out.2.2.1;omega);rw[hR.out.yb] at hWR;have HWR:=hid hWR;have HC9:=jd3 hMC hbOC hbC;have HWC:=hid hwC;have t0:Below wB.heap.size wB wB.drew:=brf.drew;have hsum:=HSUM.out.1;have hadd:=HSUM.out.2.1;have hmul:=HSUM.out.2.2;clear hwB hbB hbOB k0 k1 k2 kc s0 hwC hbOC hMC bB hoC hIIC hWR hone;refine wp_region_K 16 (fun w'=>Below wB.heap.size wB w') (by kernel_rfl) ?_;refine qk 0 ?_;try simp only[nk]
       refine qk 1 ?_;try simp only[nk]
       refine qk 2 ?_;try simp only[nk]
       refine rq 3 ?_;try simp only[nk]
       refine qk 4 ?_;try simp only[nk]
       refine qk 5 ?_;try simp only[nk]
       refine qk 6 ?_;try simp only[nk]
       refine rq 7 ?_;try simp only[nk]
       refine rq 8 ?_;try simp only[nk]
       refine qk 9 ?_;try simp only[nk]
       refine rq 10 ?_;try simp only[nk]
       refine rq 11 ?_;try simp only[nk]
       refine qk 12 ?_;try simp only[nk]
       refine rq 13 ?_;try simp only[nk]
       refine rq 14 ?_;try simp only[nk]
       refine wpAnyK_ready (rs:=[15]) (by kernel_rfl) (by simp) (AllReadyK.cons rfl (fun K hK=>?_) AllReadyK.nil);go_simp
       try rw[<-HWC.out]
       refine hK.out _ _ (fun _=>hbC) ?_;clear hK K
       try simp only[nk]
       try rw[<-HWC.out]
       refine wpAnyK_ready (rs:=[16]) (by kernel_rfl) (by simp) (AllReadyK.cons rfl (fun K hK=>?_) AllReadyK.nil);go_simp
       go_wp2_with (go_at_call 81;refine HWR.out.mono ?_;rintro e w6 ⟨rfl,x6,hII6,hok6,ho6,hs6,hv6,hk6⟩)
       refine hK.out _ _ (fun h=>by cases h) ?_;clear hK K
       try simp only[nk]
       refine wpAnyK_done (by kernel_rfl) ?_ _;clear hsum hadd hmul hmk j0 j1 j2 jc t0;obtain⟨hMC,hbOC,hbC⟩:=HC9.out;obtain⟨iZ,hiZ⟩:∃ i,i=writeI S 8 y.i pos (zer N):=⟨_,rfl⟩
       have hsame:=writeI_same S 8 y.i pos (zer N);have hII6':=hII6;rw[<-hiZ] at hII6' hok6 hsame;have h9:=hMC.same hR.out.my (w':=w6) (by rw[hR.out.yb];exact hk6.imp fun b hb=>by rw[<-hR.out.yb] at hb;exact hb) (i':=iZ) (x':=x6) (by rw[hR.out.yb];exact hII6') hok6 ho6 hs6 hv6;have hNR:NR w5 w6 base mb M X x true W a stop (pos+k) (setI S x.n iZ) {X' with xs:=repl X'.xs ⟨y.n,iZ,y.ib,x6⟩} ⟨y.n,iZ,y.ib,x6⟩:=by
        have h:=hR.out;refine⟨?_,h.dm,h.cl,h.fr,(h.st.trans (Stp.of_below hbOC _)).trans h9.2,repl_mem h.my iZ x6,h.yn,h.yb,hsame.1.trans h.yc,hsame.2.1.trans h.ys,dep_setI HFY.out hsame.2.2.1 h.dp,?_⟩
        ·have:=h9.1;rw[show setI S x.n iZ=setI S y.n iZ by rw[h.yn]];exact this
        ·rw[<-h.e,HJ.out.2.2.2.2.2.1];show _=nouS _ x.n (pcs W (pos+k) stop) _;simp only[HFY.out];rw[if_pos (HGO.out.elim .inl fun h1 => .inr (by rw[h.yc,<-H5.out.2.2.2.2.2.1];exact h1)),hiZ,HNN.out]
       have HNR:=hid hNR;clear hMC hbOC hbC hiZ hsame hII6 hII6' hok6 ho6 hs6 hv6 hk6 h9 hNR
       go_wp2_with fail
       go_roundw
       case rel=>exact⟨j+1,pos+k,_,_,_,by go_num,by have:=HJ.out.2.2.1;omega,by have:=HJ.out.1;omega,HJ.out.2.2.2.2.1,HNR⟩
       case measure=>have:=HJ.out.1;simp[intOf];omega
     ·have hwt:whole=true:=by cases whole;exact absurd (.inl rfl) hgo;rfl
      have hkW:((k:Int)==(W:Int))=false:=by simp;intro e;exact hgo (.inr (by omega))
      have HGO:=hid hgo;clear hgo;subst hwt;refine wp_region_K 11 (fun w'=>Below wA.heap.size wA w') (by kernel_rfl) ?_;refine qk 0 ?_;try simp only[nk]
      refine qk 1 ?_;try simp only[nk]
      refine qk 2 ?_;try simp only[nk]
      refine qk 3 ?_;try simp only[nk]
      refine rq 4 ?_;try simp only[nk]
      refine qk 5 ?_;try simp only[nk]
      refine qk 6 ?_;try simp only[nk]
      refine qk 7 ?_;try simp only[nk]
      refine rq 8 ?_;try simp only[nk]
      refine rq 9 ?_;try simp only[nk]
      refine rq 10 ?_;try simp only[nk]
      refine wpAnyK_ready (rs:=[11]) (by kernel_rfl) (by simp) (AllReadyK.cons rfl (fun K hK=>?_) AllReadyK.nil);go_simp
      refine hK.out _ _ (fun h=>by cases h) ?_;clear hK K
      try simp only[nk]
      refine wpAnyK_done (by kernel_rfl) ?_ _;clear hkW;have hNR:NR w5 wA.drew base mb M X x true W a stop (pos+k) S X' y:=by
       have h:=hR.out;have hb:=HA1.out.1.trans (s0.mono HA1.out.1.size);refine⟨h.mo.below hb,h.dm,h.cl,h.fr,h.st.trans (Stp.of_below hb _),h.my,h.yn,h.yb,h.yc,h.ys,h.dp,?_⟩;rw[<-h.e,HJ.out.2.2.2.2.2.1];show _=nouS true x.n (pcs W (pos+k) stop) _;simp only[HFY.out];rw[if_neg (fun h2=>h2.elim (fun h1=>by cases h1) fun h1=>HGO.out (.inr (by rw[H5.out.2.2.2.2.2.1,<-h.yc];exact h1)))]
      have HNR:=hid hNR;obtain⟨wD,hwD⟩:∃ z,z=wA.drew:=⟨_,rfl⟩
      rw[<-hwD] at HNR ⊢;clear hNR hwD hone k0 k1 k2 kc s0 hmk
      go_wp2_with fail
      go_roundw
      case rel=>exact⟨j+1,pos+k,_,_,_,by go_num,by have:=HJ.out.2.2.1;omega,by have:=HJ.out.1;omega,HJ.out.2.2.2.2.1,HNR⟩
      case measure=>have:=HJ.out.1;simp[intOf];omega
    ·obtain rfl:pos=stop:=by omega
     have hjp:j=pn:=by
      have h1:(pcs W a pos).drop j=pcs W pos pos:=by rw[<-H5.out.2.2.2.2.1];exact hdr
      rw[H5.out.2.2.2.1,H5.out.2.2.2.2.1];exact pcs_over h1 (by rw[<-H5.out.2.2.2.2.1,<-H5.out.2.2.2.1];exact hjn)
     have HJP:=jd3 hjp hdr hdr;clear hdr;obtain rfl:=hjp;go_upto_region 13 with(fail)
     have hN:=hR.out;have hst:Stp w2 wO (X.fp mb) (X'.fp mb):=(Stp.of_below H5.out.2.1 (X.fp mb)).trans hN.st;have hF:noughtsF whole M c=({M with all:=S},{},0):=by
      unfold noughtsF;rw[HX.out.2.2.1];simp only;rw[if_neg HA.out,if_neg (by rw[<-HWI.out];simp)];have h1:=hN.e;rw[pcs_end nlr] at h1;rw[<-H5.out.2.2.2.2.2.2.2,<-H5.out.2.2.2.2.2.2.1,<-H5.out.2.2.2.2.2.1,<-HX.out.2.1,<-h1];rfl
     have HF:=hid hF;have HE:=jd2 hN.mo hst;have HXX:=jd3 hN.dm hN.cl hN.fr;obtain⟨x0,x1,x2,x3,x4,x5,xz⟩:=zcells (HP.out.zs HM.out hst);clear hN hst hF;obtain⟨W,hW,⟨y0,y1,y2,y3,y4,y5⟩,r1,r2,r3⟩:=end_ok HP.out HM.out HE.out.1 HE.out.2;have HWW:=hid hW;have HR:=jd3 r1 r2 r3;clear hW r1 r2 r3
     go_wp2_with fail
     change bodyPost _ _ _ _ _ (st6 wO (w.heap.size+1) (.int .i64 0) nilS nilS nilS (.int .i64 0) (.int .i64 0));rw[<-HWW.out,HF.out];clear x0 x1 x2 x3 x4 x5 xz;refine bodyPost_ret (v:=failV 0) (by simp[results,results82,go_sem,y0,y1,y2,y3,y4,y5]) rfl ?_
     first
      | exact⟨_,rfl,HR.out.1,_,HR.out.2.1,HXX.out.1,by rw[HXX.out.2.1];exact nlr,by rw[HXX.out.2.2];rfl,HR.out.2.2⟩
      | exact⟨_,_,rfl,HR.out.1,HR.out.2.1,HXX.out.1,by rw[HXX.out.2.1];exact nlr,by rw[HXX.out.2.2];rfl,HR.out.2.2⟩
end Go.Proofs.YtgkabcaodnofnaaGreat
namespace Go.Md
def sortN (l:List Bs):List Bs:=l.mergeSort fun x y=>decide (x<=y)
def sortZ (l:List Int):List Int:=l.mergeSort fun x y=>decide (x<=y)
end Go.Md
namespace Go.Proofs.YtgkabcaodnofnaaGreat
open Go.RowKit Go.Mx Go.Md Go.Maps Go.Sort Go.Shelf
theorem sorted24 {H:Type}(b nn:Nat)(D0:DataW H)(R:Value->Option (DataW H×List MemPlace))(w:World)(hown:w.ownsMap prog 9 R b nn D0)(hmax:Maps.size D0<=maxLen)(hbytes:Maps.size D0*16<=140737488355328) :
  Calls prog 24 #[.func (.func 59) #[] #[.pointer (some ⟨w.heap.size,0,none⟩)]] (w.alloc (.cells #[.map (some b)] 57)) fun e w'=>∃ (v:Value) (ss:List (List UInt8)),e = .returned v/\ss.Perm (strKeys D0)/\
   w'.ownsRow (w.alloc (.cells #[.map (some b)] 57)).heap.size 9 1 v ss.length ((ss.mergeSort (fun x y=>decide (x<=y))).map encStr)/\(v = .slice none 0 0↔ss=[])/\Below (w.alloc (.cells #[.map (some b)] 57)).heap.size (w.alloc (.cells #[.map (some b)] 57)) w':=by
 have hbl:=hown.lt;have hseq:SeqGives Fence.wide 2 prog 59 #[.pointer (some ⟨w.heap.size,0,none⟩)] encStr (fun ss=>ss.Perm (strKeys D0)) (Maps.size D0) (w.alloc (.cells #[.map (some b)] 57)) :=
  AnyZ.keys_gives (ρ:=keysS_ren) {keysS with} Fence.wide _ trivial rfl (by omega) w.heap.size b nn D0 _ (by simp) (by simp) (by
   obtain⟨es,clock,hb,Ft,hs,hD⟩:=hown;exact⟨es,clock,(Below.heap_alloc _ _ b hbl).trans hb,Ft,hs,hD⟩)
 exact(callsIn_wide (n:=5)).1 (AnyZ.sorted_in sortedS Fence.wide 5 trivial trivial trivial trivial rfl (by omega) (sortsS _) (enters_of func58 (by kernel_rfl) rfl) 59 #[.pointer (some ⟨w.heap.size,0,none⟩)] trivial (enters_of func59 (by kernel_rfl) rfl) _ _ hmax hbytes _ hseq)
theorem sorted94 {H:Type}(b nn:Nat)(D0:DataW H)(R:Value->Option (DataW H×List MemPlace))(w:World)(hown:w.ownsMap prog 3 R b nn D0)(hmax:Maps.size D0<=maxLen)(hbytes:Maps.size D0*8<=140737488355328) :
  Calls prog 94 #[.func (.func 129) #[] #[.pointer (some ⟨w.heap.size,0,none⟩)]] (w.alloc (.cells #[.map (some b)] 84)) fun e w'=>∃ (v:Value) (ss:List Int),e = .returned v/\ss.Perm (intKeys D0)/\
   w'.ownsRow (w.alloc (.cells #[.map (some b)] 84)).heap.size 3 1 v ss.length ((ss.mergeSort (fun x y=>decide (x<=y))).map encZ)/\(v = .slice none 0 0↔ss=[])/\Below (w.alloc (.cells #[.map (some b)] 84)).heap.size (w.alloc (.cells #[.map (some b)] 84)) w':=by
 have hbl:=hown.lt;have hseq:SeqGives Fence.wide 2 prog 129 #[.pointer (some ⟨w.heap.size,0,none⟩)] encZ (fun ss=>ss.Perm (intKeys D0)) (Maps.size D0) (w.alloc (.cells #[.map (some b)] 84)) :=
  AnyZI.keys_gives (ρ:=keysI_ren) {keysI with} Fence.wide _ trivial rfl (by omega) w.heap.size b nn D0 _ (by simp) (by simp) (by
   obtain⟨es,clock,hb,Ft,hs,hD⟩:=hown;exact⟨es,clock,(Below.heap_alloc _ _ b hbl).trans hb,Ft,hs,hD⟩)
 exact(callsIn_wide (n:=5)).1 (AnyZI.sorted_in sortedI Fence.wide 5 trivial trivial trivial trivial rfl (by omega) (sortsI _) (enters_of func128 (by kernel_rfl) rfl) 129 #[.pointer (some ⟨w.heap.size,0,none⟩)] trivial (enters_of func129 (by kernel_rfl) rfl) _ _ hmax hbytes _ hseq)
theorem names24 {w:World}{base am:Nat}{S:IL}{xs:List XI}(h:AM w base am S xs)(hl:xs.length<=1000) :
  Calls prog 24 #[.func (.func 59) #[] #[.pointer (some ⟨w.heap.size,0,none⟩)]] (w.alloc (.cells #[.map (some am)] 57)) fun e w'=>∃ v,e = .returned v/\OwnG w' w.heap.size 9 1 v (strR (sortN (S.map (·.1))))/\Below w.heap.size w w':=by
 obtain⟨D,hown,hsz,hnd,hle,hhas,hat⟩:=id h.g;have e1:(xs.map fun x=>(x.n,pt x.ib)).map (·.1)=xs.map (·.n):=by rw[List.map_map];rfl
 have hlk:∀ s,(Mx.look (xs.map fun x=>(x.n,pt x.ib)) s).isSome=true↔s∈(xs.map fun x=>(x.n,pt x.ib)).map (·.1):=fun s=>by
  have:=look_none (xs.map fun x=>(x.n,pt x.ib)) s;cases hl:Mx.look (xs.map fun x=>(x.n,pt x.ib)) s with
  | none=>rw[hl] at this;simp only[Option.isSome_none,Bool.false_eq_true,false_iff];exact this.1 rfl
  | some b =>
   rw[hl] at this;simp only[reduceCtorEq,false_iff,Decidable.not_not] at this;simp only[Option.isSome_some,true_iff];exact this
 have hperm:((xs.map fun x=>(x.n,pt x.ib)).map (·.1)).Perm (strKeys D):=by
  refine Collected.perm (left:=fun _=>false) ⟨hnd,fun s=>?_⟩ hown (string_keyed underlying9) underlying9 (fun _=>rfl);have h5:Maps.has D (.string s)=_:=hhas s;rw[h5,<-hlk s];simp
 have hmax:Maps.size D<=maxLen:=by rw[hsz,List.length_map];unfold maxLen;omega
 have hbytes:Maps.size D*16<=140737488355328:=by rw[hsz,List.length_map];omega
 refine(sorted24 _ _ D _ w hown hmax hbytes).mono ?_;rintro e w' ⟨v,ss,rfl,hS,hrow,hnil,hb⟩;have hpS:(S.map (·.1)).Perm (xs.map (·.n)):=by
  have:=(h.p.map (·.1)).symm;rwa[List.map_map] at this
 have e2:ss.mergeSort (fun x y=>decide (x<=y))=sortN (S.map (·.1)):=by
  unfold sortN;exact mergeSort_of_perm (hS.trans (hperm.symm.trans (by rw[e1];exact hpS.symm)))
 have hlen:ss.length=(strR (sortN (S.map (·.1)))).length:=by rw[List.length_map,<-e2,(List.mergeSort_perm ss _).length_eq]
 have hfl:(strR (sortN (S.map (·.1)))).flatten=(sortN (S.map (·.1))).map encStr:=by
  generalize sortN (S.map (·.1))=L
  induction L with
  | nil=>rfl
  | cons a r ih=>simp only[List.map_cons,List.flatten_cons,ih];rfl
 refine⟨v,rfl,⟨?_,?_⟩,((Below.refl _ w).alloc nlr _).trans (hb.mono (by simp))⟩
 ·rw[hfl,<-hlen,<-e2];exact ownsRow_base_a hrow (by simp)
 ·intro r hr;obtain⟨s,_,rfl⟩:=List.mem_map.1 hr;rfl
end Go.Proofs.YtgkabcaodnofnaaGreat
