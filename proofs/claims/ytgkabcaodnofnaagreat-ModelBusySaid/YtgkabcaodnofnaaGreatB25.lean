import Derived.Test.YtgkabcaodnofnaaGreatB02
import Derived.Test.YtgkabcaodnofnaaGreatB24
set_option linter.unusedSimpArgs false
set_option linter.unusedVariables false
set_option maxRecDepth 100000
set_option maxHeartbeats 2000000
open Go.Proofs.Tryz
namespace Go.Md
def comS (bn:Bs)(cl:Nat)(own:Nat->Option Bs):List Int->IL->IL
 | [],S=>S
 | z :: r,S=>comS bn cl own r (match fnd S bn,own z.toNat with
  | some b,some bs=>setI S bn (writeI S 8 b (z.toNat*2^cl) bs)
  | _,_=>S)
def comN (i b:IM):Nat:=if b.size<i.size then(i.size+2^b.cl-1)/2^b.cl*2^b.cl else b.size
def comM (M:MM)(n:Bs)(i b:IM):MM :=
 let M1:=flushM M n
 let S1:=if comN i b=b.size then M1.all else setI M1.all i.back (resizeI b (comN i b))
 let M4:=flushM {M1 with all:=comS i.back i.cl i.own (keysO (i.size/2^i.cl) i.own) S1} i.back
 flushM {M4 with all:=setI M4.all n {i with own:=fun _=>none}} n
def commitF (M:MM)(c:Cm):MM×Rp×Nat:=match fnd M.all c.name with
 | none=>(M,failR 4,0)
 | some i=>if i.back=[] then(M,failR 15,0) else match fnd M.all i.back with
  | none=>(M,failR 4,0)
  | some b=>if 0<Go.Proofs.YtgkabcaodnofnaaGreat.aboveN M.all c.name\/1<Go.Proofs.YtgkabcaodnofnaaGreat.aboveN M.all i.back then(M,failR 14,0) else if 0<i.shots.length then(M,failR 12,0) else if 4096<comN i b then(M,failR 6,0)
   else(comM M c.name i b,{},3)
end Go.Md
namespace Go.Proofs.YtgkabcaodnofnaaGreat
open Go.RowKit Go.Mx Go.Md
theorem keysO_len (nc:Nat)(own:Nat->Option Bs):(keysO nc own).length<=nc:=by
 unfold keysO sortZ;rw[List.length_mergeSort,List.length_map];exact Nat.le_trans (List.length_filter_le _ _) (by rw[List.length_range];exact nlr)
theorem flushM_all (M:MM)(n:Bs):(flushM M n).all=M.all:=by unfold flushM;cases fnd M.all n<;>rfl
theorem OM.at2 {w:World}{base m:Nat}{own:Nat->Option Bs}{l:ML Int}(h:OM w base m own l){k:Nat}(hk:k<=1000000){bs:Bs}(ho:own k=some bs):∃ v,OwnB w base 5 v bs/\∀ w',w'.heap[m]? = w.heap[m]?->(Instr.lookup 84 (.map (some m)) (.int .i64 k) false).run prog w' = .ok v w':=by
 have hwf:EI.ok (k:Int):=by
  show(Lit.int .i64 (k:Int)).wf=true;simp[Lit.wf,IntKind.min,IntKind.max,IntKind.signed,IntKind.bits];omega
 obtain⟨v,hv⟩:=h.b k bs ho;obtain⟨k',bs',h1,h2,h3⟩:=h.f _ hv;have:k=k':=by simp only at h1;omega
 subst this;rw[ho] at h2;cases h2;refine⟨v,h3,fun w' hw=>?_⟩;have hl:=(h.g.block hw).look (t:=84) (e:=23) (z:=.slice none 0 0) K3 underlying84 zero23 rfl (k:Int) hwf;rw[look_of_mem h.g.nodup hv] at hl;exact hl
theorem II.set3 {w:World}{base ib:Nat}{i:IM}{x:IX}(h:II w base ib i x)(hnd:(x.fp ib).Nodup){nb:Nat}{own:Nat->Option Bs}{ol:ML Int}(hO:OM w base nb own ol) :
  II (w.setCell ⟨ib,3,none⟩ (.map (some nb))) base ib {i with own:=own} {x with om:=nb,ol:=ol}:=by
 have hfn:=IX.fp_ib hnd;have hk:Kept w (w.setCell ⟨ib,3,none⟩ (.map (some nb))) (·≠ib):=Kept.set _ _ _ _ (by simp);have hnb:nb≠ib:=fun e=>by obtain⟨es,c,h1⟩:=hO.g.isMap;rw[e,h.ck] at h1;cases h1
 refine⟨?_,hO.kept hk hnb fun b c f hb=>h.notib b c 5 f hb (by decide),h.se,h.so.kept hk fun q hq=>Ne.symm (hfn.2.2 q hq).1,fun s hs=>(h.sm s hs).kept hk (Ne.symm (hfn.2.1 s hs).1) fun b c f hb=>h.notib b c 5 f hb (by decide),h.maps.kept hk fun b c t f hb ht=>h.notib b c t f hb (by rcases ht with h|h<;>simp[h])⟩
 rw[heap_setCell_at' w ib 3 _ _ 87 _ h.ck];rfl
structure CR (w0 wr:World)(base mb:Nat)(M1:MM)(X0:MX)(x:XI)(bn:Bs)(yb N:Nat)(S0:IL)(S:IL)(X':MX)(y:XI):Prop where
 mo:MO wr base mb {M1 with all:=S} X'
 dm:X'.dm=X0.dm
 cl:X'.cl=X0.cl
 fr:X'.fr=X0.fr
 ks:X'.ks=X0.ks
 st:Stp w0 wr (X0.fp mb) (X'.fp mb)
 my:y∈X'.xs
 yn:y.n=bn
 yb:y.ib=yb
 ys:y.i.size=N
 mx:x∈X'.xs
 dp:∀ m,dep S 8 m
theorem CR.below {w0 wr w':World}{base mb yb N:Nat}{M1:MM}{X0 X':MX}{x y:XI}{bn:Bs}{S0 S:IL}(h:CR w0 wr base mb M1 X0 x bn yb N S0 S X' y)(hb:Below wr.heap.size wr w'):CR w0 w' base mb M1 X0 x bn yb N S0 S X' y :=
 ⟨h.mo.below hb,h.dm,h.cl,h.fr,h.ks,h.st.trans (Stp.of_below hb _),h.my,h.yn,h.yb,h.ys,h.mx,h.dp⟩
theorem repl_keep {xs:List XI}{x y:XI}(hx:x∈xs)(hn:x.n≠y.n):x∈repl xs y:=List.mem_map.2 ⟨x,hx,by rw[if_neg hn]⟩
theorem CR.step {w0 wr w':World}{base mb yb N:Nat}{M1:MM}{X0 X':MX}{x y:XI}{bn:Bs}{S0 S:IL}(h:CR w0 wr base mb M1 X0 x bn yb N S0 S X' y)(hne:x.n≠bn){i':IM}{x':IX}(hII:II w' base y.ib i' x')(hok:IOk i')(e1:x'.om=y.x.om)(e2:x'.ss=y.x.ss)(e3:x'.sv=y.x.sv)(hk:Kept wr w' (fun b=>b≠y.ib/\b≠y.x.om))(hsz:i'.size=N)(hb:i'.back=y.i.back) :
  CR w0 w' base mb M1 X0 x bn yb N S0 (setI S bn i') {X' with xs:=repl X'.xs ⟨y.n,i',y.ib,x'⟩} ⟨y.n,i',y.ib,x'⟩:=by
 have h9:=h.mo.same h.my hk hII hok e1 e2 e3;have hyn:=h.yn;refine⟨by rw[<-hyn];exact h9.1,h.dm,h.cl,h.fr,h.ks,h.st.trans h9.2,repl_mem h.my _ _,hyn,h.yb,hsz,repl_keep h.mx (by rw[hyn];exact hne),fun m=>?_⟩;rw[<-hyn];exact dep_setI (h.mo.a.find h.my) hb (h.dp m)
theorem CR.write {w0 wr:World}{base mb yb N:Nat}{M1:MM}{X0 X':MX}{x y:XI}{bn:Bs}{S0 S:IL}(h:CR w0 wr base mb M1 X0 x bn yb N S0 S X' y)(hne:x.n≠bn)(hbase:base<=wr.heap.size){P W:Nat}{v:Value}{bs:Bs}(hv:OwnB wr base 5 v bs)(hl:bs.length=W*16)(hs:P+W<=N) :
  Calls prog 81 #[pt mb,pt yb,.int .i64 P,v] wr fun e w'=>e = .returned (.tuple #[])/\∃ X'' y'',CR w0 w' base mb M1 X0 x bn yb N S0 (setI S bn (writeI S 8 y.i P bs)) X'' y'':=by
 have hII:=h.mo.a.i y h.my;have hyb:=h.yb;subst hyb;refine(write_any 8 h.mo.a h.mo.mod0 (Ap.of h.mo.nd).na hbase h.my (h.dp _) P W (SlN.own hv fun b c f _ hb=>hII.nw b c 5 f hb (by decide)) hl (by rw[h.ys];exact hs)).mono ?_;rintro e w' ⟨rfl,x',h1,h2,e1,e2,e3,hk⟩;have hw:=writeI_same S 8 y.i P bs;exact⟨rfl,{X' with xs:=repl X'.xs ⟨y.n,writeI S 8 y.i P bs,y.ib,x'⟩},⟨y.n,writeI S 8 y.i P bs,y.ib,x'⟩,h.step hne h1 h2 e1 e2 e3 hk (hw.2.1.trans h.ys) hw.2.2.1⟩
theorem comS_step {bn:Bs}{cl:Nat}{own:Nat->Option Bs}{z:Int}{r:List Int}{S:IL}{b:IM}{k:Nat}{bs:Bs}(hz:z=(k:Int))(hf:fnd S bn=some b)(ho:own k=some bs):comS bn cl own (z :: r) S=comS bn cl own r (setI S bn (writeI S 8 b (k*2^cl) bs)):=by
 have hk:z.toNat=k:=by omega
 simp only[comS,hk,hf,ho]
theorem empty_own {w:World}{base:Nat}:OM (w.alloc (.map #[] 0)) base w.heap.size (fun _=>none) []:=⟨GM.made EI prog 3 w,(fun p hp=>by cases hp),(fun k bs h=>by cases h)⟩
theorem cmd49_any:CmdOk 49 HasN commitF:=by
 intro w base mb M X c dv h hM hbase hfr hC hp;obtain⟨da,dn,dc,rfl⟩:=slB_shape hC.d.slB;obtain⟨x,hx,hxn,hfx⟩:=has_x h hC hp;have hok:=h.a.ok x hx;obtain⟨w2,hw2,P⟩:=pro_of w c (.slice da dn dc);have f0:=P.m0 h;have f1:=P.c1;have lk:=P.l0 h hx hxn;have i2:=P.i2 h hx;have hdx:=hM.dp x.n;have hyx:x.i.back≠x.n:=fun e=>by
  obtain⟨e1,_,e2,e3⟩:=dep_min (by rw[hxn];exact hfx) (hM.dp x.n);exact e3 (e▸e2)
 have HYX:=hid hyx;clear hdx hyx;have HW:=hid hw2;have HP:=hid P;have HM:=hid h;have HK:=jd5 hM hbase hfr hC hp;have HX:=jd4 hx hxn hfx hok;have ef0:=f0 w2 brf;have ef1:=f1 w2 brf;have elk:=lk w2 brf;have ei2:=i2 w2 brf;clear hw2 P h hM hfr hC hp hxn hfx hok;go_enter func49,ntmps49
 go_upto_region 1 with(fail)
 rw[<-HW.out]
 go_region_held (fun w'=>Below w2.heap.size w2 w') (first|with_reducible exact brf.drew|with_reducible assumption|with_reducible exact Below.drew (by assumption)) (fail)
 obtain⟨w3,hw3⟩:∃ z,z=w2.drew:=⟨_,rfl⟩
 have hb3:Below w2.heap.size w2 w3:=by rw[hw3];exact brf.drew
 rw[<-hw3];clear hw3 ef0 ef1 elk ei2;have gi2:=i2 w3 hb3;by_cases hbk:x.i.back=[]
 ·have ebk:(x.i.back==[])=true:=by simpa using hbk
  have HBK:=hid hbk;clear hbk;go_upto_region 3 with(fail)
  have hbZ:=hb3
  go_wp2_with (go_at_call 21;refine(failed_any 15 _).mono ?_;rintro e w9 ⟨rfl,hb9⟩;obtain⟨x0,x1,x2,x3,x4,x5,xz⟩:=zcells (HP.out.z (hbZ.trans (hb9.mono hbZ.size))))
  obtain⟨W,hW,⟨y0,y1,y2,y3,y4,y5⟩,r1,r2,r3⟩:=end_fail HP.out HM.out (hbZ.trans (hb9.mono hbZ.size)) 15;have hF:commitF M c=(M,failR 15,0):=by
   unfold commitF;rw[HX.out.2.2.1];simp only;rw[if_pos HBK.out]
  rw[hF];clear x0 x1 x2 x3 x4 x5 xz hF;change bodyPost _ _ _ _ _ (st6 w9 (w.heap.size+1) (.int .i64 15) nilS nilS nilS (.int .i64 0) (.int .i64 0));rw[<-hW];exact bodyPost_ret (v:=failV 15) (by simp[results,results49,go_sem,y0,y1,y2,y3,y4,y5]) rfl ⟨_,X,rfl,r1,r2,rfl,nlr,rfl,r3⟩
 ·have ebk:(x.i.back==[])=false:=by simpa using hbk
  obtain⟨y,hy,hyn,hfy⟩:∃ y∈X.xs,y.n=x.i.back/\fnd M.all x.i.back=some y.i:=by
   rcases HK.out.1.bk _ _ HX.out.2.2.1 with h1|h1
   ·exact absurd h1 hbk
   ·rcases HM.out.a.at x.i.back (Nat.le_trans HX.out.2.2.2.nb (by unfold maxLen;omega)) with⟨h2,_⟩|⟨y,h2,h3,h4,_⟩
    ·rw[h2] at h1;cases h1
    ·exact⟨y,h2,h3,h4⟩
  have lky:∀ w',Below w2.heap.size w2 w'->(Instr.lookup 57 (.map (some X.am)) (str x.i.back) false).run prog w' = .ok (pt y.ib) w':=fun w' hB=>by rw[<-hyn];exact(HP.out.mo HM.out w' (HP.out.wd _ hB)).a.atx hy
  have j0:∀ w',Below w2.heap.size w2 w'->w'.cell? ⟨y.ib,0,none⟩=some (.int .i64 y.i.cl):=fun w' hB=>((HP.out.mo HM.out w' (HP.out.wd _ hB)).a.i y hy).cells.1;have j1:∀ w',Below w2.heap.size w2 w'->w'.cell? ⟨y.ib,1,none⟩=some (.int .i64 y.i.size):=fun w' hB=>((HP.out.mo HM.out w' (HP.out.wd _ hB)).a.i y hy).cells.2.1;have i1:∀ w',Below w2.heap.size w2 w'->w'.cell? ⟨x.ib,1,none⟩=some (.int .i64 x.i.size):=fun w' hB=>((HP.out.mo HM.out w' (HP.out.wd _ hB)).a.i x HX.out.1).cells.2.1;have HY:=jd5 hy hyn hfy hbk (HM.out.a.ok y hy);have HI2:=hid i2;clear hy hyn hfy hbk lk;go_upto_region 4 with(fail)
  go_region_held (fun w'=>Below w2.heap.size w2 w') (first|with_reducible exact hb3.drew|with_reducible assumption|with_reducible exact Below.drew (by assumption)) (fail)
  obtain⟨w4,hw4⟩:∃ z,z=w3.drew:=⟨_,rfl⟩
  have hb4:Below w2.heap.size w2 w4:=by rw[hw4];exact hb3.drew
  rw[<-hw4];have gj0:=j0 w4 hb4;have gj1:=j1 w4 hb4;have gi1:=i1 w4 hb4;have gi2:=i2 w4 hb4;have ef1:=f1 w4 hb4;clear hw4 lky j0 j1 i1 hb3 f0;by_cases hlt:y.i.size<x.i.size
  ·obtain⟨W,hW⟩:∃ q,q=2^y.i.cl:=⟨_,rfl⟩
   obtain⟨A,hA⟩:∃ q,q=x.i.size+W:=⟨_,rfl⟩
   obtain⟨A1,hA1⟩:∃ q,q=A-1:=⟨_,rfl⟩
   obtain⟨Q,hQ⟩:∃ q,q=A1/W:=⟨_,rfl⟩
   obtain⟨N,hN⟩:∃ q,q=Q*W:=⟨_,rfl⟩
   have hW12:=two_pow6 HY.out.2.2.2.2.cl;rw[<-hW] at hW12;have hxs:=HX.out.2.2.2.size;have hQA:Q<=A1:=by rw[hQ];exact Nat.div_le_self _ _
   have hNA:N<=A1:=by rw[hN,hQ];exact Nat.div_mul_le_self _ _
   have hNe:comN x.i y.i=N:=by unfold comN;rw[if_pos hlt,<-hW,hN,hQ,hA1,hA]
   have hNx:x.i.size<=N:=by
    have h1:=Nat.div_add_mod A1 W;have h2:=Nat.mod_lt A1 (show 0<W by omega);rw[Nat.mul_comm] at h1;rw[<-hQ,<-hN] at h1;omega
   have hNm:N%2^y.i.cl=0:=by rw[<-hW,hN];exact Nat.mul_mod_left _ _
   have g1:IntKind.i64.wrap ((2:Int)^min y.i.cl 64)=(W:Int):=by
    rw[show min y.i.cl 64=y.i.cl from Nat.min_eq_left (by have:=HY.out.2.2.2.2.cl;omega),show((2:Int)^y.i.cl)=((2^y.i.cl:Nat):Int) by push_cast;rfl,<-hW,IntWalk.i64_in _ (by omega)]
   have g2:IntKind.i64.wrap ((x.i.size:Int)+(W:Int))=(A:Int):=by rw[IntWalk.i64_in _ (by omega)];omega
   have g3:IntKind.i64.wrap ((A:Int)-1)=(A1:Int):=by rw[IntWalk.i64_in _ (by omega)];omega
   have g4:(A1:Int).tdiv (W:Int)=(Q:Int):=by rw[hQ];exact Int.ofNat_tdiv _ _
   have g5:IntKind.i64.wrap (Q:Int)=(Q:Int):=IntWalk.i64_in _ (by omega);have g6:IntKind.i64.wrap ((Q:Int)*(W:Int))=(N:Int):=by rw[show((Q:Int)*(W:Int))=((Q*W:Nat):Int) by push_cast;rfl,<-hN,IntWalk.i64_in _ (by omega)]
   have g7:((W:Int)==0)=false:=by
    have:¬ (W:Int)=0:=by omega
    simpa using this
   have g8:¬ (W:Int)=0:=by omega
   have HN:=jd3 hNe hNx hNm;have HLT:=hid hlt;have HWQ:=jd5 hW hA hA1 hQ hN;clear hW hA hA1 hQ hN hNe hNm hNx;go_upto_region 9 with(fail)
   have HA1:=hid (above_any (HP.out.mo HM.out w4 (HP.out.wd _ hb4)).mod0 (HP.out.mo HM.out w4 (HP.out.wd _ hb4)).a (by rw[HM.out.a.len];have:=HK.out.1.le;omega) c.name);obtain⟨a1,ha1⟩:∃ q,q=aboveN M.all c.name:=⟨_,rfl⟩
   obtain⟨a2,ha2⟩:∃ q,q=aboveN M.all x.i.back:=⟨_,rfl⟩
   rw[<-ha1] at HA1;have HAE:=jd2 ha1 ha2;have HI4:=hid hb4;clear gj0 gj1 gi1;by_cases h1:0<a1
   ·have H1:=hid h1;go_upto_region 11 with(go_at_call 78;refine HA1.out.mono ?_;rintro e w5 ⟨oa,oc,rfl,hb5⟩)
    have hbZ:=(HI4.out.trans (hb5.mono HI4.out.size))
    go_wp2_with (go_at_call 21;refine(failed_any 14 _).mono ?_;rintro e w9 ⟨rfl,hb9⟩;obtain⟨x0,x1,x2,x3,x4,x5,xz⟩:=zcells (HP.out.z (hbZ.trans (hb9.mono hbZ.size))))
    obtain⟨W,hW,⟨y0,y1,y2,y3,y4,y5⟩,r1,r2,r3⟩:=end_fail HP.out HM.out (hbZ.trans (hb9.mono hbZ.size)) 14;have hF:commitF M c=(M,failR 14,0):=by
     unfold commitF;rw[HX.out.2.2.1];simp only;rw[if_neg HY.out.2.2.2.1,HY.out.2.2.1];simp only;rw[if_pos (Or.inl (HAE.out.1▸H1.out))]
    rw[hF];clear x0 x1 x2 x3 x4 x5 xz hF;change bodyPost _ _ _ _ _ (st6 w9 (w.heap.size+1) (.int .i64 14) nilS nilS nilS (.int .i64 0) (.int .i64 0));rw[<-hW];exact bodyPost_ret (v:=failV 14) (by simp[results,results49,go_sem,y0,y1,y2,y3,y4,y5]) rfl ⟨_,X,rfl,r1,r2,rfl,nlr,rfl,r3⟩
   ·have H1:=hid h1;have ha0:a1=0:=by omega
    go_upto_region 10 with(go_at_call 78;refine HA1.out.mono ?_;rintro e w5 ⟨oa,oc,rfl,hb5⟩)
    have hb25:Below w2.heap.size w2 w5:=HI4.out.trans (hb5.mono HI4.out.size);have gi5:=i2 w5 hb25;have HA2:=hid (above_any (HP.out.mo HM.out w5 (HP.out.wd _ hb25)).mod0 (HP.out.mo HM.out w5 (HP.out.wd _ hb25)).a (by rw[HM.out.a.len];have:=HK.out.1.le;omega) x.i.back);rw[<-HAE.out.2] at HA2;have H5:=hid hb25;clear hb25 gi2;by_cases h2:1<a2
    ·have H2:=hid h2;go_upto_region 11 with(go_at_call 78;refine HA2.out.mono ?_;rintro e w6 ⟨oa2,oc2,rfl,hb6⟩)
     have hbZ:=(H5.out.trans (hb6.mono H5.out.size))
     go_wp2_with (go_at_call 21;refine(failed_any 14 _).mono ?_;rintro e w9 ⟨rfl,hb9⟩;obtain⟨x0,x1,x2,x3,x4,x5,xz⟩:=zcells (HP.out.z (hbZ.trans (hb9.mono hbZ.size))))
     obtain⟨W,hW,⟨y0,y1,y2,y3,y4,y5⟩,r1,r2,r3⟩:=end_fail HP.out HM.out (hbZ.trans (hb9.mono hbZ.size)) 14;have hF:commitF M c=(M,failR 14,0):=by
      unfold commitF;rw[HX.out.2.2.1];simp only;rw[if_neg HY.out.2.2.2.1,HY.out.2.2.1];simp only;rw[if_pos (Or.inr (HAE.out.2▸H2.out))]
     rw[hF];clear x0 x1 x2 x3 x4 x5 xz hF;change bodyPost _ _ _ _ _ (st6 w9 (w.heap.size+1) (.int .i64 14) nilS nilS nilS (.int .i64 0) (.int .i64 0));rw[<-hW];exact bodyPost_ret (v:=failV 14) (by simp[results,results49,go_sem,y0,y1,y2,y3,y4,y5]) rfl ⟨_,X,rfl,r1,r2,rfl,nlr,rfl,r3⟩
    ·have H2:=hid h2;go_upto_region 12 with(go_at_call 78;refine HA2.out.mono ?_;rintro e w6 ⟨oa2,oc2,rfl,hb6⟩)
     have hb26:Below w2.heap.size w2 w6:=H5.out.trans (hb6.mono H5.out.size);have hM6:=HP.out.mo HM.out w6 (HP.out.wd _ hb26);obtain⟨sa,sn,sc,hsv⟩:=ownG_sh (hM6.a.i x HX.out.1).so;have gi4:w6.cell? ⟨x.ib,4,none⟩=some (.slice sa sn sc):=by rw[(hM6.a.i x HX.out.1).cells.2.2.2.2.1,hsv]
     have hsn:sn=x.i.shots.length:=by
      have ho:=(hM6.a.i x HX.out.1).so;rw[hsv] at ho;rw[(hM6.a.i x HX.out.1).se,List.length_map];rcases ho.shape with⟨he,e2⟩|⟨g,cc,he,_⟩<;>(cases he;first|(have:=congrArg List.length e2;simp at this;simp[this])|simp)
     have hno:¬ (0<Go.Proofs.YtgkabcaodnofnaaGreat.aboveN M.all c.name\/1<Go.Proofs.YtgkabcaodnofnaaGreat.aboveN M.all x.i.back):=by rw[<-HAE.out.1,<-HAE.out.2];rintro(h|h);exact H1.out h;exact H2.out h
     have HNO:=hid hno;have HSN:=hid hsn;have H6:=jd2 hb26 hM6;clear hb26 hM6 hsv hsn hno gi5 hb6 hb5;by_cases h3:0<sn
     ·have H3:=hid h3;go_upto_region 13 with(fail)
      have hbZ:=H6.out.1
      go_wp2_with (go_at_call 21;refine(failed_any 12 _).mono ?_;rintro e w9 ⟨rfl,hb9⟩;obtain⟨x0,x1,x2,x3,x4,x5,xz⟩:=zcells (HP.out.z (hbZ.trans (hb9.mono hbZ.size))))
      obtain⟨W,hW,⟨y0,y1,y2,y3,y4,y5⟩,r1,r2,r3⟩:=end_fail HP.out HM.out (hbZ.trans (hb9.mono hbZ.size)) 12;have hF:commitF M c=(M,failR 12,0):=by
       unfold commitF;rw[HX.out.2.2.1];simp only;rw[if_neg HY.out.2.2.2.1,HY.out.2.2.1];simp only;rw[if_neg HNO.out,if_pos (HSN.out▸H3.out)]
      rw[hF];clear x0 x1 x2 x3 x4 x5 xz hF;change bodyPost _ _ _ _ _ (st6 w9 (w.heap.size+1) (.int .i64 12) nilS nilS nilS (.int .i64 0) (.int .i64 0));rw[<-hW];exact bodyPost_ret (v:=failV 12) (by simp[results,results49,go_sem,y0,y1,y2,y3,y4,y5]) rfl ⟨_,X,rfl,r1,r2,rfl,nlr,rfl,r3⟩
     ·have H3:=hid h3;have hs0:sn=0:=by omega
      by_cases h4:4096<N
      ·have H4:=hid h4;go_upto_region 15 with(fail)
       have hbZ:=H6.out.1
       go_wp2_with (go_at_call 21;refine(failed_any 6 _).mono ?_;rintro e w9 ⟨rfl,hb9⟩;obtain⟨x0,x1,x2,x3,x4,x5,xz⟩:=zcells (HP.out.z (hbZ.trans (hb9.mono hbZ.size))))
       obtain⟨W,hW,⟨y0,y1,y2,y3,y4,y5⟩,r1,r2,r3⟩:=end_fail HP.out HM.out (hbZ.trans (hb9.mono hbZ.size)) 6;have hF:commitF M c=(M,failR 6,0):=by
        unfold commitF;rw[HX.out.2.2.1];simp only;rw[if_neg HY.out.2.2.2.1,HY.out.2.2.1];simp only;rw[if_neg HNO.out,if_neg (HSN.out▸H3.out),if_pos (HN.out.1.symm▸H4.out)]
       rw[hF];clear x0 x1 x2 x3 x4 x5 xz hF;change bodyPost _ _ _ _ _ (st6 w9 (w.heap.size+1) (.int .i64 6) nilS nilS nilS (.int .i64 0) (.int .i64 0));rw[<-hW];exact bodyPost_ret (v:=failV 6) (by simp[results,results49,go_sem,y0,y1,y2,y3,y4,y5]) rfl ⟨_,X,rfl,r1,r2,rfl,nlr,rfl,r3⟩
      ·have H4:=hid h4;have hF:commitF M c=(comM M x.n x.i y.i,{},3):=by
        unfold commitF;rw[HX.out.2.2.1];simp only;rw[if_neg HY.out.2.2.2.1,HY.out.2.2.1];simp only;rw[if_neg HNO.out,if_neg (HSN.out▸H3.out),if_neg (HN.out.1.symm▸H4.out),HX.out.2.1]
       have HF:=hid hF;have gf6:=f1 w6 H6.out.1;have HFL:=hid (flush_any H6.out.2 (Nat.le_trans hbase (HP.out.bel (HP.out.wd _ H6.out.1)).size) HX.out.1 (by rw[HM.out.k.len];have:=HK.out.1.kl;omega) (by have:=HK.out.2.2.1;omega));rw[HX.out.2.1] at HFL;clear hF ef1;go_upto_region 17 with(go_at_call 77;refine HFL.out.mono ?_;rintro e w7 ⟨rfl,X1,hm1,ea,exs,eks,efr,edm,ecl,est⟩)
       have hy1:y∈X1.xs:=by rw[exs];exact HY.out.1
       have hx1:x∈X1.xs:=by rw[exs];exact HX.out.1
       have gj7:w7.cell? ⟨y.ib,1,none⟩=some (.int .i64 y.i.size):=by first|exact(hm1.a.i y hy1).cells.2.1|(rw[HNY.out];exact(hm1.a.i y hy1).cells.2.1)
       have hst7:Stp w2 w7 (X.fp mb) (X1.fp mb):=(Stp.of_below H6.out.1 _).trans est;have hb7:base<=w7.heap.size:=Nat.le_trans (Nat.le_trans hbase HP.out.b.size) hst7.k.size;obtain⟨M1,hM1⟩:∃ M1,M1=flushM M c.name:=⟨_,rfl⟩
       rw[<-hM1] at hm1;have hall:M1.all=M.all:=by rw[hM1];exact flushM_all M _
       have hdne:((N:Int)==(y.i.size:Int))=false:=(by have h1:¬ (N:Int)=(y.i.size:Int):=(by have:=HLT.out;have:=HN.out.2.1;omega);simpa using h1)
       have HRZ:=hid (resize_any (hm1.a.i y hy1) (II.fp_nodup hm1 hy1) HY.out.2.2.2.2 hb7 N (by omega));have H7:=jd9 hm1 hst7 hb7 hall hM1 hy1 hx1 edm (And.intro ecl (And.intro efr eks));clear hm1 hst7 hb7 hall hM1 hy1 hx1 edm ecl efr eks ea exs est gf6 gi4;go_upto_region 19 with(go_at_call 83;refine HRZ.out.mono ?_;rintro e w8 ⟨rfl,x8,hII8,ho8,hs8,hv8,hk8⟩)
       obtain⟨hm1,hst7,hb7,hall,hM1,hy1,hx1,edm,ecl,efr,eks⟩:=H7.out;have h9:=hm1.same hy1 hk8 hII8 (resizeI_ok HY.out.2.2.2.2 (by omega) HN.out.2.2) ho8 hs8 hv8;obtain⟨S1,hS1⟩:∃ S,S=setI M1.all x.i.back (resizeI y.i N):=⟨_,rfl⟩
       have hS1e:S1=if comN x.i y.i=y.i.size then M1.all else setI M1.all x.i.back (resizeI y.i (comN x.i y.i)):=by
        rw[if_neg (by have:=HLT.out;have:=HN.out.2.1;rw[HN.out.1];omega),HN.out.1];exact hS1
       have h8:∃ X2 y2,CR w8 w8 base mb M1 X2 x x.i.back y.ib N S1 S1 X2 y2/\X2.dm=X1.dm/\X2.cl=X1.cl/\X2.fr=X1.fr/\X2.ks=X1.ks/\Stp w2 w8 (X.fp mb) (X2.fp mb):=by
        refine⟨{X1 with xs:=repl X1.xs ⟨y.n,resizeI y.i N,y.ib,x8⟩},⟨y.n,resizeI y.i N,y.ib,x8⟩,⟨?_,rfl,rfl,rfl,rfl,Stp.refl _ _,repl_mem hy1 (resizeI y.i N) x8,HY.out.2.1,rfl,rfl,repl_keep hx1 (by rw[HY.out.2.1];exact Ne.symm HYX.out),fun m=>?_⟩,rfl,rfl,rfl,rfl,hst7.trans h9.2⟩
        ·rw[hS1,<-HY.out.2.1];exact h9.1
        ·rw[hS1];exact dep_setI (S:=M1.all) (n:=x.i.back) (i:=y.i) (i':=resizeI y.i N) (show fnd M1.all x.i.back=some y.i by rw[hall];exact HY.out.2.2.1) rfl (show dep M1.all 8 m by rw[hall];exact HK.out.1.dp m)
       clear hII8 ho8 hs8 hv8 hk8 h9 hS1 hdne hy1 hx1;obtain⟨X2,y2,hCR,e2d,e2c,e2f,e2k,hst8⟩:=h8;have hb8:base<=w8.heap.size:=Nat.le_trans (Nat.le_trans hbase HP.out.b.size) hst8.k.size;have hII8:=hCR.mo.a.i x hCR.mx;have gk3:w8.cell? ⟨x.ib,3,none⟩=some (.map (some x.x.om)):=hII8.cells.2.2.2.1;have hncl:x.i.size/2^x.i.cl<=4096:=Nat.le_trans (Nat.div_le_self _ _) HX.out.2.2.2.size;have HKY:=hid (keys94 hII8.own HX.out.2.2.2.own hncl);obtain⟨L,hL⟩:∃ L,L=keysO (x.i.size/2^x.i.cl) x.i.own:=⟨_,rfl⟩
       rw[<-hL] at HKY;have hLl:L.length<=4096:=Nat.le_trans (by rw[hL];exact keysO_len _ _) hncl;have H8:=jd9 hCR e2d e2c e2f e2k hst8 hb8 hS1e (And.intro hL (And.intro hall (And.intro hM1 (And.intro edm (And.intro ecl (And.intro efr eks))))));clear hCR e2d e2c e2f e2k hst8 hb8 hS1e hL hall hM1 edm ecl efr eks hII8 hncl hm1 hst7 hb7
       go_wp2_with (first
        | (go_at_call 95;refine(keysI_c _ _).mono ?_;rintro e w9 ⟨rfl,rfl⟩)
        | (go_at_call 94;refine HKY.out.mono ?_;rintro e w10 ⟨v10,rfl,ho10,hb10⟩;obtain⟨ka,kn,kc,rfl⟩:=ownG_sh ho10;have hlen10:=SlG.len (P:=prog) (t:=146) (ty:=3) ho10.slG underlying146;rw[List.length_map] at hlen10;have H10:=jd2 ho10 hb10))
       clear ho10 hb10 gk3
       go_loopw [107] (fun s wr=>∃ (j:Nat) (S:IL) (X':MX) (y':XI),s = .int .i64 j/\j<=L.length/\Hid (CR w10 wr base mb M1 X2 x x.i.back y.ib N S1 S X' y'/\comS x.i.back x.i.cl x.i.own (L.drop j) S=comS x.i.back x.i.cl x.i.own L S1)) (fun s _=>L.length-(intOf s).toNat)
       case atStart =>
        have h:=H8.out.1.below H10.out.2;exact⟨0,S1,X2,y2,rfl,Nat.zero_le _,hid ⟨⟨h.mo,rfl,rfl,rfl,rfl,Stp.refl _ _,h.my,h.yn,h.yb,h.ys,h.mx,h.dp⟩,rfl⟩⟩
       case round =>
        obtain⟨j,S,X',y',rfl,hj,hR⟩:=hrel;obtain⟨wO,hwO⟩:∃ q,q=wr:=⟨_,rfl⟩
        subst hwO;have hbO:base<=wO.heap.size:=Nat.le_trans H8.out.2.2.2.2.2.2.1 (Nat.le_trans H10.out.2.size hR.out.1.st.k.size);by_cases hlt:j<L.length
        ·obtain⟨z,hz⟩:∃ z,L[j]? = some z:=⟨_,List.getElem?_eq_getElem hlt⟩
         obtain⟨kk,hzk,hkn,hks⟩:=keysO_mem (show z∈keysO (x.i.size/2^x.i.cl) x.i.own by rw[<-H8.out.2.2.2.2.2.2.2.2.1];exact List.mem_of_getElem? hz);obtain⟨bs,hbs⟩:=Option.isSome_iff_exists.1 hks;have hoO:=H10.out.1.kept hR.out.1.st.k fun q hq hm=>by
          have h1:=H10.out.1.ge q hq;have h2:=H8.out.1.mo.lt q hm;omega
         obtain⟨bb,bo,hbb,hia,hrow⟩:=hoO.slG.addr (P:=prog) underlying146 (fun w=>by kernel_rfl) j (by rw[List.length_map];exact hlt);rw[show(L.map fun z=>[encZ z]).getD j []=[encZ z] by rw[List.getD_eq_getElem?_getD,List.getElem?_map,hz];rfl] at hrow;have d0:wO.cell? ⟨bb,bo,none⟩=some (.int .i64 kk):=by have:=hrow 0 _ rfl;rw[hzk] at this;simpa using this
         have hIIx:=hR.out.1.mo.a.i x hR.out.1.mx;have hokx:=HX.out.2.2.2;obtain⟨v,hv,hlk⟩:=hIIx.own.at2 (by have:=hokx.size;have:=Nat.div_le_self x.i.size (2^x.i.cl);omega) hbs;obtain⟨va,vn,vc,rfl⟩:=ownB_sh hv;obtain⟨Pp,hPp⟩:∃ q,q=kk*2^x.i.cl:=⟨_,rfl⟩
         have hPN:Pp+2^x.i.cl<=N:=by
          have h1:(kk+1)*2^x.i.cl<=x.i.size/2^x.i.cl*2^x.i.cl:=Nat.mul_le_mul_right _ hkn;have h2:=Nat.div_mul_le_self x.i.size (2^x.i.cl);rw[Nat.add_mul,Nat.one_mul,<-hPp] at h1;have:=HN.out.2.1;omega
         have hPl:Pp<=4096:=Nat.le_trans (Nat.le_add_right _ _) (Nat.le_trans hPN (by omega));have hshl:IntKind.i64.wrap ((kk:Int)*2^min x.i.cl 64)=(Pp:Int):=by
          rw[show min x.i.cl 64=x.i.cl from Nat.min_eq_left (by have:=hokx.cl;omega),shl_nat,<-hPp,IntWalk.i64_in _ (by omega)]
         have k0:∀ w',Below wO.heap.size wO w'->w'.cell? ⟨x.ib,0,none⟩=some (.int .i64 x.i.cl):=fun w' hB=>(hIIx.below hB).cells.1;have k3:∀ w',Below wO.heap.size wO w'->w'.cell? ⟨x.ib,3,none⟩=some (.map (some x.x.om)):=fun w' hB=>(hIIx.below hB).cells.2.2.2.1;have klk:∀ w',Below wO.heap.size wO w'->(Instr.lookup 84 (.map (some x.x.om)) (.int .i64 kk) false).run prog w' = .ok (.slice va vn vc) w':=fun w' hB=>hlk w' (hB.block _ hIIx.own.g.lt);have HWR:=hid (fun w' (hB:Below wO.heap.size wO w')=>(hR.out.1.below hB).write (by exact Ne.symm HYX.out) (Nat.le_trans hbO hB.size) (P:=Pp) (W:=2^x.i.cl) (hv.below hB fun q hq=>hv.lt q hq) (by rw[(hokx.own kk bs hbs).2,Nat.mul_comm]) hPN);have HZ:=jd4 hz hzk hbs hPp;have hB0:Below wO.heap.size wO wO.drew:=brf.drew;clear hz hzk hkn hks hbs hoO hbb hrow hIIx hokx hv hlk hPp hbO;go_upto_region 22 with(fail)
         clear d0 hia;refine wp_region_K 14 (fun w'=>Below wO.heap.size wO w') (by kernel_rfl) ?_;refine qk 0 ?_;try simp only[nk]
         refine qk 1 ?_;try simp only[nk]
         refine qk 2 ?_;try simp only[nk]
         refine qk 3 ?_;try simp only[nk]
         refine qk 4 ?_;try simp only[nk]
         refine qk 5 ?_;try simp only[nk]
         refine rq 6 ?_;try simp only[nk]
         refine rq 7 ?_;try simp only[nk]
         refine qk 8 ?_;try simp only[nk]
         refine qk 9 ?_;try simp only[nk]
         refine qk 10 ?_;try simp only[nk]
         refine rq 11 ?_;try simp only[nk]
         refine qk 12 ?_;try simp only[nk]
         refine rq 13 ?_;try simp only[nk]
         refine wpAnyK_ready (rs:=[14]) (by kernel_rfl) (by simp) (AllReadyK.cons rfl (fun K hK=>?_) AllReadyK.nil);go_simp
         go_wp2_with (go_at_call 81;refine(HWR.out _ (by assumption)).mono ?_;rintro e w12 ⟨rfl,X12,y12,hR12⟩)
         refine hK.out _ _ (fun h=>by cases h) ?_;clear hK K
         try simp only[nk]
         refine wpAnyK_done (by kernel_rfl) ?_ _;have H12:=hid hR12;clear hR12
         go_wp2_with fail
         go_roundw
         case rel =>
          refine⟨j+1,_,X12,y12,by go_num,by omega,hid ⟨H12.out,?_⟩⟩;have h1:=hR.out.2;rw[List.drop_eq_getElem_cons hlt] at h1;have hgz:L[j]=z:=by have:=HZ.out.1;rw[List.getElem?_eq_getElem hlt] at this;exact Option.some.inj this
          rw[hgz,comS_step HZ.out.2.1 (by rw[<-hR.out.1.yn];exact hR.out.1.mo.a.find hR.out.1.my) HZ.out.2.2.1,<-HZ.out.2.2.2] at h1;exact h1
         case measure=>simp only[intOf];omega
        ·have e:j=L.length:=by omega
         subst e;have hSe:S=comS x.i.back x.i.cl x.i.own L S1:=by have h1:=hR.out.2;rw[List.drop_length] at h1;exact h1
         have gb2:wO.cell? ⟨x.ib,2,none⟩=some (str x.i.back):=(hR.out.1.mo.a.i x hR.out.1.mx).cells.2.2.1;obtain⟨hCR,e2d,e2c,e2f,e2k,hst8,hb8,hS1e,hL,hall,hM1,edm,ecl,efr,eks⟩:=H8.out;have hxk:=HM.out.k.len;have hkk:=HK.out.1.kl;have hfrr:=HK.out.2.2.1;have HF2:=hid (flush_any hR.out.1.mo hbO hR.out.1.my (by rw[hR.out.1.ks,e2k];omega) (by rw[hR.out.1.fr,e2f];omega));rw[hR.out.1.yn] at HF2;have hs10:Stp w8 w10 (X2.fp mb) (X2.fp mb):=Stp.of_below H10.out.2 _;have HT1:=jd9 hSe (hst8.trans (hs10.trans hR.out.1.st)) (show X'.dm=X.dm from hR.out.1.dm.trans (e2d.trans edm)) (show X'.cl.length<=X.cl.length by rw[hR.out.1.cl,e2c];exact ecl) (show X'.fr.length=X.fr.length+1 by rw[hR.out.1.fr,e2f];exact efr) (show X'.ks.length<=17 by rw[hR.out.1.ks,e2k];omega) hS1e hL hM1;clear hSe hCR e2d e2c e2f e2k hst8 hb8 hS1e hL hall hM1 edm ecl efr eks hxk hkk hfrr hs10;have hmm := @run_makeMap prog
         go_upto_region 25 with(go_at_call 77;refine HF2.out.mono ?_;rintro e w13 ⟨rfl,X13,hm13,ea13,exs13,eks13,efr13,edm13,ecl13,est13⟩)
         have hx13:x∈X13.xs:=by rw[exs13];exact hR.out.1.mx
         have hII13:=hm13.a.i x hx13;obtain⟨wA,hwA⟩:∃ z,z=w13.alloc (.map #[] 0):=⟨_,rfl⟩
         have hbA:Below w13.heap.size w13 wA:=by rw[hwA];exact brf.alloc nlr _
         have g3A:wA.cell? ⟨x.ib,3,none⟩=some (.map (some x.x.om)):=(hII13.below hbA).cells.2.2.2.1;have gzA:∀ j,wA.frozen? ⟨x.ib,j,none⟩=false:=(hII13.below hbA).cells.2.2.2.2.2.2;have HOE:OM wA base w13.heap.size (fun _=>none) []:=by rw[hwA];exact empty_own
         obtain⟨wB,hwB⟩:∃ z,z=wA.setCell ⟨x.ib,3,none⟩ (.map (some w13.heap.size)):=⟨_,rfl⟩
         have hnd13:=II.fp_nodup hm13 hx13;have hIIB:II wB base x.ib {x.i with own:=fun _=>none} {x.x with om:=w13.heap.size,ol:=[]}:=by rw[hwB];exact(hII13.below hbA).set3 hnd13 HOE
         have hkB:Kept w13 wB (·∉x.x.fp x.ib):=((Kept.of_below (N:=fun _=>True) hbA fun _ h _=>h).imp fun _ _=>trivial).trans (by rw[hwB];exact(Kept.set _ _ _ _ (N:=(·≠x.ib)) (by simp)).imp fun b hb e=>hb (by rw[e];simp[IX.fp]));have hokB:IOk {x.i with own:=fun _=>none}:=⟨HX.out.2.2.2.cl,HX.out.2.2.2.size,HX.out.2.2.2.whole,(fun k b h=>by cases h),HX.out.2.2.2.shots,HX.out.2.2.2.ns,HX.out.2.2.2.nb⟩
         have h9:=hm13.img hx13 hkB hIIB hokB (fun b hb=>by
          unfold IX.fp at hb ⊢;simp only[List.mem_cons] at hb ⊢;rcases hb with h|h|h
          ·exact .inl (.inl h)
          ·exact .inr (by rw[h];exact nlr)
          ·exact .inl (.inr (.inr h))) (by
          have hlt13:=II.lt hII13;unfold IX.fp at hnd13 hlt13 ⊢;simp only[List.nodup_cons,List.mem_cons,not_or] at hnd13 hlt13 ⊢;refine⟨⟨fun e=>?_,hnd13.1.2⟩,fun hm=>?_,hnd13.2.2⟩
          ·have:=hlt13 x.ib (.inl rfl);omega
          ·have:=hlt13 _ (.inr (.inr hm));omega)
         have hxB:=repl_mem hx13 {x.i with own:=fun _=>none} {x.x with om:=w13.heap.size,ol:=[]};obtain⟨hSe,hstO,edm,ecl,efr,eks,hS1e,hL,hM1⟩:=HT1.out;have hstB:=(hstO.trans est13).trans h9.2;have HF3:=hid (flush_any h9.1 (Nat.le_trans (Nat.le_trans hbase HP.out.b.size) hstB.k.size) hxB (by show X13.ks.length<=100;omega) (by show X13.fr.length<=1000000;have:=HK.out.2.2.1;omega));have hM4:comM M x.n x.i y.i=flushM {(flushM {M1 with all:=S} x.i.back) with all:=setI (flushM {M1 with all:=S} x.i.back).all x.n {x.i with own:=fun _=>none}} x.n:=by
          unfold comM;simp only;rw[<-hL,HX.out.2.1,<-hM1,<-hS1e,<-hSe]
         rw[<-hM4] at HF3;have gfB:wB.cell? ⟨w.heap.size,1,none⟩=some (str c.name):=by
          have h1:=(hstB.k.block w.heap.size (by have:=HP.out.s;omega) fun hm=>by have:=HM.out.lt _ hm;omega).trans HP.out.q1;simp only[World.cell?,h1];rfl
         have HT2:=jd4 hstB (show X13.dm=X.dm from edm13.trans edm) (show X13.cl.length<=X.cl.length from Nat.le_trans ecl13 ecl) (show X13.fr.length=X.fr.length+2 by omega);have HWA:=jd2 hwA hwB;rw[hwA] at g3A gzA;rw[HX.out.2.1] at HF3 HT2;clear hII13 hwA hbA HOE hwB hnd13 hIIB hkB hokB h9 hxB hSe hstO edm ecl efr eks hS1e hL hM1 hstB hM4 hx13 hm13 ea13 exs13 eks13 efr13 edm13 ecl13 est13 gb2;go_upto_region 26 with(fail)
         rw[<-HWA.out.1,<-HWA.out.2];clear g3A gzA;go_upto_region 27 with(go_at_call 77;refine HF3.out.mono ?_;rintro e w15 ⟨rfl,X15,hm15,ea15,exs15,eks15,efr15,edm15,ecl15,est15⟩)
         have HE:=jd2 hm15 (HT2.out.1.trans est15);have HXX:=jd3 (show X15.dm=X.dm from edm15.trans HT2.out.2.1) (show X15.cl.length<=X.cl.length from Nat.le_trans ecl15 HT2.out.2.2.1) (show X15.fr.length=X.fr.length+3 by have h1:=HT2.out.2.2.2;have h2:X15.fr.length=X13.fr.length+1:=efr15;omega);obtain⟨x0,x1,x2,x3,x4,x5,xz⟩:=zcells (HP.out.zs HM.out HE.out.2);clear hm15 ea15 exs15 eks15 efr15 edm15 ecl15 est15;obtain⟨W9,hW9,⟨y0,y1,y2,y3,y4,y5⟩,r1,r2,r3⟩:=end_ok HP.out HM.out HE.out.1 HE.out.2;have HWW:=hid hW9;have HR:=jd3 r1 r2 r3;clear hW9 r1 r2 r3
         go_wp2_with fail
         change bodyPost _ _ _ _ _ (st6 w15 (w.heap.size+1) (.int .i64 0) nilS nilS nilS (.int .i64 0) (.int .i64 0));rw[<-HWW.out,HF.out,HX.out.2.1];clear x0 x1 x2 x3 x4 x5 xz;exact bodyPost_ret (v:=failV 0) (by simp[results,results49,go_sem,y0,y1,y2,y3,y4,y5]) rfl ⟨_,X15,rfl,HR.out.1,by rw[HX.out.2.1] at *;exact HR.out.2.1,HXX.out.1,HXX.out.2.1,HXX.out.2.2,HR.out.2.2⟩
  ·obtain⟨N,hN⟩:∃ q,q=y.i.size:=⟨_,rfl⟩
   have hNe:comN x.i y.i=N:=by unfold comN;rw[if_neg hlt,hN]
   have hNx:x.i.size<=N:=by omega
   have hNm:N%2^y.i.cl=0:=by rw[hN];exact HY.out.2.2.2.2.whole
   have hltN:¬ N<x.i.size:=by omega
   have hxs:=HX.out.2.2.2.size;rw[<-hN] at gj1;have HN:=jd3 hNe hNx hNm;have HNY:=hid hN;clear hNe hNm hNx hN hlt;go_upto_region 9 with(fail)
   have HA1:=hid (above_any (HP.out.mo HM.out w4 (HP.out.wd _ hb4)).mod0 (HP.out.mo HM.out w4 (HP.out.wd _ hb4)).a (by rw[HM.out.a.len];have:=HK.out.1.le;omega) c.name);obtain⟨a1,ha1⟩:∃ q,q=aboveN M.all c.name:=⟨_,rfl⟩
   obtain⟨a2,ha2⟩:∃ q,q=aboveN M.all x.i.back:=⟨_,rfl⟩
   rw[<-ha1] at HA1;have HAE:=jd2 ha1 ha2;have HI4:=hid hb4;clear gj0 gj1 gi1;by_cases h1:0<a1
   ·have H1:=hid h1;go_upto_region 11 with(go_at_call 78;refine HA1.out.mono ?_;rintro e w5 ⟨oa,oc,rfl,hb5⟩)
    have hbZ:=(HI4.out.trans (hb5.mono HI4.out.size))
    go_wp2_with (go_at_call 21;refine(failed_any 14 _).mono ?_;rintro e w9 ⟨rfl,hb9⟩;obtain⟨x0,x1,x2,x3,x4,x5,xz⟩:=zcells (HP.out.z (hbZ.trans (hb9.mono hbZ.size))))
    obtain⟨W,hW,⟨y0,y1,y2,y3,y4,y5⟩,r1,r2,r3⟩:=end_fail HP.out HM.out (hbZ.trans (hb9.mono hbZ.size)) 14;have hF:commitF M c=(M,failR 14,0):=by
     unfold commitF;rw[HX.out.2.2.1];simp only;rw[if_neg HY.out.2.2.2.1,HY.out.2.2.1];simp only;rw[if_pos (Or.inl (HAE.out.1▸H1.out))]
    rw[hF];clear x0 x1 x2 x3 x4 x5 xz hF;change bodyPost _ _ _ _ _ (st6 w9 (w.heap.size+1) (.int .i64 14) nilS nilS nilS (.int .i64 0) (.int .i64 0));rw[<-hW];exact bodyPost_ret (v:=failV 14) (by simp[results,results49,go_sem,y0,y1,y2,y3,y4,y5]) rfl ⟨_,X,rfl,r1,r2,rfl,nlr,rfl,r3⟩
   ·have H1:=hid h1;have ha0:a1=0:=by omega
    go_upto_region 10 with(go_at_call 78;refine HA1.out.mono ?_;rintro e w5 ⟨oa,oc,rfl,hb5⟩)
    have hb25:Below w2.heap.size w2 w5:=HI4.out.trans (hb5.mono HI4.out.size);have gi5:=i2 w5 hb25;have HA2:=hid (above_any (HP.out.mo HM.out w5 (HP.out.wd _ hb25)).mod0 (HP.out.mo HM.out w5 (HP.out.wd _ hb25)).a (by rw[HM.out.a.len];have:=HK.out.1.le;omega) x.i.back);rw[<-HAE.out.2] at HA2;have H5:=hid hb25;clear hb25 gi2;by_cases h2:1<a2
    ·have H2:=hid h2;go_upto_region 11 with(go_at_call 78;refine HA2.out.mono ?_;rintro e w6 ⟨oa2,oc2,rfl,hb6⟩)
     have hbZ:=(H5.out.trans (hb6.mono H5.out.size))
     go_wp2_with (go_at_call 21;refine(failed_any 14 _).mono ?_;rintro e w9 ⟨rfl,hb9⟩;obtain⟨x0,x1,x2,x3,x4,x5,xz⟩:=zcells (HP.out.z (hbZ.trans (hb9.mono hbZ.size))))
     obtain⟨W,hW,⟨y0,y1,y2,y3,y4,y5⟩,r1,r2,r3⟩:=end_fail HP.out HM.out (hbZ.trans (hb9.mono hbZ.size)) 14;have hF:commitF M c=(M,failR 14,0):=by
      unfold commitF;rw[HX.out.2.2.1];simp only;rw[if_neg HY.out.2.2.2.1,HY.out.2.2.1];simp only;rw[if_pos (Or.inr (HAE.out.2▸H2.out))]
     rw[hF];clear x0 x1 x2 x3 x4 x5 xz hF;change bodyPost _ _ _ _ _ (st6 w9 (w.heap.size+1) (.int .i64 14) nilS nilS nilS (.int .i64 0) (.int .i64 0));rw[<-hW];exact bodyPost_ret (v:=failV 14) (by simp[results,results49,go_sem,y0,y1,y2,y3,y4,y5]) rfl ⟨_,X,rfl,r1,r2,rfl,nlr,rfl,r3⟩
    ·have H2:=hid h2;go_upto_region 12 with(go_at_call 78;refine HA2.out.mono ?_;rintro e w6 ⟨oa2,oc2,rfl,hb6⟩)
     have hb26:Below w2.heap.size w2 w6:=H5.out.trans (hb6.mono H5.out.size);have hM6:=HP.out.mo HM.out w6 (HP.out.wd _ hb26);obtain⟨sa,sn,sc,hsv⟩:=ownG_sh (hM6.a.i x HX.out.1).so;have gi4:w6.cell? ⟨x.ib,4,none⟩=some (.slice sa sn sc):=by rw[(hM6.a.i x HX.out.1).cells.2.2.2.2.1,hsv]
     have hsn:sn=x.i.shots.length:=by
      have ho:=(hM6.a.i x HX.out.1).so;rw[hsv] at ho;rw[(hM6.a.i x HX.out.1).se,List.length_map];rcases ho.shape with⟨he,e2⟩|⟨g,cc,he,_⟩<;>(cases he;first|(have:=congrArg List.length e2;simp at this;simp[this])|simp)
     have hno:¬ (0<Go.Proofs.YtgkabcaodnofnaaGreat.aboveN M.all c.name\/1<Go.Proofs.YtgkabcaodnofnaaGreat.aboveN M.all x.i.back):=by rw[<-HAE.out.1,<-HAE.out.2];rintro(h|h);exact H1.out h;exact H2.out h
     have HNO:=hid hno;have HSN:=hid hsn;have H6:=jd2 hb26 hM6;clear hb26 hM6 hsv hsn hno gi5 hb6 hb5;by_cases h3:0<sn
     ·have H3:=hid h3;go_upto_region 13 with(fail)
      have hbZ:=H6.out.1
      go_wp2_with (go_at_call 21;refine(failed_any 12 _).mono ?_;rintro e w9 ⟨rfl,hb9⟩;obtain⟨x0,x1,x2,x3,x4,x5,xz⟩:=zcells (HP.out.z (hbZ.trans (hb9.mono hbZ.size))))
      obtain⟨W,hW,⟨y0,y1,y2,y3,y4,y5⟩,r1,r2,r3⟩:=end_fail HP.out HM.out (hbZ.trans (hb9.mono hbZ.size)) 12;have hF:commitF M c=(M,failR 12,0):=by
       unfold commitF;rw[HX.out.2.2.1];simp only;rw[if_neg HY.out.2.2.2.1,HY.out.2.2.1];simp only;rw[if_neg HNO.out,if_pos (HSN.out▸H3.out)]
      rw[hF];clear x0 x1 x2 x3 x4 x5 xz hF;change bodyPost _ _ _ _ _ (st6 w9 (w.heap.size+1) (.int .i64 12) nilS nilS nilS (.int .i64 0) (.int .i64 0));rw[<-hW];exact bodyPost_ret (v:=failV 12) (by simp[results,results49,go_sem,y0,y1,y2,y3,y4,y5]) rfl ⟨_,X,rfl,r1,r2,rfl,nlr,rfl,r3⟩
     ·have H3:=hid h3;have hs0:sn=0:=by omega
      by_cases h4:4096<N
      ·have H4:=hid h4;go_upto_region 15 with(fail)
       have hbZ:=H6.out.1
       go_wp2_with (go_at_call 21;refine(failed_any 6 _).mono ?_;rintro e w9 ⟨rfl,hb9⟩;obtain⟨x0,x1,x2,x3,x4,x5,xz⟩:=zcells (HP.out.z (hbZ.trans (hb9.mono hbZ.size))))
       obtain⟨W,hW,⟨y0,y1,y2,y3,y4,y5⟩,r1,r2,r3⟩:=end_fail HP.out HM.out (hbZ.trans (hb9.mono hbZ.size)) 6;have hF:commitF M c=(M,failR 6,0):=by
        unfold commitF;rw[HX.out.2.2.1];simp only;rw[if_neg HY.out.2.2.2.1,HY.out.2.2.1];simp only;rw[if_neg HNO.out,if_neg (HSN.out▸H3.out),if_pos (HN.out.1.symm▸H4.out)]
       rw[hF];clear x0 x1 x2 x3 x4 x5 xz hF;change bodyPost _ _ _ _ _ (st6 w9 (w.heap.size+1) (.int .i64 6) nilS nilS nilS (.int .i64 0) (.int .i64 0));rw[<-hW];exact bodyPost_ret (v:=failV 6) (by simp[results,results49,go_sem,y0,y1,y2,y3,y4,y5]) rfl ⟨_,X,rfl,r1,r2,rfl,nlr,rfl,r3⟩
      ·have H4:=hid h4;have hF:commitF M c=(comM M x.n x.i y.i,{},3):=by
        unfold commitF;rw[HX.out.2.2.1];simp only;rw[if_neg HY.out.2.2.2.1,HY.out.2.2.1];simp only;rw[if_neg HNO.out,if_neg (HSN.out▸H3.out),if_neg (HN.out.1.symm▸H4.out),HX.out.2.1]
       have HF:=hid hF;have gf6:=f1 w6 H6.out.1;have HFL:=hid (flush_any H6.out.2 (Nat.le_trans hbase (HP.out.bel (HP.out.wd _ H6.out.1)).size) HX.out.1 (by rw[HM.out.k.len];have:=HK.out.1.kl;omega) (by have:=HK.out.2.2.1;omega));rw[HX.out.2.1] at HFL;clear hF ef1;go_upto_region 17 with(go_at_call 77;refine HFL.out.mono ?_;rintro e w7 ⟨rfl,X1,hm1,ea,exs,eks,efr,edm,ecl,est⟩)
       have hy1:y∈X1.xs:=by rw[exs];exact HY.out.1
       have hx1:x∈X1.xs:=by rw[exs];exact HX.out.1
       have gj7:w7.cell? ⟨y.ib,1,none⟩=some (.int .i64 N):=by first|exact(hm1.a.i y hy1).cells.2.1|(rw[HNY.out];exact(hm1.a.i y hy1).cells.2.1)
       have hst7:Stp w2 w7 (X.fp mb) (X1.fp mb):=(Stp.of_below H6.out.1 _).trans est;have hb7:base<=w7.heap.size:=Nat.le_trans (Nat.le_trans hbase HP.out.b.size) hst7.k.size;obtain⟨M1,hM1⟩:∃ M1,M1=flushM M c.name:=⟨_,rfl⟩
       rw[<-hM1] at hm1;have hall:M1.all=M.all:=by rw[hM1];exact flushM_all M _
       go_upto_region 19 with(fail)
       obtain⟨w8,hw8⟩:∃ z,z=w7:=⟨_,rfl⟩
       rw[<-hw8];rw[<-hw8] at hm1 hst7 hb7;obtain⟨S1,hS1⟩:∃ S,S=M1.all:=⟨_,rfl⟩
       have hS1e:S1=if comN x.i y.i=y.i.size then M1.all else setI M1.all x.i.back (resizeI y.i (comN x.i y.i)):=by
        rw[if_pos (by rw[HN.out.1];exact HNY.out)];exact hS1
       have h8:∃ X2 y2,CR w8 w8 base mb M1 X2 x x.i.back y.ib N S1 S1 X2 y2/\X2.dm=X1.dm/\X2.cl=X1.cl/\X2.fr=X1.fr/\X2.ks=X1.ks/\Stp w2 w8 (X.fp mb) (X2.fp mb):=by
        refine⟨X1,y,⟨?_,rfl,rfl,rfl,rfl,Stp.refl _ _,hy1,HY.out.2.1,rfl,HNY.out.symm,hx1,fun m=>?_⟩,rfl,rfl,rfl,rfl,hst7⟩
        ·rw[hS1];exact hm1
        ·rw[hS1,hall];exact HK.out.1.dp m
       clear hS1 hy1 hx1 gf6 gi4 ea exs est hw8 gj7;obtain⟨X2,y2,hCR,e2d,e2c,e2f,e2k,hst8⟩:=h8;have hb8:base<=w8.heap.size:=Nat.le_trans (Nat.le_trans hbase HP.out.b.size) hst8.k.size;have hII8:=hCR.mo.a.i x hCR.mx;have gk3:w8.cell? ⟨x.ib,3,none⟩=some (.map (some x.x.om)):=hII8.cells.2.2.2.1;have hncl:x.i.size/2^x.i.cl<=4096:=Nat.le_trans (Nat.div_le_self _ _) HX.out.2.2.2.size;have HKY:=hid (keys94 hII8.own HX.out.2.2.2.own hncl);obtain⟨L,hL⟩:∃ L,L=keysO (x.i.size/2^x.i.cl) x.i.own:=⟨_,rfl⟩
       rw[<-hL] at HKY;have hLl:L.length<=4096:=Nat.le_trans (by rw[hL];exact keysO_len _ _) hncl;have H8:=jd9 hCR e2d e2c e2f e2k hst8 hb8 hS1e (And.intro hL (And.intro hall (And.intro hM1 (And.intro edm (And.intro ecl (And.intro efr eks))))));clear hCR e2d e2c e2f e2k hst8 hb8 hS1e hL hall hM1 edm ecl efr eks hII8 hncl hm1 hst7 hb7
       go_wp2_with (first
        | (go_at_call 95;refine(keysI_c _ _).mono ?_;rintro e w9 ⟨rfl,rfl⟩)
        | (go_at_call 94;refine HKY.out.mono ?_;rintro e w10 ⟨v10,rfl,ho10,hb10⟩;obtain⟨ka,kn,kc,rfl⟩:=ownG_sh ho10;have hlen10:=SlG.len (P:=prog) (t:=146) (ty:=3) ho10.slG underlying146;rw[List.length_map] at hlen10;have H10:=jd2 ho10 hb10))
       clear ho10 hb10 gk3
       go_loopw [107] (fun s wr=>∃ (j:Nat) (S:IL) (X':MX) (y':XI),s = .int .i64 j/\j<=L.length/\Hid (CR w10 wr base mb M1 X2 x x.i.back y.ib N S1 S X' y'/\comS x.i.back x.i.cl x.i.own (L.drop j) S=comS x.i.back x.i.cl x.i.own L S1)) (fun s _=>L.length-(intOf s).toNat)
       case atStart =>
        have h:=H8.out.1.below H10.out.2;exact⟨0,S1,X2,y2,rfl,Nat.zero_le _,hid ⟨⟨h.mo,rfl,rfl,rfl,rfl,Stp.refl _ _,h.my,h.yn,h.yb,h.ys,h.mx,h.dp⟩,rfl⟩⟩
       case round =>
        obtain⟨j,S,X',y',rfl,hj,hR⟩:=hrel;obtain⟨wO,hwO⟩:∃ q,q=wr:=⟨_,rfl⟩
        subst hwO;have hbO:base<=wO.heap.size:=Nat.le_trans H8.out.2.2.2.2.2.2.1 (Nat.le_trans H10.out.2.size hR.out.1.st.k.size);by_cases hlt:j<L.length
        ·obtain⟨z,hz⟩:∃ z,L[j]? = some z:=⟨_,List.getElem?_eq_getElem hlt⟩
         obtain⟨kk,hzk,hkn,hks⟩:=keysO_mem (show z∈keysO (x.i.size/2^x.i.cl) x.i.own by rw[<-H8.out.2.2.2.2.2.2.2.2.1];exact List.mem_of_getElem? hz);obtain⟨bs,hbs⟩:=Option.isSome_iff_exists.1 hks;have hoO:=H10.out.1.kept hR.out.1.st.k fun q hq hm=>by
          have h1:=H10.out.1.ge q hq;have h2:=H8.out.1.mo.lt q hm;omega
         obtain⟨bb,bo,hbb,hia,hrow⟩:=hoO.slG.addr (P:=prog) underlying146 (fun w=>by kernel_rfl) j (by rw[List.length_map];exact hlt);rw[show(L.map fun z=>[encZ z]).getD j []=[encZ z] by rw[List.getD_eq_getElem?_getD,List.getElem?_map,hz];rfl] at hrow;have d0:wO.cell? ⟨bb,bo,none⟩=some (.int .i64 kk):=by have:=hrow 0 _ rfl;rw[hzk] at this;simpa using this
         have hIIx:=hR.out.1.mo.a.i x hR.out.1.mx;have hokx:=HX.out.2.2.2;obtain⟨v,hv,hlk⟩:=hIIx.own.at2 (by have:=hokx.size;have:=Nat.div_le_self x.i.size (2^x.i.cl);omega) hbs;obtain⟨va,vn,vc,rfl⟩:=ownB_sh hv;obtain⟨Pp,hPp⟩:∃ q,q=kk*2^x.i.cl:=⟨_,rfl⟩
         have hPN:Pp+2^x.i.cl<=N:=by
          have h1:(kk+1)*2^x.i.cl<=x.i.size/2^x.i.cl*2^x.i.cl:=Nat.mul_le_mul_right _ hkn;have h2:=Nat.div_mul_le_self x.i.size (2^x.i.cl);rw[Nat.add_mul,Nat.one_mul,<-hPp] at h1;have:=HN.out.2.1;omega
         have hPl:Pp<=4096:=Nat.le_trans (Nat.le_add_right _ _) (Nat.le_trans hPN (by omega));have hshl:IntKind.i64.wrap ((kk:Int)*2^min x.i.cl 64)=(Pp:Int):=by
          rw[show min x.i.cl 64=x.i.cl from Nat.min_eq_left (by have:=hokx.cl;omega),shl_nat,<-hPp,IntWalk.i64_in _ (by omega)]
         have k0:∀ w',Below wO.heap.size wO w'->w'.cell? ⟨x.ib,0,none⟩=some (.int .i64 x.i.cl):=fun w' hB=>(hIIx.below hB).cells.1;have k3:∀ w',Below wO.heap.size wO w'->w'.cell? ⟨x.ib,3,none⟩=some (.map (some x.x.om)):=fun w' hB=>(hIIx.below hB).cells.2.2.2.1;have klk:∀ w',Below wO.heap.size wO w'->(Instr.lookup 84 (.map (some x.x.om)) (.int .i64 kk) false).run prog w' = .ok (.slice va vn vc) w':=fun w' hB=>hlk w' (hB.block _ hIIx.own.g.lt);have HWR:=hid (fun w' (hB:Below wO.heap.size wO w')=>(hR.out.1.below hB).write (by exact Ne.symm HYX.out) (Nat.le_trans hbO hB.size) (P:=Pp) (W:=2^x.i.cl) (hv.below hB fun q hq=>hv.lt q hq) (by rw[(hokx.own kk bs hbs).2,Nat.mul_comm]) hPN);have HZ:=jd4 hz hzk hbs hPp;have hB0:Below wO.heap.size wO wO.drew:=brf.drew;clear hz hzk hkn hks hbs hoO hbb hrow hIIx hokx hv hlk hPp hbO;go_upto_region 22 with(fail)
         clear d0 hia;refine wp_region_K 14 (fun w'=>Below wO.heap.size wO w') (by kernel_rfl) ?_;refine qk 0 ?_;try simp only[nk]
         refine qk 1 ?_;try simp only[nk]
         refine qk 2 ?_;try simp only[nk]
         refine qk 3 ?_;try simp only[nk]
         refine qk 4 ?_;try simp only[nk]
         refine qk 5 ?_;try simp only[nk]
         refine rq 6 ?_;try simp only[nk]
         refine rq 7 ?_;try simp only[nk]
         refine qk 8 ?_;try simp only[nk]
         refine qk 9 ?_;try simp only[nk]
         refine qk 10 ?_;try simp only[nk]
         refine rq 11 ?_;try simp only[nk]
         refine qk 12 ?_;try simp only[nk]
         refine rq 13 ?_;try simp only[nk]
         refine wpAnyK_ready (rs:=[14]) (by kernel_rfl) (by simp) (AllReadyK.cons rfl (fun K hK=>?_) AllReadyK.nil);go_simp
         go_wp2_with (go_at_call 81;refine(HWR.out _ (by assumption)).mono ?_;rintro e w12 ⟨rfl,X12,y12,hR12⟩)
         refine hK.out _ _ (fun h=>by cases h) ?_;clear hK K
         try simp only[nk]
         refine wpAnyK_done (by kernel_rfl) ?_ _;have H12:=hid hR12;clear hR12
         go_wp2_with fail
         go_roundw
         case rel =>
          refine⟨j+1,_,X12,y12,by go_num,by omega,hid ⟨H12.out,?_⟩⟩;have h1:=hR.out.2;rw[List.drop_eq_getElem_cons hlt] at h1;have hgz:L[j]=z:=by have:=HZ.out.1;rw[List.getElem?_eq_getElem hlt] at this;exact Option.some.inj this
          rw[hgz,comS_step HZ.out.2.1 (by rw[<-hR.out.1.yn];exact hR.out.1.mo.a.find hR.out.1.my) HZ.out.2.2.1,<-HZ.out.2.2.2] at h1;exact h1
         case measure=>simp only[intOf];omega
        ·have e:j=L.length:=by omega
         subst e;have hSe:S=comS x.i.back x.i.cl x.i.own L S1:=by have h1:=hR.out.2;rw[List.drop_length] at h1;exact h1
         have gb2:wO.cell? ⟨x.ib,2,none⟩=some (str x.i.back):=(hR.out.1.mo.a.i x hR.out.1.mx).cells.2.2.1;obtain⟨hCR,e2d,e2c,e2f,e2k,hst8,hb8,hS1e,hL,hall,hM1,edm,ecl,efr,eks⟩:=H8.out;have hxk:=HM.out.k.len;have hkk:=HK.out.1.kl;have hfrr:=HK.out.2.2.1;have HF2:=hid (flush_any hR.out.1.mo hbO hR.out.1.my (by rw[hR.out.1.ks,e2k];omega) (by rw[hR.out.1.fr,e2f];omega));rw[hR.out.1.yn] at HF2;have hs10:Stp w8 w10 (X2.fp mb) (X2.fp mb):=Stp.of_below H10.out.2 _;have HT1:=jd9 hSe (hst8.trans (hs10.trans hR.out.1.st)) (show X'.dm=X.dm from hR.out.1.dm.trans (e2d.trans edm)) (show X'.cl.length<=X.cl.length by rw[hR.out.1.cl,e2c];exact ecl) (show X'.fr.length=X.fr.length+1 by rw[hR.out.1.fr,e2f];exact efr) (show X'.ks.length<=17 by rw[hR.out.1.ks,e2k];omega) hS1e hL hM1;clear hSe hCR e2d e2c e2f e2k hst8 hb8 hS1e hL hall hM1 edm ecl efr eks hxk hkk hfrr hs10;have hmm := @run_makeMap prog
         go_upto_region 25 with(go_at_call 77;refine HF2.out.mono ?_;rintro e w13 ⟨rfl,X13,hm13,ea13,exs13,eks13,efr13,edm13,ecl13,est13⟩)
         have hx13:x∈X13.xs:=by rw[exs13];exact hR.out.1.mx
         have hII13:=hm13.a.i x hx13;obtain⟨wA,hwA⟩:∃ z,z=w13.alloc (.map #[] 0):=⟨_,rfl⟩
         have hbA:Below w13.heap.size w13 wA:=by rw[hwA];exact brf.alloc nlr _
         have g3A:wA.cell? ⟨x.ib,3,none⟩=some (.map (some x.x.om)):=(hII13.below hbA).cells.2.2.2.1;have gzA:∀ j,wA.frozen? ⟨x.ib,j,none⟩=false:=(hII13.below hbA).cells.2.2.2.2.2.2;have HOE:OM wA base w13.heap.size (fun _=>none) []:=by rw[hwA];exact empty_own
         obtain⟨wB,hwB⟩:∃ z,z=wA.setCell ⟨x.ib,3,none⟩ (.map (some w13.heap.size)):=⟨_,rfl⟩
         have hnd13:=II.fp_nodup hm13 hx13;have hIIB:II wB base x.ib {x.i with own:=fun _=>none} {x.x with om:=w13.heap.size,ol:=[]}:=by rw[hwB];exact(hII13.below hbA).set3 hnd13 HOE
         have hkB:Kept w13 wB (·∉x.x.fp x.ib):=((Kept.of_below (N:=fun _=>True) hbA fun _ h _=>h).imp fun _ _=>trivial).trans (by rw[hwB];exact(Kept.set _ _ _ _ (N:=(·≠x.ib)) (by simp)).imp fun b hb e=>hb (by rw[e];simp[IX.fp]));have hokB:IOk {x.i with own:=fun _=>none}:=⟨HX.out.2.2.2.cl,HX.out.2.2.2.size,HX.out.2.2.2.whole,(fun k b h=>by cases h),HX.out.2.2.2.shots,HX.out.2.2.2.ns,HX.out.2.2.2.nb⟩
         have h9:=hm13.img hx13 hkB hIIB hokB (fun b hb=>by
          unfold IX.fp at hb ⊢;simp only[List.mem_cons] at hb ⊢;rcases hb with h|h|h
          ·exact .inl (.inl h)
          ·exact .inr (by rw[h];exact nlr)
          ·exact .inl (.inr (.inr h))) (by
          have hlt13:=II.lt hII13;unfold IX.fp at hnd13 hlt13 ⊢;simp only[List.nodup_cons,List.mem_cons,not_or] at hnd13 hlt13 ⊢;refine⟨⟨fun e=>?_,hnd13.1.2⟩,fun hm=>?_,hnd13.2.2⟩
          ·have:=hlt13 x.ib (.inl rfl);omega
          ·have:=hlt13 _ (.inr (.inr hm));omega)
         have hxB:=repl_mem hx13 {x.i with own:=fun _=>none} {x.x with om:=w13.heap.size,ol:=[]};obtain⟨hSe,hstO,edm,ecl,efr,eks,hS1e,hL,hM1⟩:=HT1.out;have hstB:=(hstO.trans est13).trans h9.2;have HF3:=hid (flush_any h9.1 (Nat.le_trans (Nat.le_trans hbase HP.out.b.size) hstB.k.size) hxB (by show X13.ks.length<=100;omega) (by show X13.fr.length<=1000000;have:=HK.out.2.2.1;omega));have hM4:comM M x.n x.i y.i=flushM {(flushM {M1 with all:=S} x.i.back) with all:=setI (flushM {M1 with all:=S} x.i.back).all x.n {x.i with own:=fun _=>none}} x.n:=by
          unfold comM;simp only;rw[<-hL,HX.out.2.1,<-hM1,<-hS1e,<-hSe]
         rw[<-hM4] at HF3;have gfB:wB.cell? ⟨w.heap.size,1,none⟩=some (str c.name):=by
          have h1:=(hstB.k.block w.heap.size (by have:=HP.out.s;omega) fun hm=>by have:=HM.out.lt _ hm;omega).trans HP.out.q1;simp only[World.cell?,h1];rfl
         have HT2:=jd4 hstB (show X13.dm=X.dm from edm13.trans edm) (show X13.cl.length<=X.cl.length from Nat.le_trans ecl13 ecl) (show X13.fr.length=X.fr.length+2 by omega);have HWA:=jd2 hwA hwB;rw[hwA] at g3A gzA;rw[HX.out.2.1] at HF3 HT2;clear hII13 hwA hbA HOE hwB hnd13 hIIB hkB hokB h9 hxB hSe hstO edm ecl efr eks hS1e hL hM1 hstB hM4 hx13 hm13 ea13 exs13 eks13 efr13 edm13 ecl13 est13 gb2;go_upto_region 26 with(fail)
         rw[<-HWA.out.1,<-HWA.out.2];clear g3A gzA;go_upto_region 27 with(go_at_call 77;refine HF3.out.mono ?_;rintro e w15 ⟨rfl,X15,hm15,ea15,exs15,eks15,efr15,edm15,ecl15,est15⟩)
         have HE:=jd2 hm15 (HT2.out.1.trans est15);have HXX:=jd3 (show X15.dm=X.dm from edm15.trans HT2.out.2.1) (show X15.cl.length<=X.cl.length from Nat.le_trans ecl15 HT2.out.2.2.1) (show X15.fr.length=X.fr.length+3 by have h1:=HT2.out.2.2.2;have h2:X15.fr.length=X13.fr.length+1:=efr15;omega);obtain⟨x0,x1,x2,x3,x4,x5,xz⟩:=zcells (HP.out.zs HM.out HE.out.2);clear hm15 ea15 exs15 eks15 efr15 edm15 ecl15 est15;obtain⟨W9,hW9,⟨y0,y1,y2,y3,y4,y5⟩,r1,r2,r3⟩:=end_ok HP.out HM.out HE.out.1 HE.out.2;have HWW:=hid hW9;have HR:=jd3 r1 r2 r3;clear hW9 r1 r2 r3
         go_wp2_with fail
         change bodyPost _ _ _ _ _ (st6 w15 (w.heap.size+1) (.int .i64 0) nilS nilS nilS (.int .i64 0) (.int .i64 0));rw[<-HWW.out,HF.out,HX.out.2.1];clear x0 x1 x2 x3 x4 x5 xz;exact bodyPost_ret (v:=failV 0) (by simp[results,results49,go_sem,y0,y1,y2,y3,y4,y5]) rfl ⟨_,X15,rfl,HR.out.1,by rw[HX.out.2.1] at *;exact HR.out.2.1,HXX.out.1,HXX.out.2.1,HXX.out.2.2,HR.out.2.2⟩
end Go.Proofs.YtgkabcaodnofnaaGreat
