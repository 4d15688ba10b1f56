import Derived.Test.YtgkabcaodnofnaaGreatB02
import Derived.Test.YtgkabcaodnofnaaGreatB18
import Derived.Test.YtgkabcaodnofnaaGreatB19
import Derived.Shelf.RegionOpenPlain
import Derived.Deep.LoopGhost
set_option linter.unusedSimpArgs false
set_option linter.unusedVariables false
set_option maxRecDepth 100000
set_option maxHeartbeats 2000000
open Go.Proofs.Tryz
namespace Go.Md
def revI (i:IM)(s:SH):IM:={i with size:=s.size,own:=s.own,maps:=touch (sizes i.maps (s.size/2^i.cl:Nat) (s.size/2^i.cl:Nat)) (0,(s.size/2^i.cl:Nat))}
def revertF (M:MM)(c:Cm):MM×Rp×Nat:=match fnd M.all c.name with
 | none=>(M,failR 4,0)
 | some i=>if Go.Proofs.YtgkabcaodnofnaaGreat.aboveN M.all c.name≠0 then(M,failR 14,0) else match posN (i.shots.map (·.name)) c.tt with
  | none=>(M,failR 4,0)
  | some k=>match i.shots[k]? with
   | none=>(M,failR 4,0)
   | some s=>({M with all:=setI M.all c.name (revI i s)},{},0)
end Go.Md
namespace Go.Proofs.YtgkabcaodnofnaaGreat
open Go.RowKit Go.Mx Go.Md
theorem revI_ok {i:IM}(h:IOk i){s:SH}(hs:s∈i.shots):IOk (revI i s) :=
 ⟨h.cl,(h.shots s hs).1,(h.shots s hs).2.1,(h.shots s hs).2.2,h.shots,h.ns,h.nb⟩
section
variable {w:World}{base ib:Nat}{i:IM}{x:IX}
theorem II.notib (h:II w base ib i x):∀ (b:Nat) (c:Array Value) (t:TypeId) (f:Nat×Nat),w.heap[b]? = some (.cells c t f)->t≠87->b≠ib:=fun b c t f hb ht e=>by rw[e,h.ck] at hb;cases hb;exact ht rfl
theorem II.set5 (h:II w base ib i x)(hnd:(x.fp ib).Nodup){v:Value}{l:List BM}{ps:List PB}(hB:BMS w base v l ps):II (w.setCell ⟨ib,5,none⟩ v) base ib {i with maps:=l} {x with mv:=v,ps:=ps}:=by
 have hfn:=IX.fp_ib hnd;have hk:Kept w (w.setCell ⟨ib,5,none⟩ v) (·≠ib):=Kept.set _ _ _ _ (by simp);refine⟨?_,h.own.kept hk (Ne.symm hfn.1) fun b c f hb=>h.notib b c 5 f hb (by decide),h.se,h.so.kept hk fun q hq=>Ne.symm (hfn.2.2 q hq).1,fun s hs=>(h.sm s hs).kept hk (Ne.symm (hfn.2.1 s hs).1) fun b c f hb=>h.notib b c 5 f hb (by decide),hB.kept hk fun b c t f hb ht=>h.notib b c t f hb (by rcases ht with h|h<;>simp[h])⟩
 rw[heap_setCell_at' w ib 5 _ _ 87 _ h.ck];rfl
theorem II.set13 (h:II w base ib i x)(hnd:(x.fp ib).Nodup){nb sz:Nat}{own:Nat->Option Bs}{ol:ML Int}(hO:OM w base nb own ol) :
  II ((w.setCell ⟨ib,1,none⟩ (.int .i64 sz)).setCell ⟨ib,3,none⟩ (.map (some nb))) base ib {i with size:=sz,own:=own} {x with om:=nb,ol:=ol}:=by
 have hfn:=IX.fp_ib hnd;have hk:Kept w ((w.setCell ⟨ib,1,none⟩ (.int .i64 sz)).setCell ⟨ib,3,none⟩ (.map (some nb))) (·≠ib):=(Kept.set _ _ _ _ (by simp)).trans (Kept.set _ _ _ _ (by simp));have hnb:nb≠ib:=fun e=>by obtain⟨es,c,h1⟩:=hO.g.isMap;rw[e,h.ck] at h1;cases h1
 refine⟨?_,hO.kept hk hnb fun b c f hb=>h.notib b c 5 f hb (by decide),h.se,h.so.kept hk fun q hq=>Ne.symm (hfn.2.2 q hq).1,fun s hs=>(h.sm s hs).kept hk (Ne.symm (hfn.2.1 s hs).1) fun b c f hb=>h.notib b c 5 f hb (by decide),h.maps.kept hk fun b c t f hb ht=>h.notib b c t f hb (by rcases ht with h|h<;>simp[h])⟩
 have h1:=heap_setCell_at' w ib 1 (.int .i64 sz) _ 87 _ h.ck;rw[heap_setCell_at' _ ib 3 _ _ 87 _ h1];rfl
end
theorem cmd45_any:CmdOk 45 HasN revertF:=by
 intro w base mb M X c dv h hM hbase hfr hC hp;obtain⟨da,dn,dc,rfl⟩:=slB_shape hC.d.slB;obtain⟨x,hx,hxn,hfx⟩:=has_x h hC hp;have hok:=h.a.ok x hx;obtain⟨w2,hw2,P⟩:=pro_of w c (.slice da dn dc);have f2:=P.c2;obtain⟨fr,hfe⟩:∃ fr,fr=decide (aboveN M.all c.name=0):=⟨_,rfl⟩
 have HT:=hid (turned_any (P.mo h w2 brf).mod0 (P.mo h w2 brf).a (by have:=hM.le;omega) hx);rw[hxn,<-hfe] at HT;have hab:aboveN M.all c.name=0↔fr=true:=by rw[hfe];simp
 have HAB:=hid hab;have HB:=hid (fun w' (hB:Below w2.heap.size w2 w')=>place84 ((P.mo h w' (P.wd _ hB)).a.i x hx) (Nat.le_trans hbase (P.bel (P.wd _ hB)).size) hok.ns c.tt);have f1:=P.cb 1 _ rfl w2 brf;have fB:=hid f2;have HW:=hid hw2;have HP:=hid P;have HM:=hid h;have HK:=jd5 hM hbase hfr hC hp;have HX:=jd4 hx hxn hfx hok;have ef2:=f2 w2 brf;clear hw2 P h hM hfr hC hp hxn hfx hok hfe hab ef2;go_enter func45,ntmps45
 go_upto_region 1 with(fail)
 rw[<-HW.out];obtain⟨o,ho⟩:∃ o,o=posN (x.i.shots.map (·.name)) c.tt:=⟨_,rfl⟩
 rw[posI_pv,<-ho] at HB;have HO:=hid ho;clear ho;cases fr
 ·have HA:=hid (show aboveN M.all c.name≠0 from fun e=>by have:=HAB.out.1 e;cases this);obtain⟨pk,hpk⟩:∃ pk:Int,pk=pvO o:=⟨_,rfl⟩
  rw[<-hpk] at HB;clear hpk;go_upto_region 4 with(first|(go_at_call 80;refine HT.out.mono ?_;rintro e w3 ⟨rfl,hb3⟩)|(go_at_call 84;refine(HB.out _ hb3).mono ?_;rintro e w4 ⟨rfl,hb4⟩))
  have hbZ:=hb3.trans (hb4.mono hb3.size)
  go_wp2_with (go_at_call 21;refine(failed_any 14 _).mono ?_;rintro e w9 ⟨rfl,hb9⟩;obtain⟨x0,x1,x2,x3,x4,x5,xz⟩:=zcells (HP.out.z (hbZ.trans (hb9.mono hbZ.size))))
  obtain⟨W,hW,⟨y0,y1,y2,y3,y4,y5⟩,r1,r2,r3⟩:=end_fail HP.out HM.out (hbZ.trans (hb9.mono hbZ.size)) 14;have hF:revertF M c=(M,failR 14,0):=by
   unfold revertF;rw[HX.out.2.2.1];simp only;rw[if_pos HA.out]
  rw[hF];clear x0 x1 x2 x3 x4 x5 xz hF;change bodyPost _ _ _ _ _ (st6 w9 (w.heap.size+1) (.int .i64 14) nilS nilS nilS (.int .i64 0) (.int .i64 0));rw[<-hW];exact bodyPost_ret (v:=failV 14) (by simp[results,results45,go_sem,y0,y1,y2,y3,y4,y5]) rfl ⟨_,X,rfl,r1,r2,rfl,nlr,rfl,r3⟩
 ·have HA:=hid (show ¬ aboveN M.all c.name≠0 from fun e=>e (HAB.out.2 rfl));cases o with
  | none =>
   rw[show pvO none = -1 from rfl] at HB;go_upto_region 6 with(first|(go_at_call 80;refine HT.out.mono ?_;rintro e w3 ⟨rfl,hb3⟩)|(go_at_call 84;refine(HB.out _ hb3).mono ?_;rintro e w4 ⟨rfl,hb4⟩))
   have hbZ:=hb3.trans (hb4.mono hb3.size)
   go_wp2_with (go_at_call 21;refine(failed_any 4 _).mono ?_;rintro e w9 ⟨rfl,hb9⟩;obtain⟨x0,x1,x2,x3,x4,x5,xz⟩:=zcells (HP.out.z (hbZ.trans (hb9.mono hbZ.size))))
   obtain⟨W,hW,⟨y0,y1,y2,y3,y4,y5⟩,r1,r2,r3⟩:=end_fail HP.out HM.out (hbZ.trans (hb9.mono hbZ.size)) 4;have hF:revertF M c=(M,failR 4,0):=by
    unfold revertF;rw[HX.out.2.2.1];simp only;rw[if_neg HA.out,<-HO.out]
   rw[hF];clear x0 x1 x2 x3 x4 x5 xz hF;change bodyPost _ _ _ _ _ (st6 w9 (w.heap.size+1) (.int .i64 4) nilS nilS nilS (.int .i64 0) (.int .i64 0));rw[<-hW];exact bodyPost_ret (v:=failV 4) (by simp[results,results45,go_sem,y0,y1,y2,y3,y4,y5]) rfl ⟨_,X,rfl,r1,r2,rfl,nlr,rfl,r3⟩
  | some k =>
   rw[show pvO (some k)=(k:Int) from rfl] at HB;have hkl:=posN_lt HO.out.symm;rw[List.length_map] at hkl;go_upto_region 7 with(first|(go_at_call 80;refine HT.out.mono ?_;rintro e w3 ⟨rfl,hb3⟩)|(go_at_call 84;refine(HB.out _ hb3).mono ?_;rintro e w4 ⟨rfl,hb4⟩))
   obtain⟨w5,hw5⟩:∃ z,z=w4:=⟨_,rfl⟩
   subst hw5;have hb5:Below w2.heap.size w2 w5:=hb3.trans (hb4.mono hb3.size);have hM5:=HP.out.mo HM.out w5 (HP.out.wd _ hb5);have hII:=hM5.a.i x HX.out.1;have hnd:=II.fp_nodup hM5 HX.out.1;have hsl:x.x.ss.length=x.i.shots.length:=by rw[hII.se,List.length_map]
   have hks:k<x.x.ss.length:=by omega
   obtain⟨s,hs⟩:∃ s,x.x.ss[k]? = some s:=⟨_,List.getElem?_eq_getElem hks⟩
   have hsm:=List.mem_of_getElem? hs;have hsh:x.i.shots[k]? = some s.s:=by rw[hII.se,List.getElem?_map,hs];rfl
   obtain⟨sa,sn,sc,hsv⟩:=ownG_sh hII.so;have hso:=hII.so;rw[hsv] at hso;obtain⟨gb,rfl⟩:∃ gb,sa=some ⟨gb,0,none⟩:=by
    rcases hso.shape with⟨h1,h2⟩|⟨g,cc,h1,_⟩
    ·have:=congrArg List.length h2;rw[List.length_map] at this;simp at this;rw[this] at hks;simp at hks
    ·cases h1;exact⟨g,rfl⟩
   have hia:=hso.addr (P:=prog) underlying85 size90 k (by rw[List.length_map];exact hks);have hrg:=hso.rangeAt k (by rw[List.length_map];exact hks);rw[show(x.x.ss.map sxrow).getD k []=sxrow s by rw[List.getD_eq_getElem?_getD,List.getElem?_map,hs];rfl] at hrg;obtain⟨kk,hkk⟩:∃ q,q=k*3:=⟨_,rfl⟩
   rw[<-hkk] at hia hrg;have r1:w5.cell? ⟨gb,kk+1,none⟩=some (.int .i64 s.s.size):=hrg 1 _ rfl;have r2:w5.cell? ⟨gb,kk+2,none⟩=some (.map (some s.m)):=hrg 2 _ rfl;have q1:∀ w',Below w5.heap.size w5 w'->w'.cell? ⟨gb,kk+1,none⟩=some (.int .i64 s.s.size):=fun w' hB=>(hB.cell (p:=⟨gb,kk+1,none⟩) (World.block_lt_of_cell? w5 _ r1)).trans r1;have q2:∀ w',Below w5.heap.size w5 w'->w'.cell? ⟨gb,kk+2,none⟩=some (.map (some s.m)):=fun w' hB=>(hB.cell (p:=⟨gb,kk+2,none⟩) (World.block_lt_of_cell? w5 _ r2)).trans r2;have k4:∀ w',Below w5.heap.size w5 w'->w'.cell? ⟨x.ib,4,none⟩=some (.slice (some ⟨gb,0,none⟩) sn sc):=fun w' hB=>by rw[(hII.below hB).cells.2.2.2.2.1,hsv]
   have k1:∀ w',Below w5.heap.size w5 w'->w'.cell? ⟨x.ib,1,none⟩=some (.int .i64 x.i.size):=fun w' hB=>(hII.below hB).cells.2.1;have k3:∀ w',Below w5.heap.size w5 w'->w'.cell? ⟨x.ib,3,none⟩=some (.map (some x.x.om)):=fun w' hB=>(hII.below hB).cells.2.2.2.1;have kz:∀ w',Below w5.heap.size w5 w'->∀ j,w'.frozen? ⟨x.ib,j,none⟩=false:=fun w' hB=>(hII.below hB).cells.2.2.2.2.2.2;have HC:=hid (fun w' (hB:Below w5.heap.size w5 w')=>mclone60 ((hII.sm s hsm).g.block (hB.block _ (hII.sm s hsm).g.lt)));have HQ:=jd6 hM5 hII hb5 hnd hsm hsh;have hB0:Below w5.heap.size w5 w5.drew:=brf.drew;clear hM5 hII hb5 hnd hsl hks hsm hsh hsv hso hrg hkk r1 r2 hs f1 f2 hb3 hb4 hkl;refine wp_region_K 21 (fun w'=>Below w5.heap.size w5 w') (by kernel_rfl) ?_;refine qk 0 ?_;try simp only[nk]
   refine qk 1 ?_;try simp only[nk]
   refine qk 2 ?_;try simp only[nk]
   refine qk 3 ?_;try simp only[nk]
   refine qk 4 ?_;try simp only[nk]
   refine rq 5 ?_;try simp only[nk]
   refine qk 6 ?_;try simp only[nk]
   refine rq 7 ?_;try simp only[nk]
   refine qk 8 ?_;try simp only[nk]
   refine rq 9 ?_;try simp only[nk]
   refine qk 10 ?_;try simp only[nk]
   refine qk 11 ?_;try simp only[nk]
   refine qk 12 ?_;try simp only[nk]
   refine rq 13 ?_;try simp only[nk]
   refine qk 14 ?_;try simp only[nk]
   refine rq 15 ?_;try simp only[nk]
   refine qk 16 ?_;try simp only[nk]
   refine rq 17 ?_;try simp only[nk]
   refine wpAnyK_ready (rs:=[18]) (by kernel_rfl) (by simp) (AllReadyK.cons rfl (fun K hK=>?_) AllReadyK.nil);go_simp
   go_wp2_with (go_at_call 60;refine(HC.out _ brf.drew).mono ?_;rintro e w8 ⟨rfl,hgm8,hb8c,-⟩;have hb8:Below w5.heap.size w5 w8:=brf.drew.trans hb8c;have c81:=k1 w8 hb8;have z8:=kz w8 hb8;have c83:=k3 w8 hb8)
   refine hK.out _ _ (fun _=>hb8) ?_;clear hK K
   try simp only[nk]
   refine qk 19 ?_;try simp only[nk]
   refine qk 20 ?_;try simp only[nk]
   refine wpAnyK_ready (rs:=[21]) (by kernel_rfl) (by simp) (AllReadyK.cons rfl (fun K hK=>?_) AllReadyK.nil);go_simp
   refine hK.out _ _ (fun h=>by cases h) ?_;clear hK K
   try simp only[nk]
   refine qk 22 ?_;try simp only[nk]
   refine qk 23 ?_;try simp only[nk]
   refine wpAnyK_ready (rs:=[24]) (by kernel_rfl) (by simp) (AllReadyK.cons rfl (fun K hK=>?_) AllReadyK.nil);go_simp
   refine hK.out _ _ (fun h=>by cases h) ?_;clear hK K
   try simp only[nk]
   refine wpAnyK_done (by kernel_rfl) ?_ _;obtain⟨hM5,hII,hb5,hnd,hsm,hsh⟩:=HQ.out;have hnb:w5.heap.size<w8.heap.size:=hgm8.lt;have hII8:=hII.below hb8;have hO8:OM w8 base w5.heap.size s.s.own s.l:=((hII.sm s hsm)).move hgm8 hb8;have hIIa:=hII8.set13 hnd (sz:=s.s.size) hO8;obtain⟨w10,hw10⟩:∃ z,z=(w8.setCell ⟨x.ib,1,none⟩ (.int .i64 s.s.size)).setCell ⟨x.ib,3,none⟩ (.map (some w5.heap.size)):=⟨_,rfl⟩
   rw[<-hw10] at hIIa ⊢;have hk10:Kept w5 w10 (·≠x.ib):=((Kept.of_below (N:=fun _=>True) hb8 fun _ h _=>h).imp fun _ _=>trivial).trans (by rw[hw10];exact(Kept.set _ _ _ _ (by simp)).trans (Kept.set _ _ _ _ (by simp)));have hfn:=IX.fp_ib hnd;have hlt5:=hII.lt;have hnda:(IX.fp x.ib {x.x with om:=w5.heap.size,ol:=s.l}).Nodup:=by
    have h1:(x.ib :: x.x.om :: (x.x.ss.map (·.m)++x.x.sv.ownBlock.toList)).Nodup:=hnd;show(x.ib :: w5.heap.size :: (x.x.ss.map (·.m)++x.x.sv.ownBlock.toList)).Nodup;rw[List.nodup_cons] at h1 ⊢;obtain⟨h2,h3⟩:=h1;rw[List.nodup_cons] at h3 ⊢;have hib:=blk_lt hII.ck;refine⟨fun hm=>?_,fun hm=>?_,h3.2⟩
    ·rcases List.mem_cons.1 hm with e|e
     ·omega
     ·exact h2 (List.mem_cons_of_mem _ e)
    ·have:=hlt5 w5.heap.size (by unfold IX.fp;exact List.mem_cons_of_mem _ (List.mem_cons_of_mem _ hm));omega
   obtain⟨nw,hnw⟩:∃ q,q=s.s.size/2^x.i.cl:=⟨_,rfl⟩
   have hshots:=HX.out.2.2.2.shots s.s (List.mem_of_getElem? hsh);have hnl:nw<=4096:=by rw[hnw];exact Nat.le_trans (Nat.div_le_self _ _) hshots.1
   have hsh1:((s.s.size:Int)/2^min x.i.cl 64)=(nw:Int):=by rw[Nat.min_eq_left (by have:=HX.out.2.2.2.cl;omega),hnw];push_cast;rfl
   have b10:base<=w10.heap.size:=Nat.le_trans (Nat.le_trans hbase (HP.out.bel (HP.out.wd _ hb5)).size) hk10.size;have m1:∀ w',Below w10.heap.size w10 w'->w'.cell? ⟨x.ib,1,none⟩=some (.int .i64 s.s.size):=fun w' hB=>(hIIa.below hB).cells.2.1;have m0:∀ w',Below w10.heap.size w10 w'->w'.cell? ⟨x.ib,0,none⟩=some (.int .i64 x.i.cl):=fun w' hB=>(hIIa.below hB).cells.1;have HA10:=jd6 hIIa hk10 hnda hnw hshots b10;clear hM5 hII hb5 hnd hsm hsh hnb hII8 hO8 hIIa hw10 hk10 hfn hlt5 hnda hnw hshots b10 hgm8 hb8c hb8 c81 z8 c83 q1 q2 k4 k1 k3 kz hia hB0;go_upto_region 8 with(fail)
   go_region_held (fun w'=>Below w10.heap.size w10 w') (first|with_reducible exact brf.drew|with_reducible assumption|with_reducible exact Below.drew (by assumption)) (fail)
   clear hsh1 m1 m0;obtain⟨w11,hw11⟩:∃ z,z=w10.drew:=⟨_,rfl⟩
   rw[<-hw11];have hb11:Below w10.heap.size w10 w11:=by rw[hw11];exact brf.drew
   have h11:=HA10.out.1.below hb11;have b11:base<=w11.heap.size:=Nat.le_trans HA10.out.2.2.2.2.2 hb11.size;obtain⟨ma,mn,mc,hmv⟩:=ownG_sh h11.maps.o;have c11:=h11.cells.2.2.2.2.2.1;rw[hmv] at c11;have hm11:=h11.maps;rw[hmv] at hm11;have HZ:=hid (sizes_any hm11 b11 nw nw (by omega) (by omega));have d5:∀ w',Below w11.heap.size w11 w'->w'.cell? ⟨x.ib,5,none⟩=some (.slice ma mn mc):=fun w' hB=>by rw[(h11.below hB).cells.2.2.2.2.2.1,hmv]
   have dz:∀ w',Below w11.heap.size w11 w'->w'.frozen? ⟨x.ib,5,none⟩=false:=fun w' hB=>(h11.below hB).cells.2.2.2.2.2.2 5;have H11:=jd4 h11 hb11 b11 hmv;clear hw11 hb11 h11 b11 hmv hm11;go_upto_region 10 with(first
    | (go_at_call 86;refine HZ.out.mono ?_;rintro e w12 ⟨v12,ps12,rfl,hB12,hnew12,hb12⟩;obtain⟨ya,yn,yc,rfl⟩:=ownG_sh hB12.o;have HT2:=hid (touch_any hB12 (Nat.le_trans H11.out.2.2.1 hb12.size) ((0:Int),(nw:Int)));have HB12:=hid hb12;clear hB12 hnew12 hb12)
    | (go_at_call 85;refine HT2.out.mono ?_;rintro e w13 ⟨v13,ps13,rfl,hB13,hnew13,hb13⟩;obtain⟨za,zn,zc,rfl⟩:=ownG_sh hB13.o;have hb1113:=HB12.out.trans (hb13.mono HB12.out.size);have c13:=d5 w13 hb1113;have z13:=dz w13 hb1113))
   obtain⟨w14,hw14⟩:∃ z,z=w13.setCell ⟨x.ib,5,none⟩ (.slice za zn zc):=⟨_,rfl⟩
   rw[<-hw14];obtain⟨h11,hb11,b11,hmv⟩:=H11.out;obtain⟨hIIa,hk10,hnda,hnw,hshots,b10⟩:=HA10.out;obtain⟨hM5,hII,hb5,hnd,hsm,hsh⟩:=HQ.out;have h14:=(h11.below hb1113).set5 hnda hB13;rw[<-hw14] at h14;have hk14:Kept w5 w14 (·≠x.ib):=((hk10.trans (((Kept.of_below (N:=fun _=>True) (hb11.trans (hb1113.mono hb11.size)) fun _ h _=>h)).imp fun _ _=>trivial))).trans (by rw[hw14];exact Kept.set _ _ _ _ (by simp));have hib:x.ib∈x.x.fp x.ib:=by unfold IX.fp;simp
   have h9:=hM5.img HX.out.1 (hk14.imp fun b hb e=>hb (e▸hib)) (i':=revI x.i s.s) (x':={x.x with om:=w5.heap.size,ol:=s.l,mv:=.slice za zn zc,ps:=ps13}) (by
    unfold revI;rw[<-hnw];exact h14) (revI_ok HX.out.2.2.2 (List.mem_of_getElem? hsh)) (fun b hb=>by
    have hb':b∈x.ib :: w5.heap.size :: (x.x.ss.map (·.m)++x.x.sv.ownBlock.toList):=hb;rcases List.mem_cons.1 hb' with e|e
    ·exact .inl (e▸hib)
    ·rcases List.mem_cons.1 e with e|e
     ·exact .inr (by omega)
     ·exact .inl (by unfold IX.fp;exact List.mem_cons_of_mem _ (List.mem_cons_of_mem _ e))) hnda
   have hst:=(Stp.of_below hb5 (X.fp mb)).trans h9.2;have hF:revertF M c=({M with all:=setI M.all x.n (revI x.i s.s)},{},0):=by
    unfold revertF;rw[HX.out.2.2.1];simp only;rw[if_neg HA.out,<-HO.out];simp only;rw[hsh,HX.out.2.1]
   have HF:=hid hF;have HE:=jd2 h9.1 hst;obtain⟨x0,x1,x2,x3,x4,x5,xz⟩:=zcells (HP.out.zs HM.out hst);clear h11 hb11 b11 hmv hIIa hk10 hnda hnw hshots b10 hM5 hII hb5 hnd hsm hsh h14 hk14 hib h9 hst hF hB13 hnew13 hb13 hb1113 c13 z13 hw14 c11 d5 dz;obtain⟨W,hW,⟨y0,y1,y2,y3,y4,y5⟩,r1,r2,r3⟩:=end_ok HP.out HM.out HE.out.1 HE.out.2;have HWW:=hid hW;have HR:=jd3 r1 r2 r3;clear hW r1 r2 r3
   go_wp2_with fail
   change bodyPost _ _ _ _ _ (st6 w14 (w.heap.size+1) (.int .i64 0) nilS nilS nilS (.int .i64 0) (.int .i64 0));rw[<-HWW.out,HF.out];clear x0 x1 x2 x3 x4 x5 xz;refine bodyPost_ret (v:=failV 0) (by simp[results,results45,go_sem,y0,y1,y2,y3,y4,y5]) rfl ?_
   first
    | exact⟨_,rfl,HR.out.1,_,HR.out.2.1,rfl,nlr,rfl,HR.out.2.2⟩
    | exact⟨_,_,rfl,HR.out.1,HR.out.2.1,rfl,nlr,rfl,HR.out.2.2⟩
theorem eq_of_getD:∀ (xs ys:Bs),xs.length=ys.length->(∀ j,j<xs.length->xs.getD j 0=ys.getD j 0)->xs=ys
 | [],[],_,_=>rfl
 | [],b :: s,h,_=>by cases h
 | a :: r,[],h,_=>by cases h
 | a :: r,b :: s,h,hj=>by
  have h0:=hj 0 (by simp);simp only[List.getD_cons_zero] at h0;rw[h0,eq_of_getD r s (by simpa using h) fun j hj2=>by have:=hj (j+1) (by simp;omega);simpa using this]
theorem equal_any {w:World}{B1 B2:Nat}{va vb:Value}{xs ys:Bs}(ha:SlB w B1 va xs)(hb:SlB w B2 vb ys) :
  Calls prog 101 #[va,vb] w fun e w'=>e = .returned (.bool (decide (xs=ys)))/\∃ q,w'=w.drewN q:=by
 have hla:=fun w'=>ha.len (P:=prog) (t:=23) (ty:=3) underlying23 w';have hlb:=fun w'=>hb.len (P:=prog) (t:=23) (ty:=3) underlying23 w';have HA:=jd2 ha hb;have mixed:prog.follows Departure.mixedOrders=true:=by kernel_rfl
 have hlm:xs.length<=maxLen:=by obtain⟨_,_,rfl,hc,hm,_⟩:=id ha;omega
 have hlm2:ys.length<=maxLen:=by obtain⟨_,_,rfl,hc,hm,_⟩:=id hb;omega
 unfold maxLen at hlm hlm2;clear ha hb;by_cases hn:xs.length=ys.length
 ·rw[<-hn] at hlb;obtain⟨n,hne⟩:∃ n,n=xs.length:=⟨_,rfl⟩
  rw[<-hne] at hla hlb hlm;have HN:=jd2 hn hne;clear hn hne hlm2;go_enter func101,ntmps101
  go_wp2_with fail
  go_loopw [13] (fun s13 wr=>∃ k q:Nat,k<=n/\s13 = .int .i64 k/\wr=w.drewN q/\Hid (∀ j,j<k->xs.getD j 0=ys.getD j 0)) (fun s13 _=>n-(intOf s13).toNat)
  case atStart=>exact⟨0,0,Nat.zero_le _,rfl,rfl,hid fun j hj=>absurd hj (Nat.not_lt_zero _)⟩
  case round =>
   obtain⟨k,q,hk,rfl,rfl,heq⟩:=hrel;by_cases hlt:k<n
   ·obtain⟨ba,oa,_,i1,c1⟩:=HA.out.1.addr (P:=prog) (t:=23) underlying23 size5' k (by rw[<-HN.out.2];exact hlt);obtain⟨bb,ob,_,i2,c2⟩:=HA.out.2.addr (P:=prog) (t:=23) underlying23 size5' k (by rw[<-HN.out.1,<-HN.out.2];exact hlt);obtain⟨x,hx⟩:∃ x,x=xs.getD k 0:=⟨_,rfl⟩
    obtain⟨y,hy⟩:∃ y,y=ys.getD k 0:=⟨_,rfl⟩
    rw[<-hx] at c1;rw[<-hy] at c2;have HX:=jd2 hx hy;clear hx hy;by_cases hxy:x=y
    ·subst hxy
     go_wp2_with fail
     go_region_o
     go_wp2
     go_roundw
     case measure=>simp only[intOf];omega
     case rel =>
      refine⟨k+1,q+1,by omega,by go_num,rfl,hid fun j hj=>?_⟩;by_cases e:j=k
      ·subst e;rw[<-HX.out.1,<-HX.out.2]
      ·exact heq.out j (by omega)
    ·have hne:¬ (x.toNat:Int)=(y.toNat:Int):=fun e=>hxy (UInt8.toNat_inj.1 (by omega));have hne2:((x.toNat:Int)==(y.toNat:Int))=false:=by simpa using hne
     go_wp2_with fail
     go_region_o
     go_wp2
     go_ret
     refine⟨?_,q+1,rfl⟩;rw[decide_eq_false fun e=>hxy (by rw[HX.out.1,HX.out.2,e])];rfl
   ·have:k=n:=by omega
    subst this
    go_wp2
    go_ret
    refine⟨?_,q,rfl⟩;rw[decide_eq_true (eq_of_getD xs ys HN.out.1 fun j hj=>heq.out j (by rw[HN.out.2];exact hj))];rfl
 ·have hn':¬ (xs.length:Int)=(ys.length:Int):=by omega
  go_enter func101,ntmps101
  go_wp2
  go_ret
  refine⟨?_,0,rfl⟩;rw[decide_eq_false fun e=>hn (by rw[e])];rfl
end Go.Proofs.YtgkabcaodnofnaaGreat
namespace Go.Md
def fillO (cl:Nat)(U1 U2:Nat->Nat->Bs)(own:Nat->Option Bs)(k:Nat):Nat->Option Bs:=fun j=>if j<k/\own j=none/\U1 (j*2^cl) (2^cl)≠U2 (j*2^cl) (2^cl) then some (U1 (j*2^cl) (2^cl)) else own j
variable {cl:Nat}{U1 U2:Nat->Nat->Bs}{own:Nat->Option Bs}{k:Nat}
theorem fillO_zero:fillO cl U1 U2 own 0=own:=by funext j;unfold fillO;rw[if_neg (by omega)]
theorem fillO_at:fillO cl U1 U2 own k k=own k:=by unfold fillO;rw[if_neg (by omega)]
theorem fillO_keep (h:own k≠none\/U1 (k*2^cl) (2^cl)=U2 (k*2^cl) (2^cl)):fillO cl U1 U2 own (k+1)=fillO cl U1 U2 own k:=by
 funext j;unfold fillO;by_cases e:j=k
 ·subst e;rw[if_neg (by rintro⟨_,h2,h3⟩;rcases h with h|h;exact h h2;exact h3 h),if_neg (by omega)]
 ·by_cases h1:j<k/\own j=none/\U1 (j*2^cl) (2^cl)≠U2 (j*2^cl) (2^cl)
  ·rw[if_pos h1,if_pos ⟨by omega,h1.2⟩]
  ·rw[if_neg h1,if_neg fun h2=>h1 ⟨by omega,h2.2⟩]
theorem fillO_put (h:own k=none)(hu:U1 (k*2^cl) (2^cl)≠U2 (k*2^cl) (2^cl)):(fun j=>if j=k then some (U1 (k*2^cl) (2^cl)) else fillO cl U1 U2 own k j)=fillO cl U1 U2 own (k+1):=by
 funext j;by_cases e:j=k
 ·subst e;rw[if_pos rfl];unfold fillO;rw[if_pos ⟨by omega,h,hu⟩]
 ·rw[if_neg e];unfold fillO;by_cases h1:j<k/\own j=none/\U1 (j*2^cl) (2^cl)≠U2 (j*2^cl) (2^cl)
  ·rw[if_pos h1,if_pos ⟨by omega,h1.2⟩]
  ·rw[if_neg h1,if_neg fun h2=>h1 ⟨by omega,h2.2⟩]
theorem fillO_ok {nk:Nat}(h:OwnOk cl nk own)(hU:∀ a c,(U1 a c).length=16*c)(hk:k<=nk):OwnOk cl nk (fillO cl U1 U2 own k):=by
 intro j b hb;unfold fillO at hb;split at hb
 ·rename_i h1;cases hb
  exact⟨by omega,by rw[hU]⟩
 ·exact h j b hb
end Go.Md
namespace Go.Proofs.YtgkabcaodnofnaaGreat
open Go.RowKit Go.Mx Go.Md
def UndC (w:World)(mb:Nat)(n:Bs)(U:Nat->Nat->Bs):Prop:=∀ a c:Nat,a<=4096->c<=4096->Calls prog 65 #[pt mb,str n,.int .i64 a,.int .i64 c] w fun e w'=>∃ v,e = .returned v/\FullB w' w.heap.size v (U a c)/\Below w.heap.size w w'
theorem filled_any {base mb ib m cl nk size:Nat}{back tg:Bs}{U1 U2:Nat->Nat->Bs}(P:World->(Nat->Option Bs)->ML Int->Prop)
  (hom:∀ w own l,P w own l->OM w base m own l) (hst:∀ w own l w' own' l',P w own l->OM w' base m own' l'->Kept w w' (·≠m)->OwnOk cl nk own'->P w' own' l')
  (hic:∀ w own l,P w own l->w.cell? ⟨ib,0,none⟩=some (.int .i64 cl)/\w.cell? ⟨ib,2,none⟩=some (str back))
  (hu1:∀ w own l,P w own l->UndC w mb back U1) (hu2:∀ w own l,P w own l->UndC w mb tg U2) (hU:∀ a c,(U1 a c).length=16*c)
  (hcl:cl<=6) (hsz:size<=4096) (hnk:nk=size/2^cl) {w:World} {own:Nat->Option Bs} {l:ML Int} (h:P w own l) (ho:OwnOk cl nk own) (hbase:base<=w.heap.size) :
  Calls prog 130 #[pt mb,pt ib,.int .i64 size,.map (some m),str tg] w fun e w'=>e = .returned (.tuple #[])/\∃ l',P w' (fillO cl U1 U2 own nk) l'/\Kept w w' (·≠m):=by
 have hmin:min cl 64=cl:=Nat.min_eq_left (by omega);have hsh:((size:Int)/2^min cl 64)=(nk:Int):=by rw[hmin,hnk];push_cast;rfl
 have hnl:nk<=4096:=by rw[hnk];exact Nat.le_trans (Nat.div_le_self _ _) hsz
 have hpow:2^cl<=64:=by have:=Nat.pow_le_pow_right (n:=2) (by omega) hcl;omega
 have hmul:nk*2^cl<=4096:=by rw[hnk];exact Nat.le_trans (Nat.div_mul_le_self _ _) hsz
 have e0:=(hic w own l h).1;have HS:=jd5 hsh hmin hpow hmul hbase;have HP:=jd2 h ho;have HF:=jd6 hom hst hic hu1 hu2 hU;clear h ho hom hst hic hu1 hu2 hU hnk hcl hsz hmin hpow hmul hbase;go_enter func130,ntmps130
 go_wp2_with fail
 clear e0 hsh
 go_loopw [22] (fun s22 wr=>∃ (k:Nat) (l:ML Int),s22 = .int .i64 k/\k<=nk/\Hid (P wr (fillO cl U1 U2 own k) l/\Kept w wr (·≠m)/\OwnOk cl nk (fillO cl U1 U2 own k))) (fun s22 _=>nk-(intOf s22).toNat)
 case atStart=>exact⟨0,l,rfl,Nat.zero_le _,hid ⟨by rw[fillO_zero];exact HP.out.1,Kept.refl _ _,by rw[fillO_zero];exact HP.out.2⟩⟩
 case round =>
  obtain⟨k,l,rfl,hk,hR⟩:=hrel;obtain⟨wO,hwO⟩:∃ x,x=wr:=⟨_,rfl⟩
  subst hwO;by_cases hlt:k<nk
  ·rcases(HF.out.1 _ _ _ hR.out.1).at k (by omega) with⟨hk0,hl⟩|⟨bs,v,hk1,hv,hl⟩
   ·rw[fillO_at] at hk0;obtain⟨A,hA⟩:∃ q,q=k*2^cl:=⟨_,rfl⟩
    obtain⟨N,hN⟩:∃ q,q=2^cl:=⟨_,rfl⟩
    have hNl:N<=64:=by rw[hN];exact HS.out.2.2.1
    have hAl:A<=4096:=by rw[hA];exact Nat.le_trans (Nat.mul_le_mul_right _ (Nat.le_of_lt hlt)) HS.out.2.2.2.1
    have hshl1:IntKind.i64.wrap ((k:Int)*2^min cl 64)=(A:Int):=by
     rw[HS.out.2.1,show((k:Int)*2^cl)=((k*2^cl:Nat):Int) by push_cast;rfl,<-hA,IntWalk.i64_in _ (by omega)]
    have hshl2:IntKind.i64.wrap ((1:Int)*2^min cl 64)=(N:Int):=by
     rw[HS.out.2.1,show((1:Int)*2^cl)=((2^cl:Nat):Int) by push_cast;omega,<-hN,IntWalk.i64_in _ (by omega)]
    have hshl3:IntKind.i64.wrap ((2:Int)^min cl 64)=(N:Int):=by rw[<-hshl2,Int.one_mul]
    have bel:∀ w',Below wO.heap.size wO w'->P w' (fillO cl U1 U2 own k) l:=fun w' hB=>HF.out.2.1 _ _ _ _ _ _ hR.out.1 ((HF.out.1 _ _ _ hR.out.1).below hB) (Kept.of_below (N:=fun b=>b≠m) hB fun b hb _=>hb) hR.out.2.2;have k0:∀ w',Below wO.heap.size wO w'->w'.cell? ⟨ib,0,none⟩=some (.int .i64 cl):=fun w' hB=>(HF.out.2.2.1 _ _ _ (bel w' hB)).1;have k2:∀ w',Below wO.heap.size wO w'->w'.cell? ⟨ib,2,none⟩=some (str back):=fun w' hB=>(HF.out.2.2.1 _ _ _ (bel w' hB)).2;have HB:=hid bel;have HE:=jd3 hA hN hk0;clear bel hA hN hk0;go_upto_region 5 with(fail)
    go_region_held (fun w'=>Below wO.heap.size wO w') (first|with_reducible exact brf.drew|with_reducible assumption|with_reducible exact Below.drew (by assumption)) (fail)
    obtain⟨w3,hw3⟩:∃ z,z=wO.drew:=⟨_,rfl⟩
    have hb3:Below wO.heap.size wO w3:=by rw[hw3];exact brf.drew
    rw[<-hw3];have e2:=k2 w3 hb3;have HU1:=hid (HF.out.2.2.2.1 _ _ _ (HB.out w3 hb3) A N hAl (by omega));clear hw3 k0 k2;go_upto_region 7 with(go_at_call 65;refine HU1.out.mono ?_;rintro e w5 ⟨v5,rfl,hf5,hb5⟩)
    obtain⟨fa,fn,fc,rfl⟩:=ownB_sh hf5.o;have hbO5:Below wO.heap.size wO w5:=hb3.trans (hb5.mono hb3.size);have HU2:=hid (HF.out.2.2.2.2.1 _ _ _ (HB.out w5 hbO5) A N hAl (by omega));have H5:=jd3 hf5 hbO5 hb3;have h35:=hb3.size;clear hf5 hb5 hbO5 hb3 e2;by_cases hu:U1 A N=U2 A N
    ·have e9:decide (U1 A N=U2 A N)=true:=decide_eq_true hu;have HUQ:=hid hu;have HE9:=hid e9;clear hu e9
     go_wp2_with (first
      | (go_at_call 65;refine HU2.out.mono ?_;rintro e w6 ⟨v6,rfl,hf6,hb6⟩;have HQ:=hid (equal_any ((H5.out.1.o.below hb6 (fun q hq=>H5.out.1.o.lt q hq)).slB) hf6.o.slB);have H6:=jd2 hf6 hb6)
      | (go_at_call 101;refine HQ.out.mono ?_;rintro e w7 ⟨rfl,q7,hq7⟩;have H7:=hid hq7;clear hq7;rw[HE9.out]))
     have hb7:Below w5.heap.size w5 w7:=by rw[H7.out];exact H6.out.2.trans ⟨rfl,rfl,rfl,nlr,fun _ _=>rfl⟩
     have hbO:=H5.out.2.1.trans (hb7.mono H5.out.2.1.size)
     go_roundw
     case measure=>simp only[intOf];omega
     case rel =>
      have e:=fillO_keep (own:=own) (k:=k) (cl:=cl) (U1:=U1) (U2:=U2) (.inr (by rw[<-HE.out.1,<-HE.out.2.1];exact HUQ.out));refine⟨k+1,l,by go_num,by omega,hid ⟨?_,hR.out.2.1.trans (Kept.of_below (N:=fun b=>b≠m) hbO fun b hb _=>hb),?_⟩⟩
      ·rw[e];exact HB.out _ hbO
      ·rw[e];exact hR.out.2.2
    ·have e9:decide (U1 A N=U2 A N)=false:=decide_eq_false hu;have HUQ:=hid hu;have HE9:=hid e9;clear hu e9;go_upto_region 8 with(first
      | (go_at_call 65;refine HU2.out.mono ?_;rintro e w6 ⟨v6,rfl,hf6,hb6⟩;have HQ:=hid (equal_any ((H5.out.1.o.below hb6 (fun q hq=>H5.out.1.o.lt q hq)).slB) hf6.o.slB);have H6:=jd2 hf6 hb6)
      | (go_at_call 101;refine HQ.out.mono ?_;rintro e w7 ⟨rfl,q7,hq7⟩;have H7:=hid hq7;clear hq7;rw[HE9.out]))
     have hb7:Below w5.heap.size w5 w7:=by rw[H7.out];exact H6.out.2.trans ⟨rfl,rfl,rfl,nlr,fun _ _=>rfl⟩
     have hbO:=H5.out.2.1.trans (hb7.mono H5.out.2.1.size);have hv7:OwnB w7 base 5 (.slice fa fn fc) (U1 A N):=(H5.out.1.o.below hb7 (fun q hq=>H5.out.1.o.lt q hq)).any_base (Nat.le_trans HS.out.2.2.2.2 (Nat.le_trans hR.out.2.1.size h35));have hP7:=HB.out w7 hbO;have hll:l.length<maxLen:=by have:=(HF.out.1 _ _ _ hP7).len hR.out.2.2;unfold maxLen;omega
     obtain⟨w8,hrun,hom8,hk8,_⟩:=(HF.out.1 _ _ _ hP7).upd (k:=k) (by omega) hll hv7;have e:=fillO_put (U1:=U1) (U2:=U2) (cl:=cl) HE.out.2.2 (by rw[<-HE.out.1,<-HE.out.2.1];exact HUQ.out);rw[<-HE.out.1,<-HE.out.2.1] at e;rw[e] at hom8;have hok8:=fillO_ok (U1:=U1) (U2:=U2) (k:=k+1) HP.out.2 HF.out.2.2.2.2.2 (by omega);have HN:=jd3 (HF.out.2.1 _ _ _ _ _ _ hP7 hom8 hk8 hok8) ((hR.out.2.1.trans (Kept.of_below (N:=fun b=>b≠m) hbO fun b hb _=>hb)).trans hk8) hok8;have hrun':(Instr.mapUpdate 84 (.map (some m)) (.int .i64 k) (.slice fa fn fc)).run prog w7 = .ok () w8:=hrun;clear hom8 hk8 e hok8 hP7 hv7 hbO hb7 hrun hll
     go_wp2_with fail
     go_roundw
     case measure=>simp only[intOf];omega
     case rel=>exact⟨k+1,_,by go_num,by omega,hid ⟨HN.out.1,HN.out.2.1,HN.out.2.2⟩⟩
   ·rw[fillO_at] at hk1;obtain⟨va,vn,vc,rfl⟩:=ownB_sh hv;have HK:=hid hk1;clear hk1 hv
    go_wp2_with fail
    go_roundw
    case measure=>simp only[intOf];omega
    case rel =>
     have e:=fillO_keep (own:=own) (k:=k) (cl:=cl) (U1:=U1) (U2:=U2) (.inl (by rw[HK.out];simp));refine⟨k+1,l,by go_num,by omega,hid ⟨?_,hR.out.2.1,?_⟩⟩
     ·rw[e];exact hR.out.1
     ·rw[e];exact hR.out.2.2
  ·have e:k=nk:=by omega
   subst e;have HZ:=hid hR.out;clear hR
   go_wp2_with fail
   go_end0
   exact⟨rfl,l,HZ.out.1,HZ.out.2.1⟩
end Go.Proofs.YtgkabcaodnofnaaGreat
