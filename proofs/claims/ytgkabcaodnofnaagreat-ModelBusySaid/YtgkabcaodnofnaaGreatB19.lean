import Derived.Test.YtgkabcaodnofnaaGreatB02
import Derived.Test.YtgkabcaodnofnaaGreatB17
import Derived.Deep.RegionLaw
import Derived.Test.YtgkabcaodnofnaaGreatB16
import Derived.Test.YtgkabcaodnofnaaGreatB05
import Derived.Test.YtgkabcaodnofnaaGreatB12
set_option linter.unusedSimpArgs false
set_option linter.unusedVariables false
set_option maxRecDepth 100000
set_option maxHeartbeats 2000000
open Go.Proofs.Tryz
namespace Go.Md
def shootF (M:MM)(c:Cm):MM×Rp×Nat:=match fnd M.all c.name with
 | none=>(M,failR 4,0)
 | some i=>if nameOk c.tt=false then(M,failR 1,0) else if (posN (i.shots.map (·.name)) c.tt).isSome=true then(M,failR 5,0)
  else if 8<=i.shots.length then(M,failR 9,0) else({M with all:=setI M.all c.name {i with shots:=i.shots++[⟨c.tt,i.size,i.own⟩]}},{},0)
end Go.Md
namespace Go.Proofs.YtgkabcaodnofnaaGreat
open Go.RowKit Go.Mx Go.Md
variable {w w4 w8 w9:World}{base mb:Nat}{M:MM}{X:MX}
theorem shA {x:XI}{sa:Option Addr}{sn sc:Nat}(hII:II w4 base x.ib x.i x.x)(hsv:x.x.sv = .slice sa sn sc)(hns:x.i.shots.length<=8)(hbase:base<=w4.heap.size)(hnd:(x.x.fp x.ib).Nodup)(hb8:Below w4.heap.size w4 w8)(row:List Value) :
  OwnG (w8.alloc (.cells row.toArray 90)) base 90 3 (.slice sa sn sc) (x.x.ss.map sxrow)/\(∀ (j:Nat) (u:Value),row[j]? = some u->(w8.alloc (.cells row.toArray 90)).cell? ⟨w8.heap.size,j,none⟩=some u)/\
   ((x.x.ss.map sxrow).length+1)*32<=140737488355328/\(x.x.ss.map sxrow).length+1<=140737488355328/\base<=(w8.alloc (.cells row.toArray 90)).heap.size/\
   (∀ w9,(w8.alloc (.cells row.toArray 90)).grownBy w9 (Value.slice sa sn sc).ownBlock->w9.frozen? ⟨x.ib,4,none⟩=false)/\(∀ w9,(w8.alloc (.cells row.toArray 90)).grownBy w9 (Value.slice sa sn sc).ownBlock->w9.cell? ⟨x.ib,4,none⟩=some (.slice sa sn sc)):=by
 have hbA:Below w4.heap.size w4 (w8.alloc (.cells row.toArray 90)):=hb8.alloc hb8.size _;have hl:(x.x.ss.map sxrow).length<=8:=by
  rw[List.length_map];have:x.x.ss.length=x.i.shots.length:=by rw[hII.se,List.length_map]
  omega
 have h9:∀ w9,(w8.alloc (.cells row.toArray 90)).grownBy w9 (Value.slice sa sn sc).ownBlock->w9.heap[x.ib]? = some (.cells #[.int .i64 x.i.cl,.int .i64 x.i.size,str x.i.back,.map (some x.x.om),x.x.sv,x.x.mv] 87 (0,0)):=fun w9 hg=>by
  refine(hg.block x.ib (Nat.lt_of_lt_of_le (blk_lt hII.ck) hbA.size) fun e=>?_).trans ((hbA.block x.ib (blk_lt hII.ck)).trans hII.ck);exact((IX.fp_ib hnd).2.2 x.ib (by rw[hsv];exact e.symm)).1 rfl
 refine⟨by rw[<-hsv];exact hII.so.below hbA nlr,fun j u hu=>row_cells w8 row 90 j u hu,by omega,by omega,Nat.le_trans hbase hbA.size,fun w9 hg=>?_,fun w9 hg=>?_⟩
 ·simp[World.frozen?,h9 w9 hg]
 ·rw[<-hsv];simp[World.cell?,h9 w9 hg]
theorem shB {x:XI}{sa:Option Addr}{sn sc:Nat}{v9:Value}{tt:Bs}{nb:Nat}(h:MO w4 base mb M X)(hx:x∈X.xs)(hsv:x.x.sv = .slice sa sn sc)(hok:IOk x.i)(hs8:x.i.shots.length<8)(hb8:Below w4.heap.size w4 w8)(hnb:nb=w4.heap.size)(hg:GM EI prog 3 w8 nb x.x.ol)
  (ho9:OwnG w9 base 90 3 v9 ((x.x.ss.map sxrow)++[[str tt,.int .i64 x.i.size,.map (some nb)]])) (hg9:(w8.alloc (.cells #[str tt,.int .i64 x.i.size,.map (some nb)] 90)).grownBy w9 (Value.slice sa sn sc).ownBlock) (hq9:∀ q,v9.ownBlock=some q->(Value.slice sa sn sc).ownBlock=some q\/(w8.alloc (.cells #[str tt,.int .i64 x.i.size,.map (some nb)] 90)).heap.size<=q) :
  ∃ X',MO (w9.setCell ⟨x.ib,4,none⟩ v9) base mb {M with all:=setI M.all x.n {x.i with shots:=x.i.shots++[⟨tt,x.i.size,x.i.own⟩]}} X'/\X'.dm=X.dm/\X'.cl=X.cl/\X'.fr=X.fr/\Stp w4 (w9.setCell ⟨x.ib,4,none⟩ v9) (X.fp mb) (X'.fp mb):=by
 have hII:=h.a.i x hx;have hnd:=II.fp_nodup h hx;have hfn:=IX.fp_ib hnd;have hnl:nb<w8.heap.size:=hg.lt;have hbA:Below w4.heap.size w4 (w8.alloc (.cells #[str tt,.int .i64 x.i.size,.map (some nb)] 90)):=hb8.alloc hb8.size _;have hsA:(w8.alloc (.cells #[str tt,.int .i64 x.i.size,.map (some nb)] 90)).heap.size=w8.heap.size+1:=by simp
 rw[hsA] at hq9;have hq7:∀ q,v9.ownBlock=some q->x.x.sv.ownBlock=some q\/w8.heap.size<q:=fun q e=>by
  rcases hq9 q e with h1|h1
  ·exact .inl (by rw[hsv];exact h1)
  ·exact .inr (by omega)
 have hkg:Kept (w8.alloc (.cells #[str tt,.int .i64 x.i.size,.map (some nb)] 90)) w9 (fun b=>x.x.sv.ownBlock≠some b):=Kept.grown hg9 fun k hk hn=>hn (by rw[hsv];exact hk);have hkA:Kept w4 (w9.setCell ⟨x.ib,4,none⟩ v9) (fun b=>x.x.sv.ownBlock≠some b/\b≠x.ib):=(((Kept.of_below (N:=fun _=>True) hbA fun k hk _=>hk).imp fun _ _=>trivial).trans (hkg.imp fun b hb=>hb.1)).trans (Kept.set _ _ _ _ (by simp));have hk8:Kept w8 (w9.setCell ⟨x.ib,4,none⟩ v9) (fun b=>x.x.sv.ownBlock≠some b/\b≠x.ib):=(((Kept.of_below (N:=fun _=>True) ((Below.refl w8.heap.size w8).alloc nlr _) fun k hk _=>hk).imp fun _ _=>trivial).trans (hkg.imp fun b hb=>hb.1)).trans (Kept.set _ _ _ _ (by simp));have hib4:=blk_lt hII.ck
 have hq9b:w9.heap[x.ib]? = some (.cells #[.int .i64 x.i.cl,.int .i64 x.i.size,str x.i.back,.map (some x.x.om),x.x.sv,x.x.mv] 87 (0,0)):=(hkg.block x.ib (Nat.lt_of_lt_of_le hib4 hbA.size) fun e=>(hfn.2.2 x.ib e).1 rfl).trans ((hbA.block x.ib hib4).trans hII.ck);have hNI:NI w4 (fun b=>x.x.sv.ownBlock≠some b/\b≠x.ib):=fun b cc t f hb h3=>by
  refine⟨fun e=>?_,fun e=>?_⟩
  ·have:=hII.typ b (by unfold IX.fp;simp[e]) cc t f hb;rcases h3 with h|h|h<;>simp[h] at this
  ·have:=hII.typ b (by rw[e];unfold IX.fp;simp) cc t f hb;rcases h3 with h|h|h<;>simp[h] at this
 have hlt:=hII.lt;have hnbn:x.x.sv.ownBlock≠some nb/\nb≠x.ib:=⟨fun e=>by have:=hlt nb (by unfold IX.fp;simp[e]);omega,by omega⟩
 have hOMnb:OM (w9.setCell ⟨x.ib,4,none⟩ v9) base nb x.i.own x.x.ol:=⟨hg.block (hk8.block nb hnl hnbn),((hII.own.kept hkA ⟨fun e=>(hfn.2.2 _ e).2.1 rfl,Ne.symm hfn.1⟩ fun b cc f hc=>hNI b cc 5 f hc (.inl rfl))).f,hII.own.b⟩
 have hII6:II (w9.setCell ⟨x.ib,4,none⟩ v9) base x.ib {x.i with shots:=x.i.shots++[⟨tt,x.i.size,x.i.own⟩]} {x.x with ss:=x.x.ss++[⟨⟨tt,x.i.size,x.i.own⟩,nb,x.x.ol⟩],sv:=v9}:=by
  refine⟨?_,hII.own.kept hkA ⟨fun e=>(hfn.2.2 _ e).2.1 rfl,Ne.symm hfn.1⟩ fun b cc f hc=>hNI b cc 5 f hc (.inl rfl),?_,?_,fun s hs=>?_,hII.maps.kept hkA fun b cc t f hc ht=>hNI b cc t f hc (by rcases ht with h|h<;>simp[h])⟩
  ·rw[heap_setCell_at' w9 x.ib 4 _ _ 87 _ hq9b];rfl
  ·show x.i.shots++[(⟨tt,x.i.size,x.i.own⟩:SH)]=(x.x.ss++[(⟨⟨tt,x.i.size,x.i.own⟩,nb,x.x.ol⟩:SX)]).map (fun s:SX=>s.s);rw[hII.se,List.map_append];rfl
  ·show OwnG _ base 90 3 v9 ((x.x.ss++[_]).map sxrow);rw[List.map_append];exact ho9.kept (N:=(·≠x.ib)) (Kept.set _ _ _ _ (by simp)) fun q hq e=>by
    rcases hq7 q hq with h1|h1
    ·exact(hfn.2.2 q h1).1 e.symm
    ·have:=hb8.size;omega
  ·rcases List.mem_append.1 hs with h1|h1
   ·exact(hII.sm s h1).kept hkA ⟨fun e=>(hfn.2.2 _ e).2.2 s h1 rfl,Ne.symm (hfn.2.1 s h1).1⟩ fun b cc f hc=>hNI b cc 5 f hc (.inl rfl)
   ·have h2:=List.mem_singleton.1 h1;subst h2;exact hOMnb
 have hok6:IOk {x.i with shots:=x.i.shots++[⟨tt,x.i.size,x.i.own⟩]}:=by
  refine⟨hok.cl,hok.size,hok.whole,hok.own,fun s hs=>?_,by show(x.i.shots++[_]).length<=8;rw[List.length_append];simp;omega,hok.nb⟩;rcases List.mem_append.1 hs with h1|h1
  ·exact hok.shots s h1
  ·have h2:=List.mem_singleton.1 h1;subst h2;exact⟨hok.size,hok.whole,hok.own⟩
 have hb48:=hb8.size;have hfp:∀ b∈IX.fp x.ib {x.x with ss:=x.x.ss++[⟨⟨tt,x.i.size,x.i.own⟩,nb,x.x.ol⟩],sv:=v9},b∈x.x.fp x.ib\/w4.heap.size<=b:=fun b hb=>by
  unfold IX.fp at hb ⊢;simp only[List.mem_cons,List.mem_append,List.mem_map,Option.mem_toList,List.mem_nil_iff,or_false] at hb ⊢;rcases hb with h1|h1|⟨s,hs,h1⟩|h1
  ·exact .inl (.inl h1)
  ·exact .inl (.inr (.inl h1))
  ·rcases hs with h2|h2
   ·exact .inl (.inr (.inr (.inl ⟨s,h2,h1⟩)))
   ·subst h2;exact .inr (by simp only at h1;omega)
  ·rcases hq7 b h1 with h2|h2
   ·exact .inl (.inr (.inr (.inr h2)))
   ·exact .inr (by omega)
 have hnd6:(IX.fp x.ib {x.x with ss:=x.x.ss++[⟨⟨tt,x.i.size,x.i.own⟩,nb,x.x.ol⟩],sv:=v9}).Nodup:=by
  have hom:x.x.om<w4.heap.size:=hII.own.g.lt;have hsm:∀ s∈x.x.ss,s.m<w4.heap.size:=fun s hs=>(hII.sm s hs).g.lt;have hnd':(x.ib :: x.x.om :: (x.x.ss.map (·.m)++x.x.sv.ownBlock.toList)).Nodup:=hnd;simp only[List.nodup_cons,List.nodup_append,List.mem_cons,List.mem_append,not_or] at hnd';obtain⟨_,_,hm,_⟩:=hnd';show(x.ib :: x.x.om :: ((x.x.ss++[(⟨⟨tt,x.i.size,x.i.own⟩,nb,x.x.ol⟩:SX)]).map (fun s:SX=>s.m)++v9.ownBlock.toList)).Nodup;have hv:∀ q,v9.ownBlock=some q->q≠x.ib/\q≠x.x.om/\q≠nb/\∀ s∈x.x.ss,s.m≠q:=fun q e=>by
   rcases hq7 q e with h1|h1
   ·have:=hfn.2.2 q h1;exact⟨this.1.symm,this.2.1.symm,fun e2=>hnbn.1 (e2▸h1),this.2.2⟩
   ·exact⟨by omega,by omega,by omega,fun s hs=>by have:=hsm s hs;omega⟩
  simp only[List.nodup_cons,List.nodup_append,List.mem_cons,List.mem_append,List.map_append,List.map_cons,List.map_nil,not_or,List.mem_nil_iff,or_false,Option.mem_toList];refine⟨⟨hfn.1,⟨fun hm=>?_,Ne.symm hnbn.2⟩,fun e=>(hv _ e).1 rfl⟩,⟨⟨fun hm=>?_,by omega⟩,fun e=>(hv _ e).2.1 rfl⟩,⟨hm,by simp,fun a ha b hb e=>?_⟩,by cases v9.ownBlock<;>simp,fun a ha b hb e=>?_⟩
  ·obtain⟨s,hs,e⟩:=List.mem_map.1 hm;exact(hfn.2.1 s hs).1 e.symm
  ·obtain⟨s,hs,e⟩:=List.mem_map.1 hm;exact(hfn.2.1 s hs).2 e.symm
  ·obtain⟨s,hs,e1⟩:=List.mem_map.1 ha;have:=hsm s hs;omega
  ·subst e;rcases ha with h1|h1
   ·obtain⟨s,hs,e1⟩:=List.mem_map.1 h1;exact(hv a hb).2.2.2 s hs e1
   ·exact(hv a hb).2.2.1 h1
 have h10:=h.img hx (hkA.imp fun b hb=>⟨fun e=>hb (by unfold IX.fp;simp[e]),fun e=>hb (by rw[e];unfold IX.fp;simp)⟩) hII6 hok6 hfp hnd6;exact⟨_,h10.1,rfl,rfl,rfl,h10.2⟩
theorem cmd44_any:CmdOk 44 HasN shootF:=by
 intro w base mb M X c dv h hM hbase hfr hC hp;obtain⟨da,dn,dc,rfl⟩:=slB_shape hC.d.slB;obtain⟨x,hx,hxn,hfx⟩:=has_x h hC hp;have hok:=h.a.ok x hx;obtain⟨sa,sn,sc,hsv⟩:=ownG_sh (h.a.i x hx).so;obtain⟨w2,hw2,P⟩:=pro_of w c (.slice da dn dc);have f0:=P.m0 h;have f1:=P.c1;have f2:=P.c2;have lk:=P.l0 h hx hxn;have i1:=P.i1 h hx;have i3:=P.i3 h hx;have i4:∀ w',Below w2.heap.size w2 w'->w'.cell? ⟨x.ib,4,none⟩=some (.slice sa sn sc):=fun w' hB=>by rw[((P.mo h w' (P.wd _ hB)).a.i x hx).cells.2.2.2.2.1,hsv]
 have HB:=hid (fun w' (hB:Below w2.heap.size w2 w')=>place84 ((P.mo h w' (P.wd _ hB)).a.i x hx) (Nat.le_trans hbase (P.bel (P.wd _ hB)).size) hok.ns c.tt);obtain⟨nk,hnk⟩:∃ b,b=nameOk c.tt:=⟨_,rfl⟩
 have HN:=hid (fun w'=>name_any c.tt w');rw[<-hnk] at HN;have HNK:=hid hnk;have hsn:sn=x.i.shots.length:=by
  have h1:=(h.a.i x hx).so;rw[hsv] at h1;rw[(h.a.i x hx).se,List.length_map];rcases h1.shape with⟨h2,h3⟩|⟨g,cc,h2,_⟩
  ·cases h2;have:=congrArg List.length h3;simpa using this.symm
  ·cases h2;rw[List.length_map]
 have HSN:=hid hsn;have hlen:∀ w',(Builtin.len_ #[85] 3 #[.slice sa sn sc]).run prog w' = .ok (.int .i64 sn) w':=fun w'=>len_sl underlying85 rfl w';have HW:=hid hw2;have HP:=hid P;have HM:=hid h;have HK:=jd5 hM hbase hfr hC hp;have HX:=jd4 hx hxn hfx hok;have HSV:=hid hsv;have ef0:=f0 w2 brf;have ef1:=f1 w2 brf;have ef2:=f2 w2 brf;have elk:=lk w2 brf;have ei1:=i1 w2 brf;have ei3:=i3 w2 brf;have ei4:=i4 w2 brf;clear hw2 P h hM hfr hC hp hxn hfx hok hsv hsn hnk;go_enter func44,ntmps44
 go_upto_region 1 with(fail)
 rw[<-HW.out]
 go_region_held (fun w'=>Below w2.heap.size w2 w') (first|with_reducible exact brf.drew|with_reducible assumption|with_reducible exact Below.drew (by assumption)) (fail)
 obtain⟨w3,hw3⟩:∃ z,z=w2.drew:=⟨_,rfl⟩
 have hb3:Below w2.heap.size w2 w3:=by rw[hw3];exact brf.drew
 rw[<-hw3];clear hw3 ef0 ef1 ef2 elk ei1 ei3 ei4;have g2:=f2 w3 hb3;cases nk
 ·go_upto_region 3 with(go_at_call 72;refine(HN.out _).mono ?_;rintro e w4 ⟨rfl,rfl⟩)
  have hbZ:=hb3
  go_wp2_with (go_at_call 21;refine(failed_any 1 _).mono ?_;rintro e w9 ⟨rfl,hb9⟩;obtain⟨x0,x1,x2,x3,x4,x5,xz⟩:=zcells (HP.out.z (hbZ.trans (hb9.mono hbZ.size))))
  obtain⟨W,hW,⟨y0,y1,y2,y3,y4,y5⟩,r1,r2,r3⟩:=end_fail HP.out HM.out (hbZ.trans (hb9.mono hbZ.size)) 1;have hF:shootF M c=(M,failR 1,0):=by
   unfold shootF;rw[HX.out.2.2.1];simp only;rw[if_pos HNK.out.symm]
  rw[hF];clear x0 x1 x2 x3 x4 x5 xz hF;change bodyPost _ _ _ _ _ (st6 w9 (w.heap.size+1) (.int .i64 1) nilS nilS nilS (.int .i64 0) (.int .i64 0));rw[<-hW];exact bodyPost_ret (v:=failV 1) (by simp[results,results44,go_sem,y0,y1,y2,y3,y4,y5]) rfl ⟨_,X,rfl,r1,r2,rfl,nlr,rfl,r3⟩
 ·have hnk1:¬ nameOk c.tt=false:=by rw[<-HNK.out];simp
  have HN1:=hid hnk1;clear hnk1;go_upto_region 4 with(go_at_call 72;refine(HN.out _).mono ?_;rintro e w4 ⟨rfl,rfl⟩)
  cases hpn:posN (x.i.shots.map (·.name)) c.tt
  ·rw[posI_none hpn] at HB;have HPN:=hid hpn;clear hpn;go_upto_region 6 with(go_at_call 84;refine(HB.out _ hb3).mono ?_;rintro e w4 ⟨rfl,hb4⟩)
   have hb4:Below w2.heap.size w2 w4:=hb3.trans (hb4.mono hb3.size);have g4:=i4 w4 hb4;by_cases h8:8<=sn
   ·have t8:decide ((8:Int)<=(sn:Int))=true:=by simp;omega
    have H8:=hid h8;clear h8;go_upto_region 7 with(fail)
    have hbZ:=hb4
    go_wp2_with (go_at_call 21;refine(failed_any 9 _).mono ?_;rintro e w9 ⟨rfl,hb9⟩;obtain⟨x0,x1,x2,x3,x4,x5,xz⟩:=zcells (HP.out.z (hbZ.trans (hb9.mono hbZ.size))))
    obtain⟨W,hW,⟨y0,y1,y2,y3,y4,y5⟩,r1,r2,r3⟩:=end_fail HP.out HM.out (hbZ.trans (hb9.mono hbZ.size)) 9;have hF:shootF M c=(M,failR 9,0):=by
     unfold shootF;rw[HX.out.2.2.1];simp only;rw[if_neg HN1.out,HPN.out,if_neg (by simp),if_pos (by rw[<-HSN.out];exact H8.out)]
    rw[hF];clear x0 x1 x2 x3 x4 x5 xz hF;change bodyPost _ _ _ _ _ (st6 w9 (w.heap.size+1) (.int .i64 9) nilS nilS nilS (.int .i64 0) (.int .i64 0));rw[<-hW];exact bodyPost_ret (v:=failV 9) (by simp[results,results44,go_sem,y0,y1,y2,y3,y4,y5]) rfl ⟨_,X,rfl,r1,r2,rfl,nlr,rfl,r3⟩
   ·have t8:decide ((8:Int)<=(sn:Int))=false:=by simp;omega
    have H8:=hid h8;go_upto_region 8 with(fail)
    clear t8 hlen;obtain⟨hM4,hII⟩:MO w4 base mb M X/\II w4 base x.ib x.i x.x:=⟨HP.out.mo HM.out w4 (HP.out.wd _ hb4),(HP.out.mo HM.out w4 (HP.out.wd _ hb4)).a.i x HX.out.1⟩
    have HC:=hid (fun w' (hB:Below w4.heap.size w4 w')=>mclone60 (hII.own.g.block (hB.block _ hII.own.g.lt)));have g1:=i1 w4 hb4;have g3:=i3 w4 hb4;have g2':=f2 w4 hb4;have HQ:=jd3 hM4 hII hb4;clear hM4 hII g2;have HSH:=hid (fun w8 (hb8:Below w4.heap.size w4 w8)=>shA (w8:=w8) HQ.out.2.1 HSV.out HX.out.2.2.2.ns (Nat.le_trans hbase (HP.out.bel (HP.out.wd _ HQ.out.2.2)).size) (II.fp_nodup HQ.out.1 HX.out.1) hb8);have k1:∀ w',Below w4.heap.size w4 w'->w'.cell? ⟨x.ib,1,none⟩=some (.int .i64 x.i.size):=fun w' hB=>i1 w' (HQ.out.2.2.trans (hB.mono HQ.out.2.2.size));have k3:∀ w',Below w4.heap.size w4 w'->w'.cell? ⟨x.ib,3,none⟩=some (.map (some x.x.om)):=fun w' hB=>i3 w' (HQ.out.2.2.trans (hB.mono HQ.out.2.2.size));have k2:∀ w',Below w4.heap.size w4 w'->w'.cell? ⟨w.heap.size,2,none⟩=some (str c.tt):=fun w' hB=>f2 w' (HQ.out.2.2.trans (hB.mono HQ.out.2.2.size))
    have k4:∀ w',Below w4.heap.size w4 w'->w'.cell? ⟨x.ib,4,none⟩=some (.slice sa sn sc):=fun w' hB=>i4 w' (HQ.out.2.2.trans (hB.mono HQ.out.2.2.size));have hB0:Below w4.heap.size w4 w4.drew:=brf.drew;clear f0 f1 f2 lk i1 i3 i4 g1 g3 g2' g4;refine wp_region_K 18 (fun w'=>Below w4.heap.size w4 w') (by kernel_rfl) ?_;refine qk 0 ?_;try simp only[nk]
    refine qk 1 ?_;try simp only[nk]
    refine qk 2 ?_;try simp only[nk]
    refine qk 3 ?_;try simp only[nk]
    refine rq 4 ?_;try simp only[nk]
    refine qk 5 ?_;try simp only[nk]
    refine rq 6 ?_;try simp only[nk]
    refine qk 7 ?_;try simp only[nk]
    refine qk 8 ?_;try simp only[nk]
    refine qk 9 ?_;try simp only[nk]
    refine rq 10 ?_;try simp only[nk]
    refine qk 11 ?_;try simp only[nk]
    refine qk 12 ?_;try simp only[nk]
    refine qk 13 ?_;try simp only[nk]
    refine rq 14 ?_;try simp only[nk]
    refine wpAnyK_ready (rs:=[15]) (by kernel_rfl) (by simp) (AllReadyK.cons rfl (fun K hK=>?_) AllReadyK.nil);go_simp
    go_wp2_with (go_at_call 60;refine(HC.out _ brf.drew).mono ?_;rintro e w8 ⟨rfl,hgm8,hb8c,-⟩;have hb8:Below w4.heap.size w4 w8:=brf.drew.trans hb8c)
    refine hK.out _ _ (fun _=>hb8) ?_;clear hK K
    try simp only[nk]
    refine qk 16 ?_;try simp only[nk]
    obtain⟨hoA,hrowA,hl8,hl9,hbA,hz9,hc9⟩:=HSH.out w8 hb8 [str c.tt,.int .i64 x.i.size,.map (some w4.heap.size)];have hbA8:Below w4.heap.size w4 (w8.alloc (.cells #[str c.tt,.int .i64 x.i.size,.map (some w4.heap.size)] 90)):=hb8.alloc hb8.size _;refine wpAnyK_ready (rs:=[17]) (by kernel_rfl) (by simp) (AllReadyK.cons rfl (fun K hK=>?_) AllReadyK.nil);go_simp
    refine hK.out _ _ (fun _=>hb8.alloc hb8.size _) ?_;clear hK K
    try simp only[nk]
    refine wpAnyK_ready (rs:=[18]) (by kernel_rfl) (by simp) (AllReadyK.cons rfl (fun K hK=>?_) AllReadyK.nil);refine step_append_gn _ (by rfl) (.tmp 38) (.tmp 51) 85 90 _ 3 32 (by rfl) underlying85 info90 rfl (by decide) base _ (x.x.ss.map sxrow) (by rfl) hoA w8.heap.size 1 [str c.tt,.int .i64 x.i.size,.map (some w4.heap.size)] (by rfl) rfl hrowA (by simp[Value.oneCell']) hl8 hl9 hbA ?_;intro v9 w9 ho9 hg9 hb9 hq9;obtain⟨ga,gn,gc,rfl⟩:=ownG_sh ho9;have z9:=hz9 _ hg9;have c9:=hc9 _ hg9;refine hK.out _ _ (fun h=>by cases h) ?_;clear hK K
    try simp only[nk]
    refine qk 19 ?_;try simp only[nk]
    refine qk 20 ?_;try simp only[nk]
    refine wpAnyK_ready (rs:=[21]) (by kernel_rfl) (by simp) (AllReadyK.cons rfl (fun K hK=>?_) AllReadyK.nil);go_simp
    refine hK.out _ _ (fun h=>by cases h) ?_;clear hK K
    try simp only[nk]
    refine wpAnyK_done (by kernel_rfl) ?_ _;obtain⟨w10,hw10⟩:∃ z,z=w9.setCell ⟨x.ib,4,none⟩ (.slice ga gn gc):=⟨_,rfl⟩
    rw[<-hw10];have hSH:=shB HQ.out.1 HX.out.1 HSV.out HX.out.2.2.2 (by have:=HSN.out;have:=H8.out;omega) hb8 rfl hgm8 ho9 hg9 hq9;rw[<-hw10] at hSH;obtain⟨X',h9,hdm,hcl,hfr,hst4⟩:=hSH;have hst:Stp w2 w10 (X.fp mb) (X'.fp mb):=(Stp.of_below HQ.out.2.2 (X.fp mb)).trans hst4;have hF:shootF M c=({M with all:=setI M.all x.n {x.i with shots:=x.i.shots++[⟨c.tt,x.i.size,x.i.own⟩]}},{},0):=by
     unfold shootF;rw[HX.out.2.2.1];simp only;rw[if_neg HN1.out,HPN.out,if_neg (by simp),if_neg (by rw[<-HSN.out];exact H8.out),HX.out.2.1]
    have HF:=hid hF;have HE:=jd2 h9 hst;have HXX:=jd3 hdm hcl hfr;obtain⟨x0,x1,x2,x3,x4,x5,xz⟩:=zcells (HP.out.zs HM.out hst);clear hw10 h9 hst hF hdm hcl hfr hst4 z9 c9 ho9 hg9 hb9 hq9 hoA hrowA hl8 hl9 hbA hz9 hc9 hbA8 hgm8 hb8c hb8 k1 k2 k3 k4 hB0 h8;obtain⟨W,hW,⟨y0,y1,y2,y3,y4,y5⟩,r1,r2,r3⟩:=end_ok HP.out HM.out HE.out.1 HE.out.2;have HWW:=hid hW;have HR:=jd3 r1 r2 r3;clear hW r1 r2 r3
    go_wp2_with fail
    change bodyPost _ _ _ _ _ (st6 w10 (w.heap.size+1) (.int .i64 0) nilS nilS nilS (.int .i64 0) (.int .i64 0));rw[<-HWW.out,HF.out];clear x0 x1 x2 x3 x4 x5 xz;refine bodyPost_ret (v:=failV 0) (by simp[results,results44,go_sem,y0,y1,y2,y3,y4,y5]) rfl ?_
    first
     | exact⟨_,rfl,HR.out.1,_,HR.out.2.1,HXX.out.1,by rw[HXX.out.2.1];exact nlr,by rw[HXX.out.2.2];rfl,HR.out.2.2⟩
     | exact⟨_,_,rfl,HR.out.1,HR.out.2.1,HXX.out.1,by rw[HXX.out.2.1];exact nlr,by rw[HXX.out.2.2];rfl,HR.out.2.2⟩
  ·rename_i k;rw[posI_some hpn] at HB;have HPN:=hid hpn;clear hpn;go_upto_region 5 with(go_at_call 84;refine(HB.out _ hb3).mono ?_;rintro e w4 ⟨rfl,hb4⟩)
   have hbZ:=hb3.trans (hb4.mono hb3.size)
   go_wp2_with (go_at_call 21;refine(failed_any 5 _).mono ?_;rintro e w9 ⟨rfl,hb9⟩;obtain⟨x0,x1,x2,x3,x4,x5,xz⟩:=zcells (HP.out.z (hbZ.trans (hb9.mono hbZ.size))))
   obtain⟨W,hW,⟨y0,y1,y2,y3,y4,y5⟩,r1,r2,r3⟩:=end_fail HP.out HM.out (hbZ.trans (hb9.mono hbZ.size)) 5;have hF:shootF M c=(M,failR 5,0):=by
    unfold shootF;rw[HX.out.2.2.1];simp only;rw[if_neg HN1.out,HPN.out];rfl
   rw[hF];clear x0 x1 x2 x3 x4 x5 xz hF;change bodyPost _ _ _ _ _ (st6 w9 (w.heap.size+1) (.int .i64 5) nilS nilS nilS (.int .i64 0) (.int .i64 0));rw[<-hW];exact bodyPost_ret (v:=failV 5) (by simp[results,results44,go_sem,y0,y1,y2,y3,y4,y5]) rfl ⟨_,X,rfl,r1,r2,rfl,nlr,rfl,r3⟩
end Go.Proofs.YtgkabcaodnofnaaGreat
namespace Go.Md
def addBM (l:List BM)(n:Bs):Int×List BM:=if nameOk n=false then(1,[]) else if (posN (l.map (·.name)) n).isSome=true then(5,[]) else if 8<=l.length then(9,[]) else(0,l++[⟨n,true,[]⟩])
def dropBM (l:List BM)(n:Bs):Int×List BM:=match posN (l.map (·.name)) n with
 | none=>(4,[])
 | some k=>(0,l.eraseIdx k)
def modBM (l:List BM)(n:Bs)(G:BM->BM):Int×List BM:=match posN (l.map (·.name)) n with
 | none=>(4,[])
 | some k=>match l[k]? with
  | some b=>(0,l.set k (G b))
  | none=>(4,[])
def pvO:Option Nat->Int
 | some k=>(k:Int)
 | none => -1
theorem posI_pv (l:List Bs)(n:Bs):posI l n=pvO (posN l n):=by unfold posI pvO;split<;>simp_all
end Go.Md
namespace Go.Proofs.YtgkabcaodnofnaaGreat
open Go.RowKit Go.Mx Go.Md
theorem clo155 (t:Bs×Value×Value)(nm:Bs)(a:Nat)(w:World)(ha:w.heap[a]? = some (.cells #[str nm] 9 (0,0)))(ho:∀ u∈nrow t,u.oneCell'=true) :
  Calls prog 155 #[.agg #[str t.1,t.2.1,t.2.2],pt a] w fun e w'=>e = .returned (.bool (decide (t.1=nm)))/\Below w.heap.size w w':=by
 obtain⟨q,hq⟩:∃ q,q=decide (t.1=nm):=⟨_,rfl⟩
 rw[<-hq];have e:(t.1==nm)=q:=by rw[hq];exact Bool.beq_eq_decide_eq t.1 nm▸rfl
 obtain⟨t1,t2,t3⟩:=t;simp only at e ⊢;have hlt:=blk_lt ha;have c1:(w.alloc (.cells #[str t1,t2,t3] 108)).cell? ⟨a,0,none⟩=some (str nm):=by
  have:(w.alloc (.cells #[str t1,t2,t3] 108)).heap[a]? = w.heap[a]? := Below.heap_alloc w _ _ hlt;simp[World.cell?,this,ha]
 clear ha hq ho;cases q
 all_goals
  go_enter func155,ntmps155
  go_wp2_with fail
  go_ret
  exact⟨rfl,brf.alloc nlr _⟩
theorem idxb125 (v:Value)(ts:List (Bs×Value×Value))(nm:Bs)(a:Nat)(w:World)(h:NRows w v ts)(ha:w.heap[a]? = some (.cells #[str nm] 9 (0,0))) :
  Calls prog 125 #[v,.func (.func 155) #[] #[pt a]] w fun e w'=>e = .returned (.int .i64 (posI (ts.map (·.1)) nm))/\Below w.heap.size w w':=by
 obtain⟨hs,ho,hl⟩:=h;have hlen:=fun w'=>hs.len (P:=prog) (ty:=3) underlying43 w';rw[List.length_map] at hlen;have HS:=hid hs;have HO:=hid ho;have HA:=hid ha;obtain⟨oa,nn,c,rfl⟩:∃ oa n c,v = .slice oa n c:=by obtain⟨oa,c,rfl,_⟩:=hs;exact⟨_,_,_,rfl⟩
 clear hs ho ha;go_enter func125,ntmps125
 go_wp2_with fail
 go_loopw [8] (fun t wr=>∃ j:Nat,j<=ts.length/\t = .int .i64 j/\Below w.heap.size w wr/\Hid (nm∉(ts.map (·.1)).take j)) (fun t _=>ts.length-(intOf t).toNat)
 case atStart=>exact⟨0,by omega,rfl,brf,hid (by simp)⟩
 case round =>
  obtain⟨j,hj,rfl,hbl,HT⟩:=hrel;by_cases hlt:j<ts.length
  ·obtain⟨bb,bo,hbb,hia,hrow⟩:=(HS.out.below hbl nlr).addr (P:=prog) underlying43 size108 j (by simpa using hlt);obtain⟨t,ht⟩:∃ t,t=ts[j]:=⟨_,rfl⟩
   have hmem:t∈ts:=by rw[ht];exact List.getElem_mem _
   rw[show(ts.map nrow).getD j []=nrow t by rw[ht];simp[List.getD_eq_getElem?_getD,List.getElem?_map,List.getElem?_eq_getElem hlt]] at hrow;have hj? : (ts.map (·.1))[j]? = some t.1:=by rw[ht];simp[hlt]
   have ho:=HO.out t hmem;have hz:=hbl.size;have hc0:wr.cell? ⟨bb,bo,none⟩=some (str t.1):=by have:=hrow 0 (str t.1) rfl;simpa using this
   have hc1:wr.cell? ⟨bb,bo+1,none⟩=some t.2.1:=hrow 1 t.2.1 rfl;have hc2:wr.cell? ⟨bb,bo+2,none⟩=some t.2.2:=hrow 2 t.2.2 rfl;have HC:=hid (clo155 t nm a wr ((hbl.block a (blk_lt HA.out)).trans HA.out) ho);obtain⟨t1,t2,t3⟩:=t;simp only at hc0 hc1 hc2 HC hj?;obtain⟨q,hq⟩:∃ q,q=decide (t1=nm):=⟨_,rfl⟩
   rw[<-hq] at HC;have HQ:=jd2 hq hj?;have HB:=hid hbl;have ho2:t2.oneCell'=true/\t3.oneCell'=true:=⟨ho t2 (by simp),ho t3 (by simp)⟩
   obtain⟨ho2,ho3⟩:=ho2;clear hrow ht hbl hq hmem ho hj?
   go_wp2_with fail
   refine HC.out.mono ?_;rintro e w1 ⟨rfl,hb1⟩;have HB1:=hid (HB.out.trans (hb1.mono hz));clear hb1;cases q
   ·go_wp2_with fail
    go_roundw
    case rel =>
     refine⟨j+1,by omega,by go_num,HB1.out,hid ?_⟩;rw[List.take_add_one,HQ.out.2];intro hm;rcases List.mem_append.1 hm with hm|hm
     ·exact HT.out hm
     ·simp at hm;have:=HQ.out.1;rw[hm] at this;simp at this
    case measure=>simp[intOf];omega
   ·go_wp2
    go_ret
    have h1:t1=nm:=by have:=HQ.out.1;simpa using this.symm
    have h2:=HQ.out.2;rw[h1] at h2;exact⟨by rw[posI_some (posN_at h2 HT.out)];rfl,HB1.out⟩
  ·obtain rfl:j=ts.length:=by omega
   go_wp2
   go_ret
   have:=HT.out;rw[List.take_of_length_le (by simp)] at this;exact⟨by rw[posI_none (posN_none this)];rfl,hbl⟩
theorem map_erase' {α β:Type}(f:α->β):∀ (l:List α) (k:Nat),(l.eraseIdx k).map f=(l.map f).eraseIdx k
 | [],_=>rfl
 | a :: r,0=>rfl
 | a :: r,k+1=>by simp[map_erase' f r k]
section
variable {w w':World}{base:Nat}{v:Value}{l:List BM}{ps:List PB}
theorem BMS.nrows (h:BMS w base v l ps):NRows w v (ps.map fun p=>(p.b.name,.bool p.b.on,p.lv)):=by
 refine⟨?_,?_,?_⟩
 ·have:=h.o.slG;rw[List.map_map];exact this
 ·intro t ht u hu;obtain⟨p,hp,rfl⟩:=List.mem_map.1 ht;obtain⟨a,n,c,e⟩:=ownG_sh (h.s p hp);simp only[nrow,List.mem_cons,List.mem_nil_iff,or_false,e] at hu;rcases hu with rfl|rfl|rfl<;>rfl
 ·have:=h.pl;have:=h.n;rw[List.length_map];omega
theorem BMS.drop (h:BMS w base v l ps){w2:World}{v2:Value}(k:Nat)(ho:OwnG w2 base 108 3 v2 ((ps.map pbrow).eraseIdx k))(hk:∀ p∈ps,OwnG w2 base 111 2 p.lv (p.b.l.map spC)):BMS w2 base v2 (l.eraseIdx k) (ps.eraseIdx k) where
 e:=by rw[h.e,map_erase']
 o:=by rw[map_erase'];exact ho
 s:=fun p hp=>hk p (List.mem_of_mem_eraseIdx hp)
 n:=Nat.le_trans (List.length_eraseIdx_le _ _) h.n
 k:=fun b hb=>h.k b (List.mem_of_mem_eraseIdx hb)
theorem place118 (h:BMS w base v l ps)(n:Bs):Calls prog 118 #[v,str n] w fun e w'=>e = .returned (.int .i64 (posI (l.map (·.name)) n))/\Below w.heap.size w w':=by
 obtain⟨sa,sn,sc,hsv⟩:=ownG_sh h.o;have hb1:Below w.heap.size w (w.alloc (.cells #[str n] 9)):=brf.alloc nlr _;have HI:=hid (idxb125 _ _ n w.heap.size (w.alloc (.cells #[str n] 9)) (h.below hb1).nrows (alloc_new w _));rw[hsv,List.map_map] at HI;have HE:=hid (show l.map (·.name)=_ from by rw[h.e,List.map_map]);have HB:=hid hb1;rw[hsv];clear h hsv hb1;go_enter func118,ntmps118
 go_wp2_with (go_at_call 125;refine HI.out.mono ?_;rintro e w5 ⟨rfl,hb5⟩)
 go_ret
 rw[HE.out];exact⟨rfl,HB.out.trans (hb5.mono HB.out.size)⟩
theorem add88 (h:BMS w base v l ps)(hbase:base<=w.heap.size)(n:Bs):Calls prog 88 #[v,str n] w fun e w'=>∃ v' ps',e = .returned (.tuple #[v',.int .i64 (addBM l n).1])/\BMS w' base v' (addBM l n).2 ps'/\Below w.heap.size w w':=by
 have HPL:=hid (fun w' (hB:Below w.heap.size w w')=>place118 (h.below hB) n);have HO:=hid (fun w' (hB:Below w.heap.size w w')=>own_any (h.below hB) (Nat.le_trans hbase hB.size));have HNM:=hid (fun w'=>name_any n w');have hlen:=h.len;have H:=jd2 h hbase;obtain⟨sa,sn,sc,hsv⟩:=ownG_sh h.o;rw[hsv] at HPL HO hlen ⊢;obtain⟨nk,hnk⟩:∃ q,q=nameOk n:=⟨_,rfl⟩
 rw[<-hnk] at HNM;have HNK:=hid hnk;obtain⟨L,hL⟩:∃ q,q=l.length:=⟨_,rfl⟩
 rw[<-hL] at hlen;have HL:=hid hL;clear h hbase hsv hnk hL;cases nk
 ·have hF:addBM l n=(1,[]):=by unfold addBM;rw[if_pos HNK.out.symm]
  rw[hF];go_enter func88,ntmps88
  go_wp2_with (go_at_call 72;refine(HNM.out _).mono ?_;rintro e w5 ⟨rfl,rfl⟩)
  go_ret2
  exact⟨_,[],rfl,BMS.nil _ _,brf⟩
 ·cases hpn:posN (l.map (·.name)) n with
  | some k =>
   have hF:addBM l n=(5,[]):=by unfold addBM;rw[if_neg (by rw[<-HNK.out];simp),hpn];rfl
   rw[hF];rw[posI_some hpn] at HPL;clear hpn hF;go_enter func88,ntmps88
   go_wp2_with (first
    | (go_at_call 72;refine(HNM.out _).mono ?_;rintro e w5 ⟨rfl,rfl⟩)
    | (go_at_call 118;refine(HPL.out _ brf).mono ?_;rintro e w5 ⟨rfl,hb5⟩))
   go_ret2
   exact⟨_,[],rfl,BMS.nil _ _,hb5⟩
  | none =>
   rw[posI_none hpn] at HPL;have HPN:=hid hpn;clear hpn;by_cases h8:8<=L
   ·have hF:addBM l n=(9,[]):=by unfold addBM;rw[if_neg (by rw[<-HNK.out];simp),HPN.out,if_neg (by simp),if_pos (by rw[<-HL.out];exact h8)]
    rw[hF];have t8:decide ((8:Int)<=(L:Int))=true:=by simp;omega
    clear h8 hF;go_enter func88,ntmps88
    go_wp2_with (first
     | (go_at_call 72;refine(HNM.out _).mono ?_;rintro e w5 ⟨rfl,rfl⟩)
     | (go_at_call 118;refine(HPL.out _ brf).mono ?_;rintro e w5 ⟨rfl,hb5⟩))
    go_ret2
    exact⟨_,[],rfl,BMS.nil _ _,hb5⟩
   ·have hF:addBM l n=(0,l++[⟨n,true,[]⟩]):=by unfold addBM;rw[if_neg (by rw[<-HNK.out];simp),HPN.out,if_neg (by simp),if_neg (by rw[<-HL.out];exact h8)]
    rw[hF];have t8:decide ((8:Int)<=(L:Int))=false:=by simp;omega
    have H8:=jd2 h8 HL.out;clear h8 hF;go_enter func88,ntmps88
    go_wp2_with (first
     | (go_at_call 72;refine(HNM.out _).mono ?_;rintro e w5 ⟨rfl,rfl⟩)
     | (go_at_call 118;refine(HPL.out _ brf).mono ?_;rintro e w5 ⟨rfl,hb5⟩)
     | (go_at_call 115;refine(HO.out _ hb5).mono ?_;rintro e w6 ⟨v6,ps6,rfl,hB6,hnew6,hb6⟩;obtain⟨ya,yn,yc,rfl⟩:=ownG_sh hB6.o;have hbA:Below w6.heap.size w6 (w6.alloc (.cells #[str n,.bool true,.slice none 0 0] 108)):=brf.alloc nlr _;have hoA:=(hB6.below hbA).o;have hcl:∀ (j:Nat) (u:Value),([str n,.bool true,.slice none 0 0]:List Value)[j]? = some u->(w6.alloc (.cells #[str n,.bool true,.slice none 0 0] 108)).cell? ⟨w6.heap.size,j,none⟩=some u:=(fun j u hu=>row_cells w6 _ 108 j u hu);have hbs:base<=(w6.alloc (.cells #[str n,.bool true,.slice none 0 0] 108)).heap.size:=Nat.le_trans (Nat.le_trans H.out.2 (Nat.le_trans hb5.size hb6.size)) hbA.size;have hln:(ps6.map pbrow).length<=100:=(by rw[List.length_map,hB6.pl];exact hB6.n))
     | (at_builtin;refine append_g _ rfl _ _ 43 108 _ 3 48 rfl underlying43 info108 rfl (by decide) base _ (ps6.map pbrow) rfl hoA w6.heap.size 1 [str n,.bool true,.slice none 0 0] rfl rfl hcl (by intro u hu;simp at hu;rcases hu with rfl|rfl|rfl<;>rfl) (by omega) (by omega) hbs ?_;intro v9 w9 ho9 hg9 hb9;obtain⟨ga,gn,gc,rfl⟩:=ownG_sh ho9))
    go_ret2
    have hk9:Kept w6 w9 (fun b=>(Value.slice ya yn yc).ownBlock≠some b):=((Kept.of_below (N:=fun _=>True) hbA fun _ h _=>h).imp fun _ _=>trivial).trans (Kept.grown hg9 fun k hk hn=>hn hk);have hb69:Below w.heap.size w w9:=by
     have h1:Below w.heap.size w (w6.alloc (.cells #[str n,.bool true,.slice none 0 0] 108)):=(hb5.trans (hb6.mono hb5.size)).trans (hbA.mono (Nat.le_trans hb5.size hb6.size));exact h1.grown hg9 h1.size fun k hk=>by have:=hnew6 k hk;have:=hb5.size;omega
    refine⟨_,ps6++[⟨⟨n,true,[]⟩,.slice none 0 0⟩],rfl,⟨?_,?_,fun p hp=>?_,?_,fun b hb=>?_⟩,hb69⟩
    ·rw[List.map_append,<-hB6.e];rfl
    ·rw[List.map_append];exact ho9
    ·rcases List.mem_append.1 hp with h1|h1
     ·exact(hB6.s p h1).kept hk9 fun q hq e=>by
       obtain⟨c1,f1,h2⟩:=ownG_type hB6.o q e;obtain⟨c2,f2,h3⟩:=ownG_type (hB6.s p h1) q hq;rw[h2] at h3;cases h3
     ·have h2:=List.mem_singleton.1 h1;subst h2;exact OwnG.nil _ _ _ _
    ·rw[List.length_append];have:=H8.out;simp only[List.length_cons,List.length_nil];omega
    ·rcases List.mem_append.1 hb with h1|h1
     ·exact H.out.1.k b h1
     ·have h2:=List.mem_singleton.1 h1;subst h2;simp
theorem drop89 (h:BMS w base v l ps)(hbase:base<=w.heap.size)(n:Bs):Calls prog 89 #[v,str n] w fun e w'=>∃ v' ps',e = .returned (.tuple #[v',.int .i64 (dropBM l n).1])/\BMS w' base v' (dropBM l n).2 ps'/\Below w.heap.size w w':=by
 have HPL:=hid (place118 h n);have HO:=hid (fun w' (hB:Below w.heap.size w w')=>own_any (h.below hB) (Nat.le_trans hbase hB.size));have H:=jd2 h hbase;obtain⟨sa,sn,sc,hsv⟩:=ownG_sh h.o;rw[hsv] at HPL HO ⊢;clear h hbase hsv;cases hpn:posN (l.map (·.name)) n with
 | none =>
  have hF:dropBM l n=(4,[]):=by unfold dropBM;rw[hpn]
  rw[hF];rw[posI_none hpn] at HPL;clear hpn hF;go_enter func89,ntmps89
  go_wp2_with (go_at_call 118;refine HPL.out.mono ?_;rintro e w5 ⟨rfl,hb5⟩)
  go_ret2
  exact⟨_,[],rfl,BMS.nil _ _,hb5⟩
 | some k =>
  have hF:dropBM l n=(0,l.eraseIdx k):=by unfold dropBM;rw[hpn]
  rw[hF];rw[posI_some hpn] at HPL;have hk:=posN_lt hpn;rw[List.length_map] at hk;have HK:=hid hk;have hwr:IntKind.i64.wrap ((k:Int)+1)=(k:Int)+1:=IntWalk.i64_in _ (by have:=H.out.1.n;omega);clear hpn hF hk;go_enter func89,ntmps89
  go_upto_region 4 with(go_at_call 118;refine HPL.out.mono ?_;rintro e w5 ⟨rfl,hb5⟩)
  go_wp2_with fail
  refine(HO.out _ hb5).mono ?_;rintro e w6 ⟨v6,ps6,rfl,hB6,hnew6,hb6⟩;have hpl:k<ps6.length:=by rw[hB6.pl];exact HK.out
  obtain⟨gb,n6,c6,rfl,_,_,_⟩:=hB6.place (List.getElem?_eq_getElem hpl);have hn6:n6=ps6.length:=by have:=hB6.o.parts.1;rwa[List.length_map] at this
  have HD:=hid (del119 hB6.o k (by rw[List.length_map];exact hpl) (fun r hr=>by
   obtain⟨p,hp,rfl⟩:=List.mem_map.1 hr;exact pbrow_one p (ownG_sh (hB6.s p hp))) (by rw[List.length_map,hB6.pl];have:=hB6.n;omega))
  have H6:=jd4 hB6 hnew6 hb6 hb5;clear hB6 hnew6 hb6 hb5 hpl hn6
  go_wp2_with (go_at_call 119;refine HD.out.mono ?_;rintro e w7 ⟨rfl,ho7,hk7⟩)
  go_ret2
  obtain⟨hB6,hnew6,hb6,hb5⟩:=H6.out;have hgb:w5.heap.size<=gb:=hnew6 gb rfl;refine⟨_,ps6.eraseIdx k,rfl,hB6.drop k ho7 fun p hp=>(hB6.s p hp).kept hk7 fun q hq e=>?_,?_⟩
  ·obtain⟨c1,f1,h2⟩:=ownG_type hB6.o gb rfl;obtain⟨c2,f2,h3⟩:=ownG_type (hB6.s p hp) q hq;rw[e,h2] at h3;cases h3
  ·have h1:Below w.heap.size w w6:=hb5.trans (hb6.mono hb5.size);refine h1.trans ⟨hk7.st.1,hk7.st.2.1,hk7.st.2.2,hk7.size,fun q hq=>?_⟩;have:=hb5.size;exact hk7.block q (by have:=h1.size;omega) (by omega)
end
end Go.Proofs.YtgkabcaodnofnaaGreat
