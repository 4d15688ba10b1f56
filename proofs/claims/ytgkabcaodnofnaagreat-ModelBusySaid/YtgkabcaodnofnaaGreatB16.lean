import Derived.Test.YtgkabcaodnofnaaGreatB15
import Derived.Test.YtgkabcaodnofnaaGreatB09
import Derived.Test.YtgkabcaodnofnaaGreatB07
import Derived.Deep.MidRow
import Derived.Deep.RegionHeld
set_option linter.unusedSimpArgs false
set_option linter.unusedVariables false
set_option maxRecDepth 100000
set_option maxHeartbeats 2000000
open Go.Proofs.Tryz
namespace Go.Proofs.YtgkabcaodnofnaaGreat
open Go.RowKit Go.Mx Go.Md
variable {w w' w2 w5:World}{base mb:Nat}{M M':MM}{X X':MX}{c:Cm}{dv:Value}
abbrev ccells (c:Cm)(dv:Value):Array Value := #[.int .i64 c.kind,str c.name,str c.tt,.int .i64 c.a,.int .i64 c.n,.int .i64 c.m,dv]
structure Pro (w w2:World)(c:Cm)(dv:Value):Prop where
 b:Below w.heap.size w w2
 s:w2.heap.size=w.heap.size+2
 q1:w2.heap[w.heap.size]? = some (.cells (ccells c dv) 25 (0,0))
 q2:w2.heap[w.heap.size+1]? = some (.cells zrep 34 (0,0))
theorem pro_of (w:World)(c:Cm)(dv:Value):∃ w2,w2=(w.alloc (.cells #[.int .i64 c.kind,str c.name,str c.tt,.int .i64 c.a,.int .i64 c.n,.int .i64 c.m,dv] 25)).alloc (.cells #[.int .i64 0,.slice none 0 0,.slice none 0 0,.slice none 0 0,.int .i64 0,.int .i64 0] 34)/\Pro w w2 c dv:=by
 refine⟨_,rfl,?_,by simp,?_,?_⟩
 ·exact(brf.alloc nlr _).alloc (by simp) _
 ·have hb:Below (w.heap.size+1) (w.alloc (.cells (ccells c dv) 25)) ((w.alloc (.cells (ccells c dv) 25)).alloc (.cells zrep 34)):=brf.alloc (by simp) _;exact(hb.block _ (by omega)).trans (alloc_new w _)
 ·have:=alloc_new (w.alloc (.cells (ccells c dv) 25)) (.cells zrep 34);rw[show(w.alloc (.cells (ccells c dv) 25)).heap.size=w.heap.size+1 by simp] at this;exact this
theorem Pro.bel (P:Pro w w2 c dv)(hB:Below (w.heap.size+1) w2 w'):Below w.heap.size w w':=P.b.trans (hB.mono (by omega))
theorem Pro.mo (P:Pro w w2 c dv)(h:MO w base mb M X):∀ w',Below (w.heap.size+1) w2 w'->MO w' base mb M X:=fun w' hB=>h.below (P.bel hB)
theorem Pro.cb (P:Pro w w2 c dv):∀ (j:Nat) v,(ccells c dv)[j]? = some v->∀ w',Below (w.heap.size+1) w2 w'->w'.cell? ⟨w.heap.size,j,none⟩=some v:=fun j v hv w' hB=>by
 rw[World.cell?_of_block (hB.block w.heap.size (by omega))];simp only[World.cell?,P.q1];exact hv
theorem Pro.wd (P:Pro w w2 c dv):∀ w',Below w2.heap.size w2 w'->Below (w.heap.size+1) w2 w':=fun w' h=>h.mono (by have:=P.s;omega)
theorem Pro.c0(P:Pro w w2 c dv):∀ w',Below w2.heap.size w2 w'->w'.cell? ⟨w.heap.size,0,none⟩=some (.int .i64 c.kind):=fun w' hB=>P.cb 0 _ rfl w' (P.wd _ hB)
theorem Pro.c1(P:Pro w w2 c dv):∀ w',Below w2.heap.size w2 w'->w'.cell? ⟨w.heap.size,1,none⟩=some (str c.name):=fun w' hB=>P.cb 1 _ rfl w' (P.wd _ hB)
theorem Pro.c2(P:Pro w w2 c dv):∀ w',Below w2.heap.size w2 w'->w'.cell? ⟨w.heap.size,2,none⟩=some (str c.tt):=fun w' hB=>P.cb 2 _ rfl w' (P.wd _ hB)
theorem Pro.c3(P:Pro w w2 c dv):∀ w',Below w2.heap.size w2 w'->w'.cell? ⟨w.heap.size,3,none⟩=some (.int .i64 c.a):=fun w' hB=>P.cb 3 _ rfl w' (P.wd _ hB)
theorem Pro.c4(P:Pro w w2 c dv):∀ w',Below w2.heap.size w2 w'->w'.cell? ⟨w.heap.size,4,none⟩=some (.int .i64 c.n):=fun w' hB=>P.cb 4 _ rfl w' (P.wd _ hB)
theorem Pro.m0(P:Pro w w2 c dv)(h:MO w base mb M X):∀ w',Below w2.heap.size w2 w'->w'.cell? ⟨mb,0,none⟩=some (.map (some X.am)):=fun w' hB=>(P.mo h w' (P.wd _ hB)).cells.1
theorem Pro.l0(P:Pro w w2 c dv)(h:MO w base mb M X){x:XI}(hx:x∈X.xs)(hn:x.n=c.name):∀ w',Below w2.heap.size w2 w'->(Instr.lookup 57 (.map (some X.am)) (str c.name) false).run prog w' = .ok (pt x.ib) w':=fun w' hB=>by rw[<-hn];exact(P.mo h w' (P.wd _ hB)).a.atx hx
theorem Pro.i0(P:Pro w w2 c dv)(h:MO w base mb M X){x:XI}(hx:x∈X.xs):∀ w',Below w2.heap.size w2 w'->w'.cell? ⟨x.ib,0,none⟩=some (.int .i64 x.i.cl):=fun w' hB=>((P.mo h w' (P.wd _ hB)).a.i x hx).cells.1
theorem Pro.i1(P:Pro w w2 c dv)(h:MO w base mb M X){x:XI}(hx:x∈X.xs):∀ w',Below w2.heap.size w2 w'->w'.cell? ⟨x.ib,1,none⟩=some (.int .i64 x.i.size):=fun w' hB=>((P.mo h w' (P.wd _ hB)).a.i x hx).cells.2.1
theorem Pro.i2(P:Pro w w2 c dv)(h:MO w base mb M X){x:XI}(hx:x∈X.xs):∀ w',Below w2.heap.size w2 w'->w'.cell? ⟨x.ib,2,none⟩=some (str x.i.back):=fun w' hB=>((P.mo h w' (P.wd _ hB)).a.i x hx).cells.2.2.1
theorem Pro.i3(P:Pro w w2 c dv)(h:MO w base mb M X){x:XI}(hx:x∈X.xs):∀ w',Below w2.heap.size w2 w'->w'.cell? ⟨x.ib,3,none⟩=some (.map (some x.x.om)):=fun w' hB=>((P.mo h w' (P.wd _ hB)).a.i x hx).cells.2.2.2.1
theorem Pro.z (P:Pro w w2 c dv)(hB:Below w2.heap.size w2 w'):w'.heap[w.heap.size+1]? = some (.cells zrep 34 (0,0)):=(hB.block _ (by have:=P.s;omega)).trans P.q2
theorem has_x (h:MO w base mb M X)(hC:CIn w (X.fp mb) c dv)(hp:HasN M c):∃ x∈X.xs,x.n=c.name/\fnd M.all c.name=some x.i:=by
 rcases h.a.at c.name (Nat.le_trans hC.nl (by unfold maxLen;omega)) with⟨h1,_⟩|⟨x,hx,hxn,h1,_⟩
 ·unfold HasN at hp;rw[h1] at hp;cases hp
 ·exact⟨x,hx,hxn,h1⟩
theorem II.not34 {w:World}{base ib:Nat}{i:IM}{x:IX}(h:II w base ib i x):∀ b∈x.fp ib,∀ c f,w.heap[b]?≠some (.cells c 34 f):=by
 intro b hb c f hc;unfold IX.fp at hb;simp only[List.mem_cons,List.mem_append,List.mem_map,Option.mem_toList] at hb;rcases hb with rfl|rfl|⟨s,hs,rfl⟩|e
 ·rw[h.ck] at hc;cases hc
 ·obtain⟨es,k,h1⟩:=h.own.g.isMap;rw[h1] at hc;cases hc
 ·obtain⟨es,k,h1⟩:=(h.sm s hs).g.isMap;rw[h1] at hc;cases hc
 ·obtain⟨c9,f9,h9⟩:=ownG_type h.so b e;rw[h9] at hc;cases hc
theorem AM.not34 {am:Nat}{S:IL}{xs:List XI}(h:AM w base am S xs):∀ b∈fpA am xs,∀ c f,w.heap[b]?≠some (.cells c 34 f):=by
 intro b hb c f hc;unfold fpA at hb;rcases List.mem_cons.1 hb with rfl|h1
 ·obtain⟨es,k,h1⟩:=h.g.isMap;rw[h1] at hc;cases hc
 ·obtain⟨x,hx,h2⟩:=List.mem_flatMap.1 h1;exact(h.i x hx).not34 b h2 c f hc
theorem MO.not34 (h:MO w base mb M X):∀ b∈X.fp mb,∀ c f,w.heap[b]?≠some (.cells c 34 f):=by
 intro b hb c f hc;rw[MX.mem] at hb;rcases hb with rfl|rfl|e|e|e|e
 ·rw[h.ck] at hc;cases hc
 ·obtain⟨es,k,h1⟩:=h.h.isMap;rw[h1] at hc;cases hc
 ·obtain⟨es,k,h1⟩:=(h.d b e).isMap;rw[h1] at hc;cases hc
 ·obtain⟨c9,f9,h9⟩:=ownG_type h.f b e;rw[h9] at hc;cases hc
 ·exact h.a.not34 b e c f hc
 ·exact h.k.not34 b e c f hc
def Lies (W:World)(rb:Nat)(v0 v1 v2 v3 v4 v5:Value):Prop:=W.cell? ⟨rb,0,none⟩=some v0/\W.cell? ⟨rb,1,none⟩=some v1/\W.cell? ⟨rb,2,none⟩=some v2/\W.cell? ⟨rb,3,none⟩=some v3/\W.cell? ⟨rb,4,none⟩=some v4/\W.cell? ⟨rb,5,none⟩=some v5
theorem st6_lies {rb:Nat}{C:Array Value}{t:TypeId}(v0 v1 v2 v3 v4 v5:Value)(h:w.heap[rb]? = some (.cells C t (0,0)))(hC:C.size=6):Lies (st6 w rb v0 v1 v2 v3 v4 v5) rb v0 v1 v2 v3 v4 v5 :=
 ⟨st6_cell v0 v1 v2 v3 v4 v5 h hC 0 _ rfl,st6_cell v0 v1 v2 v3 v4 v5 h hC 1 _ rfl,st6_cell v0 v1 v2 v3 v4 v5 h hC 2 _ rfl,st6_cell v0 v1 v2 v3 v4 v5 h hC 3 _ rfl,st6_cell v0 v1 v2 v3 v4 v5 h hC 4 _ rfl,st6_cell v0 v1 v2 v3 v4 v5 h hC 5 _ rfl⟩
theorem end_same (P:Pro w w2 c dv)(h:MO w base mb M X)(hB:Below w2.heap.size w2 w5){v0 v1 v2 v3 v4 v5:Value}{p:Rp}(hr:RepOK w5 w.heap.size (.agg #[v0,v1,v2,v3,v4,v5]) p) :
  ∃ W,W=st6 w5 (w.heap.size+1) v0 v1 v2 v3 v4 v5/\Lies W (w.heap.size+1) v0 v1 v2 v3 v4 v5/\RepOK W w.heap.size (.agg #[v0,v1,v2,v3,v4,v5]) p/\MO W base mb M X/\Stp w W (X.fp mb) (X.fp mb):=by
 have hz:=P.z hB;have h9:=reply_same h (P.bel (P.wd _ hB)) hz (by omega) hr;exact⟨_,rfl,st6_lies _ _ _ _ _ _ hz rfl,h9.1,h9.2.1,h9.2.2⟩
theorem end_fail (P:Pro w w2 c dv)(h:MO w base mb M X)(hB:Below w2.heap.size w2 w5)(e:Int) :
  ∃ W,W=st6 w5 (w.heap.size+1) (.int .i64 e) nilS nilS nilS (.int .i64 0) (.int .i64 0)/\Lies W (w.heap.size+1) (.int .i64 e) nilS nilS nilS (.int .i64 0) (.int .i64 0)/\RepOK W w.heap.size (failV e) (failR e)/\MO W base mb M X/\Stp w W (X.fp mb) (X.fp mb) :=
 end_same P h hB (RepOK.fail w5 w.heap.size e)
theorem Pro.zs (P:Pro w w2 c dv)(h:MO w base mb M X)(hs:Stp w2 w5 (X.fp mb) (X'.fp mb)):w5.heap[w.heap.size+1]? = some (.cells zrep 34 (0,0)) :=
 (hs.k.block _ (by have:=P.s;omega) fun hm=>by have:=h.lt _ hm;omega).trans P.q2
theorem end_ok (P:Pro w w2 c dv)(h:MO w base mb M X)(h5:MO w5 base mb M' X')(hs:Stp w2 w5 (X.fp mb) (X'.fp mb)) :
  ∃ W,W=st6 w5 (w.heap.size+1) (.int .i64 0) nilS nilS nilS (.int .i64 0) (.int .i64 0)/\Lies W (w.heap.size+1) (.int .i64 0) nilS nilS nilS (.int .i64 0) (.int .i64 0)/\RepOK W w.heap.size (failV 0) {}/\MO W base mb M' X'/\Stp w W (X.fp mb) (X'.fp mb):=by
 have hz:=P.zs h hs;have h9:=reply_ok (w:=w) h5 ((Stp.of_below P.b (X.fp mb)).trans hs) hz (by omega) fun hm=>h5.not34 _ hm _ _ hz;exact⟨_,rfl,st6_lies _ _ _ _ _ _ hz rfl,h9.1,h9.2.1,h9.2.2⟩
theorem repl_nodup2 {x y:XI}{B:Nat}(hy:(y.x.fp y.ib).Nodup)(hsub:∀ b∈y.x.fp y.ib,b∈x.x.fp x.ib\/B<=b):∀ (xs:List XI),x∈xs->x.n=y.n->(xs.map (·.n)).Nodup->(xs.flatMap fun x=>x.x.fp x.ib).Nodup->(∀ b∈xs.flatMap fun x=>x.x.fp x.ib,b<B)->
  ((repl xs y).flatMap fun x=>x.x.fp x.ib).Nodup
 | [],hx,_,_,_,_=>by cases hx
 | a :: r,hx,hxy,hn,hf,hB=>by
  rw[List.map_cons,List.nodup_cons] at hn;rw[List.flatMap_cons,List.nodup_append] at hf;obtain⟨ha,hr,hd⟩:=hf;have hBr:∀ b∈r.flatMap fun x=>x.x.fp x.ib,b<B:=fun b hb=>hB b (by rw[List.flatMap_cons];exact List.mem_append_right _ hb);have hBa:∀ b∈a.x.fp a.ib,b<B:=fun b hb=>hB b (by rw[List.flatMap_cons];exact List.mem_append_left _ hb);show(((if a.n=y.n then y else a) :: repl r y).flatMap fun x=>x.x.fp x.ib).Nodup;rw[List.flatMap_cons,List.nodup_append];by_cases e:a.n=y.n
  ·rw[if_pos e];have hxa:x=a:=by
    rcases List.mem_cons.1 hx with h1|h1
    ·exact h1
    ·exact absurd (List.mem_map.2 ⟨x,h1,hxy.trans e.symm⟩) hn.1
   subst hxa;have hrr:repl r y=r:=repl_not fun h1=>by rw[<-e] at h1;exact hn.1 h1
   rw[hrr];refine⟨hy,hr,fun b hb q hq e2=>?_⟩;subst e2;rcases hsub b hb with h1|h1
   ·exact hd b h1 b hq rfl
   ·have:=hBr b hq;omega
  ·rw[if_neg e];have hxr:x∈r:=by
    rcases List.mem_cons.1 hx with h1|h1
    ·exact absurd (h1▸hxy) e
    ·exact h1
   refine⟨ha,repl_nodup2 hy hsub r hxr hxy hn.2 hr hBr,fun b hb q hq e2=>?_⟩;subst e2;rcases repl_fp hq with h1|h1
   ·exact hd b hb b h1 rfl
   ·rcases hsub b h1 with h2|h2
    ·exact hd b hb b (List.mem_flatMap.2 ⟨x,hxr,h2⟩) rfl
    ·have:=hBa b hb;omega
theorem MO.img (h:MO w base mb M X){x:XI}(hx:x∈X.xs)(hk:Kept w w' (·∉x.x.fp x.ib)){i':IM}{x':IX}(hII:II w' base x.ib i' x')(hok:IOk i')(hf:∀ b∈x'.fp x.ib,b∈x.x.fp x.ib\/w.heap.size<=b)(hn:(x'.fp x.ib).Nodup) :
  MO w' base mb {M with all:=setI M.all x.n i'} {X with xs:=repl X.xs ⟨x.n,i',x.ib,x'⟩}/\Stp w w' (X.fp mb) (MX.fp mb {X with xs:=repl X.xs ⟨x.n,i',x.ib,x'⟩}):=by
 have hap:=Ap.of h.nd;have hfl:=(List.nodup_cons.1 hap.na)
 have hA:=h.a.set hap.na hx hk (fun b _ hb=>hb) (fun b c t f hb h3 hm=>by
  have:=(h.a.i x hx).typ b hm c t f hb;rcases h3 with h|h|h<;>simp[h] at this) hII hok
 refine h.setAll hA (hk.imp fun b hb hm=>hb (fpA_mem hx b hm)) (fun b hb=>?_) ?_
 ·unfold fpA at hb;rcases List.mem_cons.1 hb with h1|h1
  ·exact .inl (h1▸List.mem_cons_self ..)
  ·rcases repl_fp h1 with h2|h2
   ·exact .inl (List.mem_cons_of_mem _ h2)
   ·exact(hf b h2).imp (fpA_mem hx b) id
 ·unfold fpA;rw[List.nodup_cons];refine⟨fun hm=>?_,repl_nodup2 (x:=x) (y:=⟨x.n,i',x.ib,x'⟩) (B:=w.heap.size) hn hf X.xs hx rfl h.a.names hfl.2 fun b hb=>h.a.lt b (List.mem_cons_of_mem _ hb)⟩;rcases repl_fp hm with h2|h2
  ·exact hfl.1 h2
  ·rcases hf _ h2 with h3|h3
   ·exact AM.am_not hap.na hx h3
   ·have:=h.a.g.lt;omega
end Go.Proofs.YtgkabcaodnofnaaGreat
namespace Go.Md
def checkF (M:MM)(c:Cm):MM×Rp×Nat:=(M,{},0)
def flushF (M:MM)(c:Cm):MM×Rp×Nat:=(flushedM M c.name,{},flushedN M c.name)
end Go.Md
namespace Go.Proofs.YtgkabcaodnofnaaGreat
open Go.RowKit Go.Mx Go.Md
theorem check_any:CmdOk 54 (fun _ _=>True) checkF:=by
 intro w base mb M X c dv h hM hbase hfr hC hp;obtain⟨da,dn,dc,rfl⟩:=slB_shape hC.d.slB;obtain⟨w2,hw2,P⟩:=pro_of w c (.slice da dn dc);obtain⟨W,hW,HL,e1,e2,e3⟩:=end_fail P h brf 0;obtain⟨y0,y1,y2,y3,y4,y5⟩:=HL;obtain⟨x0,x1,x2,x3,x4,x5,xz⟩:=zcells P.q2;have HW:=hid hw2;have HE:=hid hW;have HR:=jd3 e1 e2 e3;clear e1 e2 e3 hw2 hW P hM hfr hC h hp;go_enter func54,ntmps54
 go_upto_region 1 with(fail)
 rw[<-HW.out]
 go_wp2_with fail
 change bodyPost _ _ _ _ _ (st6 w2 (w.heap.size+1) (.int .i64 0) nilS nilS nilS (.int .i64 0) (.int .i64 0));rw[<-HE.out];clear x0 x1 x2 x3 x4 x5 xz;exact bodyPost_ret (v:=failV 0) (by simp[results,results54,go_sem,y0,y1,y2,y3,y4,y5]) rfl ⟨_,X,rfl,HR.out.1,HR.out.2.1,rfl,nlr,rfl,HR.out.2.2⟩
theorem flushCmd_any:CmdOk 43 HasN flushF:=by
 intro w base mb M X c dv h hM hbase hfr hC hp;obtain⟨da,dn,dc,rfl⟩:=slB_shape hC.d.slB;obtain⟨x,hx,hxn,hfx⟩:=has_x h hC hp;obtain⟨w2,hw2,P⟩:=pro_of w c (.slice da dn dc);have f1:=P.cb 1 _ rfl w2 brf;have HF:=hid (flushed_any (P.mo h w2 brf) (Nat.le_trans hbase P.b.size) hx (by rw[h.k.len];have:=hM.kl;omega) (by omega));rw[hxn] at HF;have HW:=hid hw2;have HR:=jd2 P h;clear hw2 P hM hfr hC h hp hfx hxn;go_enter func43,ntmps43
 go_upto_region 1 with(fail)
 rw[<-HW.out];go_upto_region 2 with(go_at_call 76;refine HF.out.mono ?_;rintro e w5 ⟨rfl,X5,h5,ham,hxs,hks,hfr5,hdm,hcl,hst⟩)
 obtain⟨P,h⟩:=HR.out;obtain⟨x0,x1,x2,x3,x4,x5,xz⟩:=zcells (P.zs h hst);obtain⟨W,hW,HL,e1,e2,e3⟩:=end_ok P h h5 hst;obtain⟨y0,y1,y2,y3,y4,y5⟩:=HL;have HE:=hid hW;have HR:=jd6 e1 e2 e3 hdm hcl hfr5;clear e1 e2 e3 hW P h h5 hst ham hxs hks hfr5 hdm hcl
 go_wp2_with fail
 change bodyPost _ _ _ _ _ (st6 w5 (w.heap.size+1) (.int .i64 0) nilS nilS nilS (.int .i64 0) (.int .i64 0));rw[<-HE.out];clear x0 x1 x2 x3 x4 x5 xz;obtain⟨e1,e2,e3,e4,e5,e6⟩:=HR.out;exact bodyPost_ret (v:=failV 0) (by simp[results,results43,go_sem,y0,y1,y2,y3,y4,y5]) rfl ⟨_,X5,rfl,e1,e2,e4,e5,e6,e3⟩
end Go.Proofs.YtgkabcaodnofnaaGreat
namespace Go.Md
def posN:List Bs->Bs->Option Nat
 | [],_=>none
 | a :: r,n=>if a=n then some 0 else(posN r n).map (·+1)
def posI (l:List Bs)(n:Bs):Int:=match posN l n with
 | some k=>(k:Int)
 | none => -1
theorem posN_none {n:Bs}:∀ {l:List Bs},n∉l->posN l n=none
 | [],_=>rfl
 | a :: r,h=>by
  rw[List.mem_cons,not_or] at h;unfold posN;rw[if_neg (Ne.symm h.1),posN_none h.2];rfl
theorem posN_at {n:Bs}:∀ {l:List Bs} {k:Nat},l[k]? = some n->n∉l.take k->posN l n=some k
 | [],k,h,_=>by simp at h
 | a :: r,0,h,_=>by simp at h;unfold posN;rw[if_pos h]
 | a :: r,k+1,h,hn=>by
  simp only[List.take_succ_cons,List.mem_cons,not_or] at hn;unfold posN;rw[if_neg (Ne.symm hn.1),posN_at (by simpa using h) hn.2];rfl
theorem posN_some {n:Bs}:∀ {l:List Bs} {k:Nat},posN l n=some k->l[k]? = some n/\n∉l.take k
 | [],k,h=>by cases h
 | a :: r,k,h=>by
  unfold posN at h;split at h
  ·cases h;rename_i e;subst e;simp
  ·rename_i hne;cases hp:posN r n with
   | none=>rw[hp] at h;cases h
   | some j =>
    rw[hp] at h;cases h;have:=posN_some hp;exact⟨by simpa using this.1,by simp only[List.take_succ_cons,List.mem_cons,not_or];exact⟨Ne.symm hne,this.2⟩⟩
theorem posN_lt {n:Bs}{l:List Bs}{k:Nat}(h:posN l n=some k):k<l.length:=by
 have:=(posN_some h).1;exact(List.getElem?_eq_some_iff.1 this).1
theorem posI_some {n:Bs}{l:List Bs}{k:Nat}(h:posN l n=some k):posI l n=(k:Int):=by unfold posI;rw[h]
theorem posI_none {n:Bs}{l:List Bs}(h:posN l n=none):posI l n = -1:=by unfold posI;rw[h]
end Go.Md
namespace Go.Proofs.YtgkabcaodnofnaaGreat
open Go.RowKit Go.Mx Go.Md
abbrev nrow (t:Bs×Value×Value):List Value:=[str t.1,t.2.1,t.2.2]
def NRows (w:World)(v:Value)(ts:List (Bs×Value×Value)):Prop:=SlG w w.heap.size 3 v (ts.map nrow)/\(∀ t∈ts,∀ u∈nrow t,u.oneCell'=true)/\ts.length<=1000000
theorem clo114 (t:Bs×Value×Value)(nm:Bs)(a:Nat)(w:World)(ha:w.heap[a]? = some (.cells #[str nm] 9 (0,0)))(ho:∀ u∈nrow t,u.oneCell'=true) :
  Calls prog 114 #[.agg #[str t.1,t.2.1,t.2.2],pt a] w fun e w'=>e = .returned (.bool (decide (t.1=nm)))/\Below w.heap.size w w':=by
 obtain⟨q,hq⟩:∃ q,q=decide (t.1=nm):=⟨_,rfl⟩
 rw[<-hq];have e:(t.1==nm)=q:=by rw[hq];exact Bool.beq_eq_decide_eq t.1 nm▸rfl
 obtain⟨t1,t2,t3⟩:=t;simp only at e ⊢;have hlt:=blk_lt ha;have c1:(w.alloc (.cells #[str t1,t2,t3] 90)).cell? ⟨a,0,none⟩=some (str nm):=by
  have:(w.alloc (.cells #[str t1,t2,t3] 90)).heap[a]? = w.heap[a]? := Below.heap_alloc w _ _ hlt;simp[World.cell?,this,ha]
 clear ha hq ho;cases q
 all_goals
  go_enter func114,ntmps114
  go_wp2_with fail
  go_ret
  exact⟨rfl,brf.alloc nlr _⟩
theorem idx113 (v:Value)(ts:List (Bs×Value×Value))(nm:Bs)(a:Nat)(w:World)(h:NRows w v ts)(ha:w.heap[a]? = some (.cells #[str nm] 9 (0,0))) :
  Calls prog 113 #[v,.func (.func 114) #[] #[pt a]] w fun e w'=>e = .returned (.int .i64 (posI (ts.map (·.1)) nm))/\Below w.heap.size w w':=by
 obtain⟨hs,ho,hl⟩:=h;have hlen:=fun w'=>hs.len (P:=prog) (ty:=3) underlying85 w';rw[List.length_map] at hlen;have HS:=hid hs;have HO:=hid ho;have HA:=hid ha;obtain⟨oa,nn,c,rfl⟩:∃ oa n c,v = .slice oa n c:=by obtain⟨oa,c,rfl,_⟩:=hs;exact⟨_,_,_,rfl⟩
 clear hs ho ha;go_enter func113,ntmps113
 go_wp2_with fail
 go_loopw [8] (fun t wr=>∃ j:Nat,j<=ts.length/\t = .int .i64 j/\Below w.heap.size w wr/\Hid (nm∉(ts.map (·.1)).take j)) (fun t _=>ts.length-(intOf t).toNat)
 case atStart=>exact⟨0,by omega,rfl,brf,hid (by simp)⟩
 case round =>
  obtain⟨j,hj,rfl,hbl,HT⟩:=hrel;by_cases hlt:j<ts.length
  ·obtain⟨bb,bo,hbb,hia,hrow⟩:=(HS.out.below hbl nlr).addr (P:=prog) underlying85 size90 j (by simpa using hlt);obtain⟨t,ht⟩:∃ t,t=ts[j]:=⟨_,rfl⟩
   have hmem:t∈ts:=by rw[ht];exact List.getElem_mem _
   rw[show(ts.map nrow).getD j []=nrow t by rw[ht];simp[List.getD_eq_getElem?_getD,List.getElem?_map,List.getElem?_eq_getElem hlt]] at hrow;have hj? : (ts.map (·.1))[j]? = some t.1:=by rw[ht];simp[hlt]
   have ho:=HO.out t hmem;have hz:=hbl.size;have hc0:wr.cell? ⟨bb,bo,none⟩=some (str t.1):=by have:=hrow 0 (str t.1) rfl;simpa using this
   have hc1:wr.cell? ⟨bb,bo+1,none⟩=some t.2.1:=hrow 1 t.2.1 rfl;have hc2:wr.cell? ⟨bb,bo+2,none⟩=some t.2.2:=hrow 2 t.2.2 rfl;have HC:=hid (clo114 t nm a wr ((hbl.block a (blk_lt HA.out)).trans HA.out) ho);obtain⟨t1,t2,t3⟩:=t;simp only at hc0 hc1 hc2 HC hj?;obtain⟨q,hq⟩:∃ q,q=decide (t1=nm):=⟨_,rfl⟩
   rw[<-hq] at HC;have HQ:=jd2 hq hj?;have HB:=hid hbl;have ho2:t2.oneCell'=true/\t3.oneCell'=true:=⟨ho t2 (by simp),ho t3 (by simp)⟩
   obtain⟨ho2,ho3⟩:=ho2;clear hrow ht hbl hq hmem ho hj?
   go_wp2_with fail
   refine HC.out.mono ?_;rintro e w1 ⟨rfl,hb1⟩;have HB1:=hid (HB.out.trans (hb1.mono hz));clear hb1;cases q
   ·go_wp2_with fail
    go_roundw
    case rel =>
     refine⟨j+1,by omega,by go_num,HB1.out,hid ?_⟩;rw[List.take_add_one,HQ.out.2];intro hm;rcases List.mem_append.1 hm with hm|hm
     ·exact HT.out hm
     ·simp at hm;have:=HQ.out.1;rw[hm] at this;simp at this
    case measure=>simp[intOf];omega
   ·go_wp2
    go_ret
    have h1:t1=nm:=by have:=HQ.out.1;simpa using this.symm
    have h2:=HQ.out.2;rw[h1] at h2;exact⟨by rw[posI_some (posN_at h2 HT.out)];rfl,HB1.out⟩
  ·obtain rfl:j=ts.length:=by omega
   go_wp2
   go_ret
   have:=HT.out;rw[List.take_of_length_le (by simp)] at this;exact⟨by rw[posI_none (posN_none this)];rfl,hbl⟩
theorem clo126 (t:Bs×Value×Value)(nm:Bs)(a:Nat)(w:World)(ha:w.heap[a]? = some (.cells #[str nm] 9 (0,0)))(ho:∀ u∈nrow t,u.oneCell'=true) :
  Calls prog 126 #[.agg #[str t.1,t.2.1,t.2.2],pt a] w fun e w'=>e = .returned (.bool (decide (t.1=nm)))/\Below w.heap.size w w':=by
 obtain⟨q,hq⟩:∃ q,q=decide (t.1=nm):=⟨_,rfl⟩
 rw[<-hq];have e:(t.1==nm)=q:=by rw[hq];exact Bool.beq_eq_decide_eq t.1 nm▸rfl
 obtain⟨t1,t2,t3⟩:=t;simp only at e ⊢;have hlt:=blk_lt ha;have c1:(w.alloc (.cells #[str t1,t2,t3] 108)).cell? ⟨a,0,none⟩=some (str nm):=by
  have:(w.alloc (.cells #[str t1,t2,t3] 108)).heap[a]? = w.heap[a]? := Below.heap_alloc w _ _ hlt;simp[World.cell?,this,ha]
 clear ha hq ho;cases q
 all_goals
  go_enter func126,ntmps126
  go_wp2_with fail
  go_ret
  exact⟨rfl,brf.alloc nlr _⟩
theorem idx125 (v:Value)(ts:List (Bs×Value×Value))(nm:Bs)(a:Nat)(w:World)(h:NRows w v ts)(ha:w.heap[a]? = some (.cells #[str nm] 9 (0,0))) :
  Calls prog 125 #[v,.func (.func 126) #[] #[pt a]] w fun e w'=>e = .returned (.int .i64 (posI (ts.map (·.1)) nm))/\Below w.heap.size w w':=by
 obtain⟨hs,ho,hl⟩:=h;have hlen:=fun w'=>hs.len (P:=prog) (ty:=3) underlying43 w';rw[List.length_map] at hlen;have HS:=hid hs;have HO:=hid ho;have HA:=hid ha;obtain⟨oa,nn,c,rfl⟩:∃ oa n c,v = .slice oa n c:=by obtain⟨oa,c,rfl,_⟩:=hs;exact⟨_,_,_,rfl⟩
 clear hs ho ha;go_enter func125,ntmps125
 go_wp2_with fail
 go_loopw [8] (fun t wr=>∃ j:Nat,j<=ts.length/\t = .int .i64 j/\Below w.heap.size w wr/\Hid (nm∉(ts.map (·.1)).take j)) (fun t _=>ts.length-(intOf t).toNat)
 case atStart=>exact⟨0,by omega,rfl,brf,hid (by simp)⟩
 case round =>
  obtain⟨j,hj,rfl,hbl,HT⟩:=hrel;by_cases hlt:j<ts.length
  ·obtain⟨bb,bo,hbb,hia,hrow⟩:=(HS.out.below hbl nlr).addr (P:=prog) underlying43 size108 j (by simpa using hlt);obtain⟨t,ht⟩:∃ t,t=ts[j]:=⟨_,rfl⟩
   have hmem:t∈ts:=by rw[ht];exact List.getElem_mem _
   rw[show(ts.map nrow).getD j []=nrow t by rw[ht];simp[List.getD_eq_getElem?_getD,List.getElem?_map,List.getElem?_eq_getElem hlt]] at hrow;have hj? : (ts.map (·.1))[j]? = some t.1:=by rw[ht];simp[hlt]
   have ho:=HO.out t hmem;have hz:=hbl.size;have hc0:wr.cell? ⟨bb,bo,none⟩=some (str t.1):=by have:=hrow 0 (str t.1) rfl;simpa using this
   have hc1:wr.cell? ⟨bb,bo+1,none⟩=some t.2.1:=hrow 1 t.2.1 rfl;have hc2:wr.cell? ⟨bb,bo+2,none⟩=some t.2.2:=hrow 2 t.2.2 rfl;have HC:=hid (clo126 t nm a wr ((hbl.block a (blk_lt HA.out)).trans HA.out) ho);obtain⟨t1,t2,t3⟩:=t;simp only at hc0 hc1 hc2 HC hj?;obtain⟨q,hq⟩:∃ q,q=decide (t1=nm):=⟨_,rfl⟩
   rw[<-hq] at HC;have HQ:=jd2 hq hj?;have HB:=hid hbl;have ho2:t2.oneCell'=true/\t3.oneCell'=true:=⟨ho t2 (by simp),ho t3 (by simp)⟩
   obtain⟨ho2,ho3⟩:=ho2;clear hrow ht hbl hq hmem ho hj?
   go_wp2_with fail
   refine HC.out.mono ?_;rintro e w1 ⟨rfl,hb1⟩;have HB1:=hid (HB.out.trans (hb1.mono hz));clear hb1;cases q
   ·go_wp2_with fail
    go_roundw
    case rel =>
     refine⟨j+1,by omega,by go_num,HB1.out,hid ?_⟩;rw[List.take_add_one,HQ.out.2];intro hm;rcases List.mem_append.1 hm with hm|hm
     ·exact HT.out hm
     ·simp at hm;have:=HQ.out.1;rw[hm] at this;simp at this
    case measure=>simp[intOf];omega
   ·go_wp2
    go_ret
    have h1:t1=nm:=by have:=HQ.out.1;simpa using this.symm
    have h2:=HQ.out.2;rw[h1] at h2;exact⟨by rw[posI_some (posN_at h2 HT.out)];rfl,HB1.out⟩
  ·obtain rfl:j=ts.length:=by omega
   go_wp2
   go_ret
   have:=HT.out;rw[List.take_of_length_le (by simp)] at this;exact⟨by rw[posI_none (posN_none this)];rfl,hbl⟩
end Go.Proofs.YtgkabcaodnofnaaGreat
namespace Go.Md
def dirtyF (M:MM)(c:Cm):MM×Rp×Nat:=match fnd M.all c.name with
 | none=>(M,failR 4,0)
 | some i=>match posN (i.maps.map (·.name)) c.tt with
  | none=>(M,failR 15,0)
  | some k=>match i.maps[k]? with
   | some b=>(M,{spans:=b.l,n:=if b.on then 1 else 0},0)
   | none=>(M,failR 15,0)
end Go.Md
namespace Go.Proofs.YtgkabcaodnofnaaGreat
open Go.RowKit Go.Mx Go.Md
theorem II.shotRows {w:World}{base ib:Nat}{i:IM}{x:IX}(h:II w base ib i x)(hb:base<=w.heap.size)(hn:i.shots.length<=8):NRows w x.sv (x.ss.map fun s=>(s.s.name,.int .i64 s.s.size,.map (some s.m))):=by
 refine⟨?_,?_,?_⟩
 ·have:=h.so.slG;rw[List.map_map];exact this
 ·intro t ht u hu;obtain⟨s,hs,rfl⟩:=List.mem_map.1 ht;simp only[nrow,List.mem_cons,List.mem_nil_iff,or_false] at hu;rcases hu with rfl|rfl|rfl<;>rfl
 ·have:x.ss.length=i.shots.length:=by rw[h.se,List.length_map]
  rw[List.length_map];omega
theorem II.mapRows {w:World}{base ib:Nat}{i:IM}{x:IX}(h:II w base ib i x):NRows w x.mv (x.ps.map fun p=>(p.b.name,.bool p.b.on,p.lv)):=by
 refine⟨?_,?_,?_⟩
 ·have:=h.maps.o.slG;rw[List.map_map];exact this
 ·intro t ht u hu;obtain⟨p,hp,rfl⟩:=List.mem_map.1 ht;obtain⟨a,n,c,e⟩:=ownG_sh (h.maps.s p hp);simp only[nrow,List.mem_cons,List.mem_nil_iff,or_false,e] at hu;rcases hu with rfl|rfl|rfl<;>rfl
 ·have:x.ps.length=i.maps.length:=by rw[h.maps.e,List.length_map]
  have:=h.maps.n;rw[List.length_map];omega
theorem place84 {w:World}{base ib:Nat}{i:IM}{x:IX}(h:II w base ib i x)(hb:base<=w.heap.size)(hn:i.shots.length<=8)(n:Bs) :
  Calls prog 84 #[pt ib,str n] w fun e w'=>e = .returned (.int .i64 (posI (i.shots.map (·.name)) n))/\Below w.heap.size w w':=by
 obtain⟨sa,sn,sc,hsv⟩:=ownG_sh h.so;have hb1:Below w.heap.size w (w.alloc (.cells #[str n] 9)):=brf.alloc nlr _;have h1:=h.below hb1;have c4:=h1.cells.2.2.2.2.1;rw[hsv] at c4;have HI:=hid (idx113 _ _ n w.heap.size (w.alloc (.cells #[str n] 9)) (h1.shotRows (Nat.le_trans hb hb1.size) hn) (alloc_new w _));rw[hsv,List.map_map] at HI;have HE:=hid (show i.shots.map (·.name)=_ from by rw[h.se,List.map_map]);have HB:=hid hb1;clear h h1 hsv hb1;go_enter func84,ntmps84
 go_wp2_with (go_at_call 113;refine HI.out.mono ?_;rintro e w5 ⟨rfl,hb5⟩)
 go_ret
 rw[HE.out];exact⟨rfl,HB.out.trans (hb5.mono HB.out.size)⟩
theorem place93 {w:World}{base ib:Nat}{i:IM}{x:IX}(h:II w base ib i x)(hb:base<=w.heap.size)(hn:i.shots.length<=8)(n:Bs) :
  Calls prog 93 #[pt ib,str n] w fun e w'=>e = .returned (.int .i64 (posI (i.maps.map (·.name)) n))/\Below w.heap.size w w':=by
 obtain⟨sa,sn,sc,hsv⟩:=ownG_sh h.maps.o;have hb1:Below w.heap.size w (w.alloc (.cells #[str n] 9)):=brf.alloc nlr _;have h1:=h.below hb1;have c4:=h1.cells.2.2.2.2.2.1;rw[hsv] at c4;have HI:=hid (idx125 _ _ n w.heap.size (w.alloc (.cells #[str n] 9)) (h1.mapRows) (alloc_new w _));rw[hsv,List.map_map] at HI;have HE:=hid (show i.maps.map (·.name)=_ from by rw[h.maps.e,List.map_map]);have HB:=hid hb1;clear h h1 hsv hb1;go_enter func93,ntmps93
 go_wp2_with (go_at_call 125;refine HI.out.mono ?_;rintro e w5 ⟨rfl,hb5⟩)
 go_ret
 rw[HE.out];exact⟨rfl,HB.out.trans (hb5.mono HB.out.size)⟩
theorem cmd48_any:CmdOk 48 HasN dirtyF:=by
 intro w base mb M X c dv h hM hbase hfr hC hp;obtain⟨da,dn,dc,rfl⟩:=slB_shape hC.d.slB;obtain⟨x,hx,hxn,hfx⟩:=has_x h hC hp;have hok:=h.a.ok x hx;obtain⟨ma,mn,mc,hmv⟩:=ownG_sh (h.a.i x hx).maps.o;obtain⟨w2,hw2,P⟩:=pro_of w c (.slice da dn dc);have f0:=P.m0 h;have f1:=P.c1;have f2:=P.c2;have lk:=P.l0 h hx hxn;have i5:∀ w',Below w2.heap.size w2 w'->w'.cell? ⟨x.ib,5,none⟩=some (.slice ma mn mc):=fun w' hB=>by rw[((P.mo h w' (P.wd _ hB)).a.i x hx).cells.2.2.2.2.2.1,hmv]
 have HB:=hid (fun w' (hB:Below w2.heap.size w2 w')=>place93 ((P.mo h w' (P.wd _ hB)).a.i x hx) (Nat.le_trans hbase (P.bel (P.wd _ hB)).size) hok.ns c.tt);have HN:=jd2 hxn hxn;have HW:=hid hw2;have HP:=hid P;have HM:=hid h;have HK:=jd5 hM hbase hfr hC hp;have HX:=jd4 hx hxn hfx hok;have HMV:=hid hmv;have ef0:=f0 w2 brf;have ef1:=f1 w2 brf;have ef2:=f2 w2 brf;have elk:=lk w2 brf;have ei5:=i5 w2 brf;clear hw2 P h hM hfr hC hp hxn hfx hok hmv;go_enter func48,ntmps48
 go_upto_region 1 with(fail)
 rw[<-HW.out]
 go_region_held (fun w'=>Below w2.heap.size w2 w') (first|with_reducible exact brf.drew|with_reducible assumption|with_reducible exact Below.drew (by assumption)) (fail)
 obtain⟨w3,hw3⟩:∃ z,z=w2.drew:=⟨_,rfl⟩
 have hb3:Below w2.heap.size w2 w3:=by rw[hw3];exact brf.drew
 rw[<-hw3];clear hw3 ef0 ef1 ef2 elk ei5;have g2:=f2 w3 hb3;cases hpn:posN (x.i.maps.map (·.name)) c.tt
 ·rw[posI_none hpn] at HB;have HPN:=hid hpn;clear hpn f0 f1 f2 lk i5;go_upto_region 3 with(go_at_call 93;refine(HB.out _ hb3).mono ?_;rintro e w4 ⟨rfl,hb4⟩)
  have hbZ:=hb3.trans (hb4.mono hb3.size)
  go_wp2_with (go_at_call 21;refine(failed_any 15 _).mono ?_;rintro e w9 ⟨rfl,hb9⟩;obtain⟨x0,x1,x2,x3,x4,x5,xz⟩:=zcells (HP.out.z (hbZ.trans (hb9.mono hbZ.size))))
  obtain⟨W,hW,⟨y0,y1,y2,y3,y4,y5⟩,r1,r2,r3⟩:=end_fail HP.out HM.out (hbZ.trans (hb9.mono hbZ.size)) 15;have hF:dirtyF M c=(M,failR 15,0):=by
   unfold dirtyF;rw[HX.out.2.2.1];simp only;rw[HPN.out]
  rw[hF];clear x0 x1 x2 x3 x4 x5 xz hF;change bodyPost _ _ _ _ _ (st6 w9 (w.heap.size+1) (.int .i64 15) nilS nilS nilS (.int .i64 0) (.int .i64 0));rw[<-hW];exact bodyPost_ret (v:=failV 15) (by simp[results,results48,go_sem,y0,y1,y2,y3,y4,y5]) rfl ⟨_,X,rfl,r1,r2,rfl,nlr,rfl,r3⟩
 ·rename_i k;rw[posI_some hpn] at HB;have hk:=posN_lt hpn;rw[List.length_map] at hk;have HPN:=jd2 hpn hk;clear hpn f0 f1 lk;go_upto_region 3 with(go_at_call 93;refine(HB.out _ hb3).mono ?_;rintro e w4 ⟨rfl,hb4⟩)
  have hb4:Below w2.heap.size w2 w4:=hb3.trans (hb4.mono hb3.size);have g5:=i5 w4 hb4;have hII:=(HP.out.mo HM.out w4 (HP.out.wd _ hb4)).a.i x HX.out.1;obtain⟨p,hp⟩:∃ p,x.x.ps[k]? = some p:=by
   have:k<x.x.ps.length:=by rw[hII.maps.pl];exact HPN.out.2
   exact⟨_,List.getElem?_eq_getElem this⟩
  have hpb:x.i.maps[k]? = some p.b:=by rw[hII.maps.e,List.getElem?_map,hp];rfl
  have hmaps:=hII.maps;obtain⟨gb,gn,gc,hge,hgb,_,hia⟩:=hmaps.place hp;rw[HMV.out] at hge;obtain⟨rfl,rfl,rfl⟩:ma=some ⟨gb,0,none⟩/\mn=gn/\mc=gc:=by simpa using hge
  have hmv2:BMS w4 base (.slice (some ⟨gb,0,none⟩) mn mc) x.i.maps x.x.ps:=by rw[<-HMV.out];exact hmaps
  have hia2:∀ w' (k':IntKind),(Instr.indexAt 43 (.slice (some ⟨gb,0,none⟩) mn mc) (.int k' (k:Int))).run prog w' = .ok (.pointer (some ⟨gb,k*3,none⟩)) w':=by rw[<-HMV.out];exact hia
  have q1:=hmv2.cellAt hp 1 (.bool p.b.on) rfl;have q2:=hmv2.cellAt hp 2 p.lv rfl;have hpm:=List.mem_of_getElem? hp;obtain⟨pa,pn,pc,hpl⟩:=ownG_sh (hmv2.s p hpm);rw[hpl] at q2;have hsl:=(hmv2.s p hpm).slG;have hkk:=hmv2.k p.b (by rw[hmv2.e];exact List.mem_map_of_mem hpm);have HC:=hid (clone111 p.lv (p.b.l.map spC) w4.heap.size w4 hsl nlr (by intro r hr;obtain⟨q,_,rfl⟩:=List.mem_map.1 hr;rfl) (by intro r hr u hu;obtain⟨q,_,rfl⟩:=List.mem_map.1 hr;simp[spC] at hu;rcases hu with rfl|rfl<;>rfl) (by rw[List.length_map];omega))
  rw[hpl] at HC;have bg:∀ w',Below w4.heap.size w4 w'->w'.cell? ⟨gb,k*3+1,none⟩=some (.bool p.b.on):=fun w' hB=>(hB.cell (p:=⟨gb,k*3+1,none⟩) (World.block_lt_of_cell? w4 _ q1)).trans q1;have b5:∀ w',Below w4.heap.size w4 w'->w'.cell? ⟨x.ib,5,none⟩=some (.slice (some ⟨gb,0,none⟩) mn mc):=fun w' hB=>i5 w' (hb4.trans (hB.mono hb4.size));have HQ:=jd2 hpb hb4;clear hII hmaps hge hia hmv2 hpm hsl hkk hgb hpl hp hpb g2 f2 i5 hb3;go_upto_region 6 with(go_at_call 63;refine HC.out.mono ?_;rintro e w5 ⟨v5,rfl,ho5,hb5⟩;obtain⟨va,vn,vc,rfl⟩:=ownG_sh ho5)
  obtain⟨w6,hw6⟩:∃ z,z=w5.alloc (.cells #[.int .i64 0,.slice none 0 0,.slice none 0 0,.slice va vn vc,.int .i64 0,.int .i64 0] 34):=⟨_,rfl⟩
  rw[<-hw6];have hb56:Below w5.heap.size w5 w6:=by rw[hw6];exact brf.alloc nlr _
  have z6:w6.heap[w5.heap.size]? = some (.cells #[.int .i64 0,.slice none 0 0,.slice none 0 0,.slice va vn vc,.int .i64 0,.int .i64 0] 34 (0,0)):=by rw[hw6];exact alloc_new w5 _
  have hb46:Below w4.heap.size w4 w6:=hb5.trans (hb56.mono hb5.size);have hb26:Below w2.heap.size w2 w6:=hb4.trans (hb46.mono hb4.size);have ho6:OwnG w6 w4.heap.size 111 2 (.slice va vn vc) (p.b.l.map spC):=ho5.below hb56 nlr;have g5:=b5 w6 hb46;have g1:=bg w6 hb46;have h25:w2.heap.size<=w5.heap.size:=Nat.le_trans hb4.size hb5.size;obtain⟨on,hon⟩:∃ on,on=p.b.on:=⟨_,rfl⟩
  rw[<-hon] at g1;have HON:=hid hon;clear hon hw6 hb56 hb46 bg b5 ho5 hb5 HC q1 q2;cases on
  ·go_upto_region 8 with(fail)
   have v0:w6.cell? ⟨w5.heap.size,0,none⟩=some (.int .i64 0):=by simp[World.cell?,z6]
   have v1:w6.cell? ⟨w5.heap.size,1,none⟩=some (.slice none 0 0):=by simp[World.cell?,z6]
   have v2:w6.cell? ⟨w5.heap.size,2,none⟩=some (.slice none 0 0):=by simp[World.cell?,z6]
   have v3:w6.cell? ⟨w5.heap.size,3,none⟩=some (.slice va vn vc):=by simp[World.cell?,z6]
   have v4:w6.cell? ⟨w5.heap.size,4,none⟩=some (.int .i64 0):=by simp[World.cell?,z6]
   have v5:w6.cell? ⟨w5.heap.size,5,none⟩=some (.int .i64 0):=by simp[World.cell?,z6]
   obtain⟨x0,x1,x2,x3,x4,x5,xz⟩:=zcells (HP.out.z hb26);have hwb:w.heap.size<=w4.heap.size:=Nat.le_trans HP.out.b.size HQ.out.2.size;have hrep:RepOK w6 w.heap.size (rpV 0 nilS nilS (.slice va vn vc) 0 0) {spans:=p.b.l,n:=0}:=⟨_,_,_,rfl,OwnB.nil _ _ _,OwnG.nil _ _ _ _,ho6.any_base hwb⟩
   obtain⟨W,hW,⟨y0,y1,y2,y3,y4,y5⟩,r1,r2,r3⟩:=end_same HP.out HM.out hb26 hrep;have hF:dirtyF M c=(M,{spans:=p.b.l,n:=0},0):=by
    unfold dirtyF;rw[HX.out.2.2.1];simp only;rw[HPN.out.1];simp only;rw[HQ.out.1];simp only;rw[<-HON.out];rfl
   have HR:=jd4 r1 r2 r3 hF;have HWW:=hid hW;clear r1 r2 r3 hF hW hrep z6  hb26 ho6 g1 g5
   go_wp2_with fail
   change bodyPost _ _ _ _ _ (st6 w6 (w.heap.size+1) (.int .i64 0) nilS nilS (.slice va vn vc) (.int .i64 0) (.int .i64 0));rw[<-HWW.out,HR.out.2.2.2];clear x0 x1 x2 x3 x4 x5 xz v0 v1 v2 v3 v4 v5;exact bodyPost_ret (v:=rpV 0 nilS nilS (.slice va vn vc) 0 0) (by simp[results,results48,go_sem,y0,y1,y2,y3,y4,y5]) rfl ⟨_,X,rfl,HR.out.1,HR.out.2.1,rfl,nlr,rfl,HR.out.2.2.1⟩
  ·have zf:w6.frozen? ⟨w5.heap.size,4,none⟩=false:=by simp[World.frozen?,z6]
   have zv:w6.cell? ⟨w5.heap.size,4,none⟩=some (.int .i64 0):=by simp[World.cell?,z6]
   go_upto_region 8 with(fail)
   obtain⟨w7,hw7⟩:∃ z,z=w6.setCell ⟨w5.heap.size,4,none⟩ (.int .i64 1):=⟨_,rfl⟩
   rw[<-hw7];have z7:w7.heap[w5.heap.size]? = some (.cells #[.int .i64 0,.slice none 0 0,.slice none 0 0,.slice va vn vc,.int .i64 1,.int .i64 0] 34 (0,0)):=by rw[hw7,heap_setCell_at' w6 _ 4 _ _ 34 _ z6];rfl
   have hb7:Below w2.heap.size w2 w7:=by rw[hw7];exact hb26.setCell h25 _
   have ho7:OwnG w7 w4.heap.size 111 2 (.slice va vn vc) (p.b.l.map spC):=ho6.kept (N:=(·≠w5.heap.size)) (by rw[hw7];exact Kept.set _ _ _ _ (by simp)) fun q hq e=>by obtain⟨c9,f9,h9⟩:=ownG_type ho6 q hq;rw[e,z6] at h9;cases h9
   clear hw7;have v0:w7.cell? ⟨w5.heap.size,0,none⟩=some (.int .i64 0):=by simp[World.cell?,z7]
   have v1:w7.cell? ⟨w5.heap.size,1,none⟩=some (.slice none 0 0):=by simp[World.cell?,z7]
   have v2:w7.cell? ⟨w5.heap.size,2,none⟩=some (.slice none 0 0):=by simp[World.cell?,z7]
   have v3:w7.cell? ⟨w5.heap.size,3,none⟩=some (.slice va vn vc):=by simp[World.cell?,z7]
   have v4:w7.cell? ⟨w5.heap.size,4,none⟩=some (.int .i64 1):=by simp[World.cell?,z7]
   have v5:w7.cell? ⟨w5.heap.size,5,none⟩=some (.int .i64 0):=by simp[World.cell?,z7]
   obtain⟨x0,x1,x2,x3,x4,x5,xz⟩:=zcells (HP.out.z hb7);have hwb:w.heap.size<=w4.heap.size:=Nat.le_trans HP.out.b.size HQ.out.2.size;have hrep:RepOK w7 w.heap.size (rpV 0 nilS nilS (.slice va vn vc) 1 0) {spans:=p.b.l,n:=1}:=⟨_,_,_,rfl,OwnB.nil _ _ _,OwnG.nil _ _ _ _,ho7.any_base hwb⟩
   obtain⟨W,hW,⟨y0,y1,y2,y3,y4,y5⟩,r1,r2,r3⟩:=end_same HP.out HM.out hb7 hrep;have hF:dirtyF M c=(M,{spans:=p.b.l,n:=1},0):=by
    unfold dirtyF;rw[HX.out.2.2.1];simp only;rw[HPN.out.1];simp only;rw[HQ.out.1];simp only;rw[<-HON.out];rfl
   have HR:=jd4 r1 r2 r3 hF;have HWW:=hid hW;clear r1 r2 r3 hF hW hrep z6 z7 hb7 ho7 hb26 ho6 g1 g5
   go_wp2_with fail
   change bodyPost _ _ _ _ _ (st6 w7 (w.heap.size+1) (.int .i64 0) nilS nilS (.slice va vn vc) (.int .i64 1) (.int .i64 0));rw[<-HWW.out,HR.out.2.2.2];clear x0 x1 x2 x3 x4 x5 xz v0 v1 v2 v3 v4 v5;exact bodyPost_ret (v:=rpV 0 nilS nilS (.slice va vn vc) 1 0) (by simp[results,results48,go_sem,y0,y1,y2,y3,y4,y5]) rfl ⟨_,X,rfl,HR.out.1,HR.out.2.1,rfl,nlr,rfl,HR.out.2.2.1⟩
end Go.Proofs.YtgkabcaodnofnaaGreat
