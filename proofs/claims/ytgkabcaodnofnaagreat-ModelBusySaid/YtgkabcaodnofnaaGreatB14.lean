import Derived.Test.YtgkabcaodnofnaaGreatB13
set_option linter.unusedSimpArgs false
set_option linter.unusedVariables false
set_option maxRecDepth 100000
set_option maxHeartbeats 1000000
open Go.Proofs.Tryz
namespace Go.Md
structure Cm where
 kind:Int
 name:Bs
 tt:Bs
 a:Int
 n:Int
 m:Int
 data:Bs
structure Rp where
 code:Int:=0
 data:Bs:=[]
 names:List Bs:=[]
 spans:List Sp:=[]
 n:Int:=0
 m:Int:=0
abbrev failR (e:Int):Rp:={code:=e}
structure MOk (M:MM):Prop where
 nm:∀ n i,fnd M.all n=some i->nameOk n=true
 bk:∀ n i,fnd M.all n=some i->i.back=[]\/(fnd M.all i.back).isSome=true
 dp:∀ n,dep M.all 8 n
 le:M.all.length<=16
 kl:M.kept.length<=16
 kb:∀ n,(fnd M.kept n).map (·.back)=(fnd M.all n).map (·.back)
 ch:∀ n,M.ch n=false->fnd M.kept n=fnd M.all n
 cn:∀ n,M.ch n=true->(fnd M.all n).isSome=true
end Go.Md
namespace Go.Proofs.YtgkabcaodnofnaaGreat
open Go.RowKit Go.Mx Go.Md
abbrev cmV (c:Cm)(dv:Value):Value:=.agg #[.int .i64 c.kind,str c.name,str c.tt,.int .i64 c.a,.int .i64 c.n,.int .i64 c.m,dv]
structure RepOK (w:World)(base:Nat)(r:Value)(p:Rp):Prop where
 ex:∃ dv nv sv,r=rpV p.code dv nv sv p.n p.m/\OwnB w base 5 dv p.data/\OwnG w base 9 1 nv (strR p.names)/\OwnG w base 111 2 sv (p.spans.map spC)
theorem RepOK.fail (w:World)(base:Nat)(e:Int):RepOK w base (failV e) (failR e):=⟨_,_,_,rfl,OwnB.nil _ _ _,OwnG.nil _ _ _ _,OwnG.nil _ _ _ _⟩
theorem RepOK.kept {w w':World}{base:Nat}{r:Value}{p:Rp}{N:Nat->Prop}(h:RepOK w base r p)(hk:Kept w w' N)(hN:∀ b c t f,w.heap[b]? = some (.cells c t f)->t=5\/t=9\/t=111->N b):RepOK w' base r p:=by
 obtain⟨dv,nv,sv,e,h1,h2,h3⟩:=h.ex;refine⟨dv,nv,sv,e,h1.kept hk fun q hq=>?_,h2.kept hk fun q hq=>?_,h3.kept hk fun q hq=>?_⟩
 ·obtain⟨c,f,h9⟩:=ownB_type h1 q hq;exact hN q c 5 f h9 (by simp)
 ·obtain⟨c,f,h9⟩:=ownG_type h2 q hq;exact hN q c 9 f h9 (by simp)
 ·obtain⟨c,f,h9⟩:=ownG_type h3 q hq;exact hN q c 111 f h9 (by simp)
theorem RepOK.base {w:World}{base base':Nat}{r:Value}{p:Rp}(h:RepOK w base r p)(hb:base'<=base):RepOK w base' r p:=by
 obtain⟨dv,nv,sv,e,h1,h2,h3⟩:=h.ex;exact⟨dv,nv,sv,e,h1.any_base hb,h2.any_base hb,h3.any_base hb⟩
structure CIn (w:World)(F:List Nat)(c:Cm)(dv:Value):Prop where
 d:SlN w (·∉F) dv c.data
 nl:c.name.length<=100
 tl:c.tt.length<=100
 dl:c.data.length<=3000
def CmdOk (f:Nat)(pre:MM->Cm->Prop)(F:MM->Cm->MM×Rp×Nat):Prop:=∀ (w:World) (base mb:Nat) (M:MM) (X:MX) (c:Cm) (dv:Value),MO w base mb M X->MOk M->base<=w.heap.size->X.fr.length<=10->CIn w (X.fp mb) c dv->pre M c->
 Calls prog f #[pt mb,cmV c dv] w fun e w'=>∃ r X',e = .returned r/\RepOK w' w.heap.size r (F M c).2.1/\MO w' base mb (F M c).1 X'/\X'.dm=X.dm/\X'.cl.length<=X.cl.length/\X'.fr.length=X.fr.length+(F M c).2.2/\Stp w w' (X.fp mb) (X'.fp mb)
theorem Stp.sl {w w':World}{F F':List Nat}{v:Value}{bs:Bs}(h:Stp w w' F F')(hs:SlN w (·∉F) v bs):SlN w' (·∉F') v bs:=by
 obtain⟨oa,cap,h1,h2,h3,h4⟩:=hs;refine⟨oa,cap,h1,h2,h3,fun hn=>?_⟩;obtain⟨bb,bo,e,hl,hN,hr⟩:=h4 hn;refine⟨bb,bo,e,Nat.lt_of_lt_of_le hl h.k.size,fun hm=>?_,fun i hi=>(h.k.cell hl hN).trans (hr i hi)⟩;rcases h.n bb hm with h5|h5
 ·exact hN h5
 ·omega
theorem CIn.stp {w w':World}{F F':List Nat}{c:Cm}{dv:Value}(h:CIn w F c dv)(hs:Stp w w' F F'):CIn w' F' c dv:=⟨hs.sl h.d,h.nl,h.tl,h.dl⟩
def doK (F:MM->Cm->MM×Rp×Nat)(M:MM)(c:Cm):MM×Rp×Nat :=
 let r:=F M c
 if r.2.1.code=0/\turnsI c.kind=true then({r.1 with ch:=fun n=>if n=c.name then true else r.1.ch n},r.2) else r
theorem zero75 (w:World):(zeroValue 75).run prog w = .ok .nilFunc w:=by kernel_rfl
theorem MO.chg {w w':World}{base mb:Nat}{M:MM}{X:MX}(h:MO w base mb M X)(n:Bs)(hg:GM ES prog 9 w' X.hm (Mx.upd X.cl n (.bool true)))(hk:Kept w w' (·≠X.hm)) :
  MO w' base mb {M with ch:=fun m=>if m=n then true else M.ch m} {X with cl:=Mx.upd X.cl n (.bool true)}:=by
 have hap:=Ap.of h.nd;have hNI:NI w (·≠X.hm):=fun b c t f hb h3 e=>by obtain⟨es,k,h1⟩:=h.h.isMap;rw[e,h1] at hb;cases hb
 refine⟨(hk.block mb (blk_lt h.ck) hap.mh).trans h.ck,h.a.kept hk (fun b hb=>(hap.a b hb).2.1) hNI,h.k.kept hk (fun b hb=>(hap.k b hb).2) hNI,hg,fun p hp=>?_,fun m=>?_,fun dm e=>(h.d dm e).block (hk.block _ (h.d dm e).lt (hap.d dm e).2.1),h.f.kept hk fun q e=>(hap.f q e).2.1,h.nd⟩
 ·rcases mem_upd hp with rfl|⟨h1,_⟩
  ·rfl
  ·exact h.ht p h1
 ·show(if m=n then true else M.ch m)=(Mx.look (Mx.upd X.cl n (.bool true)) m).isSome;rw[look_upd];split
  ·rfl
  ·exact h.hc m
theorem Stp.over {a b c:World}{F G:List Nat}{q:Nat}(h:Stp a b F G)(hk:Kept b c (·≠q))(hq:a.heap.size<=q):Stp a c F G :=
 ⟨⟨Nat.le_trans h.k.size hk.size,fun k h1 h2=>(hk.block k (Nat.lt_of_lt_of_le h1 h.k.size) (by omega)).trans (h.k.block k h1 h2),hk.st.1.trans h.k.st.1,hk.st.2.1.trans h.k.st.2.1,hk.st.2.2.trans h.k.st.2.2⟩,h.n⟩
theorem func_nilIn (d f:Nat)(vs:Array Value)(w:World):(Op.equalIn (d+1) 75 (.func (.func f) vs #[]) .nilFunc).run prog w = .ok false w:=by
 have hu:=underlying75;simp[Op.equalIn,run_underlying hu]
theorem func_nil (f:Nat)(vs:Array Value)(w:World):(binOp .eql 75 (.func (.func f) vs #[]) .nilFunc).run prog w = .ok (.bool false) w:=by
 simp only[binOp];simp[show Op.equal 75 (.func (.func f) vs #[]) .nilFunc=Op.equalIn (9999+1) 75 (.func (.func f) vs #[]) .nilFunc from rfl,func_nilIn 9999]
variable {w w':World}{base mb:Nat}{M:MM}{X:MX}
theorem do_any (f:Nat)(pre:MM->Cm->Prop)(F:MM->Cm->MM×Rp×Nat)(HF:CmdOk f pre F)(c:Cm)(hf:Mx.look (tabL mb) c.kind=some (fnV f mb))(hk:c.kind=1\/c.kind=26\/(fnd M.all c.name).isSome=true)(hwf:(Lit.int .i64 c.kind).wf=true)
  (h:MO w base mb M X) (hM:MOk M) (hbase:base<=w.heap.size) (dv:Value) (hC:CIn w (X.fp mb) c dv) (hp:pre M c) (hcl:X.cl.length<=1000) (hen:∀ args w,(callFunc f args).run prog w = .ok (.enter f args) w) :
  Calls prog 14 #[pt mb,cmV c dv] w fun e w'=>∃ r lv X',e = .returned (.tuple #[r,lv])/\RepOK w' w.heap.size r (doK F M c).2.1/\(∃ fr:List Value,OwnG w' base 28 1 lv (fr.map fun v=>[v])/\fr.length=(doK F M c).2.2)/\MO w' base mb (doK F M c).1 X'/\X'.fr=[]/\X'.fv = .slice none 0 0/\Stp w w' (X.fp mb) (X'.fp mb):=by
 obtain⟨w1,hw1⟩:∃ z,z=w.alloc (.cells #[.int .i64 c.kind,str c.name,str c.tt,.int .i64 c.a,.int .i64 c.n,.int .i64 c.m,dv] 25):=⟨_,rfl⟩
 obtain⟨w2,hw2⟩:∃ z,z=w1.alloc (.cells #[.int .i64 0,.slice none 0 0,.slice none 0 0,.slice none 0 0,.int .i64 0,.int .i64 0] 34):=⟨_,rfl⟩
 have hb1:Below w.heap.size w w1:=by rw[hw1];exact brf.alloc nlr _
 have hs1:w1.heap.size=w.heap.size+1:=by rw[hw1];simp
 have hb2:Below w1.heap.size w1 w2:=by rw[hw2];exact brf.alloc nlr _
 have hs2:w2.heap.size=w.heap.size+2:=by rw[hw2];simp[hs1]
 have hb02:Below w.heap.size w w2:=hb1.trans (hb2.mono (by omega));have hq1:w2.heap[w.heap.size]? = some (.cells #[.int .i64 c.kind,str c.name,str c.tt,.int .i64 c.a,.int .i64 c.n,.int .i64 c.m,dv] 25 (0,0)):=(hb2.block _ (by omega)).trans (by rw[hw1];exact alloc_new w _);have hq2:w2.heap[w.heap.size+1]? = some (.cells #[.int .i64 0,.slice none 0 0,.slice none 0 0,.slice none 0 0,.int .i64 0,.int .i64 0] 34 (0,0)):=by rw[hw2,<-hs1];exact alloc_new w1 _
 have h2:=h.below hb02;have hlt:=h.lt;obtain⟨c0,_,c2',_,_,_,_,c7,cz⟩:=h2.cells;obtain⟨fa,fn,fc,hfv⟩:=ownG_sh h2.f;rw[hfv] at c7;have cz7:=cz 7;obtain⟨da,dn,dc,rfl⟩:=slB_shape hC.d.slB;obtain⟨X3,hX3⟩:∃ z:MX,z={X with dm:=X.dm,fv:=.slice none 0 0,fr:=[]}:=⟨_,rfl⟩
 obtain⟨w3,hw3⟩:∃ z,z=w2.setCell ⟨mb,7,none⟩ (.slice none 0 0):=⟨_,rfl⟩
 have hk3:Kept w2 w3 (·≠mb):=by rw[hw3];exact Kept.set _ _ _ _ (by simp)
 have hMO3:MO w3 base mb M X3/\Stp w2 w3 (X.fp mb) (X3.fp mb):=by
  rw[hX3];exact h2.set hk3 (by rw[hw3,heap_setCell_at' w2 mb 7 _ _ 73 _ h2.ck];rfl) (fun q e=>(h2.d q e).block (hk3.block _ (h2.d q e).lt ((Ap.of h2.nd).d q e).1)) (OwnG.nil _ _ _ _) (fun q e => .inl e) (.inr rfl)
 have hmb:mb<w.heap.size:=blk_lt h.ck;have hq13:w3.heap[w.heap.size]? = some (.cells #[.int .i64 c.kind,str c.name,str c.tt,.int .i64 c.a,.int .i64 c.n,.int .i64 c.m,.slice da dn dc] 25 (0,0)):=(hk3.block _ (by omega) (by omega)).trans hq1;have hq23:w3.heap[w.heap.size+1]? = some (.cells #[.int .i64 0,.slice none 0 0,.slice none 0 0,.slice none 0 0,.int .i64 0,.int .i64 0] 34 (0,0)):=(hk3.block _ (by omega) (by omega)).trans hq2;have hst3:Stp w w3 (X.fp mb) (X3.fp mb):=(Stp.of_below hb02 _).trans hMO3.2;have hX3':X3.fv = .slice none 0 0/\X3.fr=[]/\X3.cl=X.cl:=by rw[hX3];exact⟨rfl,rfl,rfl⟩
 have hs3:w3.heap.size=w.heap.size+2:=by rw[hw3,World.size_setCell,hs2]
 have HT:=hid (table_any (hMO3.1.below (Below.refl w3.heap.size w3).drew) hX3'.1);have hlt3:∀ b∈X3.fp mb,b<w.heap.size:=fun b hb=>by
  rcases hMO3.2.n b hb with h1|h1
  ·exact hlt b h1
  ·have:b<w3.heap.size:=hMO3.1.lt b hb;rw[hX3] at hb;rw[MX.mem] at hb;rcases hb with e|e|e|e|e|e
   ·omega
   ·have:=h.h.lt;have e2:b=X.hm:=e;omega
   ·exact(h.d b e).lt
   ·cases e
   ·exact h.a.lt b e
   ·exact h.k.lt b e
 have H:=jd9 h hM hbase hC hp hcl hMO3.1 hst3 (And.intro hX3' (And.intro hlt3 (And.intro hs3 (And.intro hmb (And.intro hq13 hq23)))));have HW:=jd3 hw1 hw2 hw3;clear h hM hC hp hb1 hs1 hb2 hs2 hb02 hq1 hq2 h2 hlt c0 c2' hfv hk3 hMO3 hst3 hX3' hlt3 hs3 hX3 hw1 hw2 hw3 cz hq13 hq23;go_enter func14,ntmps14
 go_upto_region 3 with(fail)
 rw[<-HW.out.1,<-HW.out.2.1];go_upto_region 4 with(fail)
 rw[<-HW.out.2.2];have hkk:=fun(W:World) (hW:W.heap[w.heap.size]? = some (.cells #[.int .i64 c.kind,str c.name,str c.tt,.int .i64 c.a,.int .i64 c.n,.int .i64 c.m,.slice da dn dc] 25 (0,0)))=>(show W.cell? ⟨w.heap.size,0,none⟩=some (.int .i64 c.kind) by simp[World.cell?,hW])
 have hS0:=H.out.2.2.2.2.2.2.2.2.2.2.2.2.1;clear c7 cz7;have hok:EI.ok c.kind:=hwf
 go_region_held (fun W=>W.heap[w.heap.size]? = some (.cells #[.int .i64 c.kind,str c.name,str c.tt,.int .i64 c.a,.int .i64 c.n,.int .i64 c.m,.slice da dn dc] 25 (0,0))) (first|exact hS0|assumption) (first
  | (go_at_call 22;refine HT.out.mono ?_;rintro e w4 ⟨dm,rfl,hMO4,hst4⟩;have hS4:=(hst4.k.block w.heap.size (by have:=H.out.2.2.2.2.2.2.2.2.2.2.1;show w.heap.size<w3.heap.size;omega) (fun hm=>by have:=H.out.2.2.2.2.2.2.2.2.2.1 _ hm;omega)).trans hS0;have hl4:=(hMO4.d dm rfl).look K3 (t:=71) underlying71 zero75 (zd:=.agg [.lit (.int .i64 7)]) rfl c.kind hok;rw[hf] at hl4;have hl5:(Instr.lookup 71 (.map (some dm)) (.int .i64 c.kind) false).run prog w4 = .ok (.func (.func f) #[pt mb] #[]) w4:=hl4))
 have hMO4':MO w4 base mb M {X3 with dm:=some dm}:=hMO4;obtain⟨X4,hX4⟩:∃ z:MX,z={X3 with dm:=some dm}:=⟨_,rfl⟩
 rw[<-hX4] at hMO4 hst4;have hX4':X4.fv = .slice none 0 0/\X4.fr=[]/\X4.cl=X.cl:=by rw[hX4];exact H.out.2.2.2.2.2.2.2.2.1
 have hst04:Stp w w4 (X.fp mb) (X4.fp mb):=H.out.2.2.2.2.2.2.2.1.trans ⟨⟨hst4.k.size,hst4.k.block,hst4.k.st⟩,hst4.n⟩;have hq24:w4.heap[w.heap.size+1]? = some (.cells #[.int .i64 0,.slice none 0 0,.slice none 0 0,.slice none 0 0,.int .i64 0,.int .i64 0] 34 (0,0)):=(hst4.k.block (w.heap.size+1) (by have:=H.out.2.2.2.2.2.2.2.2.2.2.1;show w.heap.size+1<w3.heap.size;omega) (fun hm=>by have:=H.out.2.2.2.2.2.2.2.2.2.1 _ hm;omega)).trans H.out.2.2.2.2.2.2.2.2.2.2.2.2.2;have hs4:w.heap.size+2<=w4.heap.size:=by have:=hst4.k.size;have h3:=H.out.2.2.2.2.2.2.2.2.2.2.1;have:w3.heap.size<=w4.heap.size:=this;omega
 have hlt4:∀ b∈X4.fp mb,b<w.heap.size\/w.heap.size+2<=b:=fun b hb=>(hst4.n b hb).imp (H.out.2.2.2.2.2.2.2.2.2.1 b) fun h=>by
  have h3:=H.out.2.2.2.2.2.2.2.2.2.2.1;have h4:w3.heap.size<=b:=h;omega
 have c0:=hMO4.cells.1;have HC:=hid (hMO4.a.at c.name (Nat.le_trans H.out.2.2.2.1.nl (by unfold maxLen;omega)));have H4:=jd7 hMO4 hX4' hst04 hS4 hq24 hs4 hlt4;clear hMO4 hMO4' hX4' hst04 hq24 hs4 hst4 hX4 hl4 hlt4;have hqn:=func_nil f #[pt mb];have k0:=hkk w4 hS4;have k1:w4.cell? ⟨w.heap.size,1,none⟩=some (str c.name):=by simp[World.cell?,hS4]
 clear hS4 hS0;go_upto_region 7 with(fail)
 go_cut [40] from 23 (fun s40 wx=>s40 = .bool false/\Below w4.heap.size w4 wx)
 case first =>
  have hb0:∀ n,Below w4.heap.size w4 (w4.drewN n):=fun n=>by
   induction n with
   | zero=>exact brf
   | succ n ih=>exact ih.drew
  have hlk:(fnd M.all c.name).isSome=true->∃ ib,∀ n,(Instr.lookup 57 (.map (some X4.am)) (str c.name) false).run prog (w4.drewN n) = .ok (pt ib) (w4.drewN n):=fun hs=>by
   rcases HC.out with⟨h1,_⟩|⟨x,hx,hxn,h1,h3⟩
   ·rw[h1] at hs;cases hs
   ·refine⟨x.ib,fun n=>?_⟩;rw[<-hxn];exact(H4.out.1.below (hb0 n)).a.atx hx
  have HB:=hid hb0;have HLK:=hid hlk;clear hb0 hlk;by_cases e1:c.kind=1
  ·rw[e1] at k0;clear hk
   go_quiet (fail)
   go_wp2_with fail
   go_meet
   case rel=>exact⟨rfl,HB.out nq⟩
  ·by_cases e2:c.kind=26
   ·rw[e2] at k0;clear hk
    go_quiet (fail)
    go_wp2_with fail
    go_meet
    case rel=>exact⟨rfl,HB.out nq⟩
   ·obtain⟨ib,hib⟩:=HLK.out ((hk.resolve_left e1).resolve_left e2);have e1':(c.kind==1)=false:=by simpa using e1
    have e2':(c.kind==26)=false:=by simpa using e2
    clear hk
    go_quiet (fail)
    go_wp2_with fail
    go_meet
    case rel=>exact⟨rfl,HB.out nq⟩
 case rest =>
  obtain⟨rfl,hbc⟩:=hcut;obtain⟨hMO4,hX4',hst04,hS4,hq24,hs4,hlt4⟩:=H4.out;obtain⟨M',rp,nf,hFe⟩:∃ M' rp nf,F M c=(M',rp,nf):=⟨_,_,_,rfl⟩
  have hMOc:=hMO4.below hbc;have hqc:wc.heap[w.heap.size]? = some (.cells #[.int .i64 c.kind,str c.name,str c.tt,.int .i64 c.a,.int .i64 c.n,.int .i64 c.m,.slice da dn dc] 25 (0,0)):=(hbc.block _ (by omega)).trans hS4;have hqc2:=(hbc.block (w.heap.size+1) (by omega)).trans hq24;have hstc:Stp w wc (X.fp mb) (X4.fp mb):=hst04.trans (Stp.of_below hbc _);have HCC:=hid (HF wc base mb M X4 c (.slice da dn dc) hMOc H.out.2.1 (Nat.le_trans H.out.2.2.1 hstc.k.size) (by rw[hX4'.2.1];simp) (H.out.2.2.2.1.stp hstc) H.out.2.2.2.2.1);rw[hFe] at HCC;have b0:wc.cell? ⟨w.heap.size,0,none⟩=some (.int .i64 c.kind):=by simp[World.cell?,hqc]
  have b1:wc.cell? ⟨w.heap.size,1,none⟩=some (str c.name):=by simp[World.cell?,hqc]
  have b2:wc.cell? ⟨w.heap.size,2,none⟩=some (str c.tt):=by simp[World.cell?,hqc]
  have b3:wc.cell? ⟨w.heap.size,3,none⟩=some (.int .i64 c.a):=by simp[World.cell?,hqc]
  have b4:wc.cell? ⟨w.heap.size,4,none⟩=some (.int .i64 c.n):=by simp[World.cell?,hqc]
  have b5:wc.cell? ⟨w.heap.size,5,none⟩=some (.int .i64 c.m):=by simp[World.cell?,hqc]
  have b6:wc.cell? ⟨w.heap.size,6,none⟩=some (.slice da dn dc):=by simp[World.cell?,hqc]
  have HBS:=hid (Nat.le_trans nlr hstc.k.size);have HQ:=jd7 hqc hqc2 hstc hX4' hs4 hFe hlt4;have hsc:=hbc.size;clear hqc hqc2 hstc hX4' hs4 hFe hMOc hMO4 hst04 hS4 hq24 hlt4 hbc k0 k1 hqn;go_upto_region 10 with(refine HCC.out.mono ?_;rintro e w5 ⟨r,X5,rfl,hrp,hMO5,hdm5,hcl5,hfr5,hst5⟩;obtain⟨rdv,rnv,rsv,rfl,ro1,ro2,ro3⟩:=hrp.ex;obtain⟨ra1,rn1,rc1,rfl⟩:=ownB_sh ro1;obtain⟨ra2,rn2,rc2,rfl⟩:=ownG_sh ro2;obtain⟨ra3,rn3,rc3,rfl⟩:=ownG_sh ro3)
  obtain⟨hqc,hqc2,hstc,hX4',hs4,hFe,hlt4⟩:=HQ.out;have hrb5:rp.code=rp.code:=rfl;obtain⟨w6,hw6⟩:∃ z,z=w5.alloc (.cells #[.int .i64 rp.code,.slice ra1 rn1 rc1,.slice ra2 rn2 rc2,.slice ra3 rn3 rc3,.int .i64 rp.n,.int .i64 rp.m] 34):=⟨_,rfl⟩
  have hb6:Below w5.heap.size w5 w6:=by rw[hw6];exact brf.alloc nlr _
  have hq6:w6.heap[w5.heap.size]? = some (.cells #[.int .i64 rp.code,.slice ra1 rn1 rc1,.slice ra2 rn2 rc2,.slice ra3 rn3 rc3,.int .i64 rp.n,.int .i64 rp.m] 34 (0,0)):=by rw[hw6];exact alloc_new w5 _
  have hs6:w6.heap.size=w5.heap.size+1:=by rw[hw6];simp
  rw[<-hw6];have hs5:wc.heap.size<=w5.heap.size:=hst5.k.size;have hnb:∀ j,j=w.heap.size\/j=w.heap.size+1->j∉X4.fp mb:=fun j hj hm=>by rcases hlt4 j hm with h1|h1<;>omega
  have hqb6:=((hb6.block w.heap.size (by omega)).trans (hst5.k.block w.heap.size (by omega) (hnb _ (.inl rfl)))).trans hqc;have hqr6:=((hb6.block (w.heap.size+1) (by omega)).trans (hst5.k.block (w.heap.size+1) (by omega) (hnb _ (.inr rfl)))).trans hqc2;have hMO6:=hMO5.below hb6;have hrp6:=hrp.kept (Kept.of_below (N:=fun _=>True) hb6 fun k hk _=>hk) fun _ _ _ _ _ _=>trivial;have hst6:Stp w w6 (X.fp mb) (X5.fp mb):=(hstc.trans hst5).trans (Stp.of_below hb6 _);have hcl6:X5.cl.length<=1000:=by rw[hX4'.2.2] at hcl5;exact Nat.le_trans hcl5 H.out.2.2.2.2.2.1
  have k0:w6.cell? ⟨w.heap.size,0,none⟩=some (.int .i64 c.kind):=by simp[World.cell?,hqb6]
  have k1:w6.cell? ⟨w.heap.size,1,none⟩=some (str c.name):=by simp[World.cell?,hqb6]
  have u0:w6.cell? ⟨w5.heap.size,0,none⟩=some (.int .i64 rp.code):=by simp[World.cell?,hq6]
  have hfr6:X5.fr.length=nf:=by rw[hfr5,hX4'.2.1];simp
  have HFe:=hid hFe;have hbd:∀ (W:World) (Mz:MM) (Xz:MX),MO W base mb Mz Xz->w6.heap.size<=W.heap.size->W.heap[w5.heap.size]? = some (.cells #[.int .i64 rp.code,.slice ra1 rn1 rc1,.slice ra2 rn2 rc2,.slice ra3 rn3 rc3,.int .i64 rp.n,.int .i64 rp.m] 34 (0,0))->True:=fun _ _ _ _ _ _=>trivial;have HTN:=hid (fun W=>turns_any c.kind W);have hnb5:w.heap.size+1∉X5.fp mb:=fun hm=>(hst5.n _ hm).elim (hnb _ (.inr rfl)) (fun h=>by omega);have hs45:w.heap.size+2<=w5.heap.size:=by omega
  have HV:=jd9 hq6 hqb6 hqr6 hMO6 hrp6 hst6 hcl6 hfr6 (And.intro hs6 (And.intro hs5 (And.intro hs45 hnb5)));clear hs45 hqc hqc2 hstc hX4' hs4 hFe hlt4 hb6 hq6 hs6 hs5 hnb hnb5 hqb6 hqr6 hMO6 hrp6 hst6 hcl6 hfr6 hw6 hrb5 hbd hrp hMO5 hdm5 hcl5 hfr5 hst5 ro1 ro2 ro3 b0 b1 b2 b3 b4 b5 b6 hsc;by_cases hct:rp.code=0/\turnsI c.kind=true
  ·obtain⟨hc0,ht1⟩:=hct;have e0:(rp.code==0)=true:=by simpa using hc0
   rw[ht1] at HTN;obtain⟨hq6,hqb6,hqr6,hMO6,hrp6,hst6,hcl6,hfr6,hs6,hs5,hs4,hnb5⟩:=HV.out;have hnl:c.name.length<=maxLen:=Nat.le_trans H.out.2.2.2.1.nl (by unfold maxLen;omega);have hMOd:=hMO6.below (Below.refl w6.heap.size w6).drew;obtain⟨w7,hrun,hg7,hgr7,hs7,hf7⟩:=hMOd.h.upd K9 (t:=58) underlying58 c.name hnl (.bool true) rfl (by unfold maxLen;omega);have hrun':(Instr.mapUpdate 58 (.map (some X5.hm)) (str c.name) (.bool true)).run prog w6.drew = .ok () w7:=hrun;have hk7:Kept w6 w7 (·≠X5.hm):=(Kept.drew _ _).trans (Kept.grown hgr7 fun k hk=>by cases hk;simp);have hMO7:=hMO6.chg c.name hg7 hk7;have c2:=hMO6.cells.2.2.1;have hnot:∀ b c t f,w6.heap[b]? = some (.cells c t f)->b≠X5.hm:=fun b c t f hb e=>by obtain⟨es,k,h1⟩:=hMO6.h.isMap;rw[e,h1] at hb;cases hb
   have hq7:=(hk7.block _ (blk_lt hq6) (hnot _ _ _ _ hq6)).trans hq6;have hqr7:=(hk7.block _ (blk_lt hqr6) (hnot _ _ _ _ hqr6)).trans hqr6;have hrp7:=hrp6.kept hk7 fun b c t f hb _=>hnot b c t f hb;have hD:(doK F M c).1={M' with ch:=fun m=>if m=c.name then true else M'.ch m}/\(doK F M c).2=(rp,nf):=by
    unfold doK;rw[HFe.out];simp only[if_pos (And.intro hc0 ht1)];exact⟨trivial,trivial⟩
   have HD:=hid hD;have hst7:Stp w w7 (X.fp mb) (MX.fp mb {X5 with cl:=Mx.upd X5.cl c.name (.bool true)}):=hst6.trans ⟨hk7.imp fun b hb e=>hb (e▸MX.mem.2 (.inr (.inl rfl))),fun b hb => .inl hb⟩;obtain⟨Xt,hXt⟩:∃ z:MX,z={X5 with cl:=Mx.upd X5.cl c.name (.bool true)}:=⟨_,rfl⟩
   rw[<-hXt] at hMO7 hst7;have hXt':Xt.fr.length=nf/\w.heap.size+1∉Xt.fp mb:=by rw[hXt];exact⟨hfr6,hnb5⟩
   have HU:=jd8 hMO7 hq7 hqr7 hrp7 hst7 hXt'.1 (And.intro hs4 (And.intro hs5 (And.intro hs6 hk7.size))) hXt'.2;clear hq6 hqb6 hqr6 hMO6 hrp6 hst6 hcl6 hfr6 hMOd hg7 hgr7 hs7 hf7 hk7 hMO7 hnot hq7 hqr7 hrp7 hD hst7 hnb5 hXt hXt' hrun hs6 hs5 hs4 hc0 ht1;go_upto_region 11 with(go_at_call 23;refine(HTN.out _).mono ?_;rintro e wz ⟨rfl,rfl⟩)
   go_region
   go_upto_region 12 with(fail)
   obtain⟨wt,hwt⟩:∃ z:World,z=w7:=⟨_,rfl⟩
   subst hwt
   -- the tail
   obtain⟨hMOt,hq6,hqr6,hrp6,hst6,hfr6,hsz,hnb5⟩:=HU.out;obtain⟨_,_,_,_,_,_,_,c7,cz⟩:=hMOt.cells;have cz7:=cz 7;obtain⟨fa,fn,fc,hfv⟩:=ownG_sh hMOt.f;rw[hfv] at c7;obtain⟨hz4,hz5,hz6,hz7⟩:=hsz;have hmbt:mb<w.heap.size:=H.out.2.2.2.2.2.2.2.2.2.2.2.1;obtain⟨w8,hw8⟩:∃ z,z=wt.setCell ⟨mb,7,none⟩ (.slice none 0 0):=⟨_,rfl⟩
   have hk8:Kept wt w8 (·≠mb):=by rw[hw8];exact Kept.set _ _ _ _ (by simp)
   have hMO8:=hMOt.set (dm:=Xt.dm) (fv:=.slice none 0 0) (fr:=[]) hk8 (by rw[hw8,heap_setCell_at' wt mb 7 _ _ 73 _ hMOt.ck];rfl) (fun q e=>(hMOt.d q e).block (hk8.block _ (hMOt.d q e).lt ((Ap.of hMOt.nd).d q e).1)) (OwnG.nil _ _ _ _) (fun q e => .inl e) (.inr rfl);have hq8:w8.heap[w5.heap.size]? = some (.cells #[.int .i64 rp.code,.slice ra1 rn1 rc1,.slice ra2 rn2 rc2,.slice ra3 rn3 rc3,.int .i64 rp.n,.int .i64 rp.m] 34 (0,0)):=(hk8.block _ (blk_lt hq6) (by omega)).trans hq6;have hqr8:w8.heap[w.heap.size+1]? = some (.cells #[.int .i64 0,.slice none 0 0,.slice none 0 0,.slice none 0 0,.int .i64 0,.int .i64 0] 34 (0,0)):=(hk8.block _ (blk_lt hqr6) (by omega)).trans hqr6;have hrp8:=hrp6.kept hk8 fun b c t f hb ht e=>by rw[e,hMOt.ck] at hb;cases hb;rcases ht with h|h|h<;>cases h
   have hf8:OwnG w8 base 28 1 Xt.fv (Xt.fr.map fun v=>[v]):=hMOt.f.kept hk8 fun q e=>((Ap.of hMOt.nd).f q e).1;obtain⟨w9,hw9⟩:∃ z,z=w8.setCells (w.heap.size+1) 0 [.int .i64 rp.code,.slice ra1 rn1 rc1,.slice ra2 rn2 rc2,.slice ra3 rn3 rc3,.int .i64 rp.n,.int .i64 rp.m]:=⟨_,rfl⟩
   have hk9:Kept w8 w9 (·≠w.heap.size+1):=by rw[hw9];exact Kept.setCells _ _ _ _ (by simp)
   have hMO9:=hMO8.1.kept hk9 (fun b hb e=>by
    rcases hMO8.2.n b hb with h1|h1
    ·exact hnb5 (e▸h1)
    ·have:=blk_lt hqr6;omega) (fun b c t f hb ht e=>by rw[e,hqr8] at hb;cases hb;rcases ht with h|h|h<;>cases h)
   have hrp9:=hrp8.kept hk9 fun b c t f hb ht e=>by rw[e,hqr8] at hb;cases hb;rcases ht with h|h|h<;>cases h
   have hf9:OwnG w9 base 28 1 Xt.fv (Xt.fr.map fun v=>[v]):=hf8.kept hk9 fun q e e2=>by
    obtain⟨c9,f9,h9⟩:=ownG_type hf8 q e;rw[e2,hqr8] at h9;cases h9
   have hst9:Stp w w9 (X.fp mb) (MX.fp mb {Xt with dm:=Xt.dm,fv:=.slice none 0 0,fr:=[]}):=(hst6.trans hMO8.2).over hk9 (by omega);obtain⟨cur9,hcur9,hcl9⟩:=heap_setCells_at [.int .i64 rp.code,.slice ra1 rn1 rc1,.slice ra2 rn2 rc2,.slice ra3 rn3 rc3,.int .i64 rp.n,.int .i64 rp.m] w8 (w.heap.size+1) 0 _ 34 _ hqr8 (by simp);have x0:w8.cell? ⟨w.heap.size+1,0,none⟩=some (.int .i64 0):=by simp[World.cell?,hqr8]
   have x1:w8.cell? ⟨w.heap.size+1,1,none⟩=some (.slice none 0 0):=by simp[World.cell?,hqr8]
   have x2:w8.cell? ⟨w.heap.size+1,2,none⟩=some (.slice none 0 0):=by simp[World.cell?,hqr8]
   have x3:w8.cell? ⟨w.heap.size+1,3,none⟩=some (.slice none 0 0):=by simp[World.cell?,hqr8]
   have x4:w8.cell? ⟨w.heap.size+1,4,none⟩=some (.int .i64 0):=by simp[World.cell?,hqr8]
   have x5:w8.cell? ⟨w.heap.size+1,5,none⟩=some (.int .i64 0):=by simp[World.cell?,hqr8]
   have xz:∀ j,w8.frozen? ⟨w.heap.size+1,j,none⟩=false:=fun j=>by simp[World.frozen?,hqr8]
   have v0:w8.cell? ⟨w5.heap.size,0,none⟩=some (.int .i64 rp.code):=by simp[World.cell?,hq8]
   have v1:w8.cell? ⟨w5.heap.size,1,none⟩=some (.slice ra1 rn1 rc1):=by simp[World.cell?,hq8]
   have v2:w8.cell? ⟨w5.heap.size,2,none⟩=some (.slice ra2 rn2 rc2):=by simp[World.cell?,hq8]
   have v3:w8.cell? ⟨w5.heap.size,3,none⟩=some (.slice ra3 rn3 rc3):=by simp[World.cell?,hq8]
   have v4:w8.cell? ⟨w5.heap.size,4,none⟩=some (.int .i64 rp.n):=by simp[World.cell?,hq8]
   have v5:w8.cell? ⟨w5.heap.size,5,none⟩=some (.int .i64 rp.m):=by simp[World.cell?,hq8]
   have hcj0:∀ j v,([.int .i64 rp.code,.slice ra1 rn1 rc1,.slice ra2 rn2 rc2,.slice ra3 rn3 rc3,.int .i64 rp.n,.int .i64 rp.m]:List Value)[j]? = some v->w9.cell? ⟨w.heap.size+1,j,none⟩=some v:=fun j v hv=>by
    rw[hw9];simp only[World.cell?,hcur9];simp only[List.take_zero,List.nil_append] at hcl9;rw[<-Array.getElem?_toList,hcl9];simp only[Option.isSome_none,Bool.false_eq_true,if_false];rw[List.getElem?_append_left (by have:=(List.getElem?_eq_some_iff.1 hv).1;exact this)];exact hv
   have HCJ:=hid hcj0;clear hcj0;have HY:=jd8 hMO9 hrp9 hf9 hst9 hw8 hw9 hfv hfr6;clear hMOt hq6 hqr6 hrp6 hst6 hfr6 hfv hk8 hMO8 hq8 hrp8 hf8 hk9 hMO9 hrp9 hf9 hst9 cz hw9 hcur9 hcl9;go_upto_region 14 with(fail)
   rw[<-hw8];clear hw8 c7 cz7;have hcj:∀ j v,([.int .i64 rp.code,.slice ra1 rn1 rc1,.slice ra2 rn2 rc2,.slice ra3 rn3 rc3,.int .i64 rp.n,.int .i64 rp.m]:List Value)[j]? = some v->w9.cell? ⟨w.heap.size+1,j,none⟩=some v:=HCJ.out
   go_wp2_with fail
   have hwe:=HY.out.2.2.2.2.2.1;have hwe2:w9=((((((w8.setCell ⟨w.heap.size+1,0,none⟩ (.int .i64 rp.code)).setCell ⟨w.heap.size+1,1,none⟩ (.slice ra1 rn1 rc1)).setCell ⟨w.heap.size+1,2,none⟩ (.slice ra2 rn2 rc2)).setCell ⟨w.heap.size+1,3,none⟩ (.slice ra3 rn3 rc3)).setCell ⟨w.heap.size+1,4,none⟩ (.int .i64 rp.n)).setCell ⟨w.heap.size+1,5,none⟩ (.int .i64 rp.m)):=hwe;rw[<-hwe2];have y0:=hcj 0 _ rfl;have y1:=hcj 1 _ rfl;have y2:=hcj 2 _ rfl;have y3:=hcj 3 _ rfl;have y4:=hcj 4 _ rfl;have y5:=hcj 5 _ rfl;rw[HD.out.1,HD.out.2];obtain⟨hMO9,hrp9,hf9,hst9,_,_,hfv9,hfr9⟩:=HY.out;have hf9':OwnG w9 base 28 1 (.slice fa fn fc) (Xt.fr.map fun v=>[v]):=by rw[<-hfv9];exact hf9
   clear hcj hwe hwe2 v0 v1 v2 v3 v4 v5 x0 x1 x2 x3 x4 x5 xz;exact bodyPost_ret (v:=.tuple #[rpV rp.code (.slice ra1 rn1 rc1) (.slice ra2 rn2 rc2) (.slice ra3 rn3 rc3) rp.n rp.m,.slice fa fn fc]) (by simp[results,results14,go_sem,y0,y1,y2,y3,y4,y5]) rfl ⟨_,_,_,rfl,hrp9.base HBS.out,⟨Xt.fr,hf9',hfr9⟩,hMO9,rfl,rfl,hst9⟩
  ·have hgo:(rp.code==0)=false\/((rp.code==0)=true/\turnsI c.kind=false):=by
    by_cases h1:rp.code=0
    ·exact .inr ⟨by simpa using h1,by cases h2:turnsI c.kind with|false=>rfl|true=>exact absurd ⟨h1,h2⟩ hct⟩
    ·exact .inl (by simpa using h1)
   obtain⟨hq6,hqb6,hqr6,hMO6,hrp6,hst6,hcl6,hfr6,hs6,hs5,hs4,hnb5⟩:=HV.out;have hD:(doK F M c).1=M'/\(doK F M c).2=(rp,nf):=by
    unfold doK;rw[HFe.out];simp only[if_neg hct];exact⟨trivial,trivial⟩
   have HD:=hid hD;obtain⟨Xt,hXt⟩:∃ z:MX,z=X5:=⟨_,rfl⟩
   subst hXt;have HU:=jd8 hMO6 hq6 hqr6 hrp6 hst6 hfr6 (And.intro hs4 (And.intro hs5 (And.intro hs6 (Nat.le_refl w6.heap.size)))) hnb5;clear hq6 hqb6 hqr6 hMO6 hrp6 hst6 hcl6 hfr6 hD hnb5 hs6 hs5 hs4 hct;rcases hgo with e0|⟨e0,ht1⟩
   ·go_upto_region 12 with(fail)
    obtain⟨wt,hwt⟩:∃ z:World,z=w6:=⟨_,rfl⟩
    subst hwt
    -- the tail
    obtain⟨hMOt,hq6,hqr6,hrp6,hst6,hfr6,hsz,hnb5⟩:=HU.out;obtain⟨_,_,_,_,_,_,_,c7,cz⟩:=hMOt.cells;have cz7:=cz 7;obtain⟨fa,fn,fc,hfv⟩:=ownG_sh hMOt.f;rw[hfv] at c7;obtain⟨hz4,hz5,hz6,hz7⟩:=hsz;have hmbt:mb<w.heap.size:=H.out.2.2.2.2.2.2.2.2.2.2.2.1;obtain⟨w8,hw8⟩:∃ z,z=wt.setCell ⟨mb,7,none⟩ (.slice none 0 0):=⟨_,rfl⟩
    have hk8:Kept wt w8 (·≠mb):=by rw[hw8];exact Kept.set _ _ _ _ (by simp)
    have hMO8:=hMOt.set (dm:=Xt.dm) (fv:=.slice none 0 0) (fr:=[]) hk8 (by rw[hw8,heap_setCell_at' wt mb 7 _ _ 73 _ hMOt.ck];rfl) (fun q e=>(hMOt.d q e).block (hk8.block _ (hMOt.d q e).lt ((Ap.of hMOt.nd).d q e).1)) (OwnG.nil _ _ _ _) (fun q e => .inl e) (.inr rfl);have hq8:w8.heap[w5.heap.size]? = some (.cells #[.int .i64 rp.code,.slice ra1 rn1 rc1,.slice ra2 rn2 rc2,.slice ra3 rn3 rc3,.int .i64 rp.n,.int .i64 rp.m] 34 (0,0)):=(hk8.block _ (blk_lt hq6) (by omega)).trans hq6;have hqr8:w8.heap[w.heap.size+1]? = some (.cells #[.int .i64 0,.slice none 0 0,.slice none 0 0,.slice none 0 0,.int .i64 0,.int .i64 0] 34 (0,0)):=(hk8.block _ (blk_lt hqr6) (by omega)).trans hqr6;have hrp8:=hrp6.kept hk8 fun b c t f hb ht e=>by rw[e,hMOt.ck] at hb;cases hb;rcases ht with h|h|h<;>cases h
    have hf8:OwnG w8 base 28 1 Xt.fv (Xt.fr.map fun v=>[v]):=hMOt.f.kept hk8 fun q e=>((Ap.of hMOt.nd).f q e).1;obtain⟨w9,hw9⟩:∃ z,z=w8.setCells (w.heap.size+1) 0 [.int .i64 rp.code,.slice ra1 rn1 rc1,.slice ra2 rn2 rc2,.slice ra3 rn3 rc3,.int .i64 rp.n,.int .i64 rp.m]:=⟨_,rfl⟩
    have hk9:Kept w8 w9 (·≠w.heap.size+1):=by rw[hw9];exact Kept.setCells _ _ _ _ (by simp)
    have hMO9:=hMO8.1.kept hk9 (fun b hb e=>by
     rcases hMO8.2.n b hb with h1|h1
     ·exact hnb5 (e▸h1)
     ·have:=blk_lt hqr6;omega) (fun b c t f hb ht e=>by rw[e,hqr8] at hb;cases hb;rcases ht with h|h|h<;>cases h)
    have hrp9:=hrp8.kept hk9 fun b c t f hb ht e=>by rw[e,hqr8] at hb;cases hb;rcases ht with h|h|h<;>cases h
    have hf9:OwnG w9 base 28 1 Xt.fv (Xt.fr.map fun v=>[v]):=hf8.kept hk9 fun q e e2=>by
     obtain⟨c9,f9,h9⟩:=ownG_type hf8 q e;rw[e2,hqr8] at h9;cases h9
    have hst9:Stp w w9 (X.fp mb) (MX.fp mb {Xt with dm:=Xt.dm,fv:=.slice none 0 0,fr:=[]}):=(hst6.trans hMO8.2).over hk9 (by omega);obtain⟨cur9,hcur9,hcl9⟩:=heap_setCells_at [.int .i64 rp.code,.slice ra1 rn1 rc1,.slice ra2 rn2 rc2,.slice ra3 rn3 rc3,.int .i64 rp.n,.int .i64 rp.m] w8 (w.heap.size+1) 0 _ 34 _ hqr8 (by simp);have x0:w8.cell? ⟨w.heap.size+1,0,none⟩=some (.int .i64 0):=by simp[World.cell?,hqr8]
    have x1:w8.cell? ⟨w.heap.size+1,1,none⟩=some (.slice none 0 0):=by simp[World.cell?,hqr8]
    have x2:w8.cell? ⟨w.heap.size+1,2,none⟩=some (.slice none 0 0):=by simp[World.cell?,hqr8]
    have x3:w8.cell? ⟨w.heap.size+1,3,none⟩=some (.slice none 0 0):=by simp[World.cell?,hqr8]
    have x4:w8.cell? ⟨w.heap.size+1,4,none⟩=some (.int .i64 0):=by simp[World.cell?,hqr8]
    have x5:w8.cell? ⟨w.heap.size+1,5,none⟩=some (.int .i64 0):=by simp[World.cell?,hqr8]
    have xz:∀ j,w8.frozen? ⟨w.heap.size+1,j,none⟩=false:=fun j=>by simp[World.frozen?,hqr8]
    have v0:w8.cell? ⟨w5.heap.size,0,none⟩=some (.int .i64 rp.code):=by simp[World.cell?,hq8]
    have v1:w8.cell? ⟨w5.heap.size,1,none⟩=some (.slice ra1 rn1 rc1):=by simp[World.cell?,hq8]
    have v2:w8.cell? ⟨w5.heap.size,2,none⟩=some (.slice ra2 rn2 rc2):=by simp[World.cell?,hq8]
    have v3:w8.cell? ⟨w5.heap.size,3,none⟩=some (.slice ra3 rn3 rc3):=by simp[World.cell?,hq8]
    have v4:w8.cell? ⟨w5.heap.size,4,none⟩=some (.int .i64 rp.n):=by simp[World.cell?,hq8]
    have v5:w8.cell? ⟨w5.heap.size,5,none⟩=some (.int .i64 rp.m):=by simp[World.cell?,hq8]
    have hcj0:∀ j v,([.int .i64 rp.code,.slice ra1 rn1 rc1,.slice ra2 rn2 rc2,.slice ra3 rn3 rc3,.int .i64 rp.n,.int .i64 rp.m]:List Value)[j]? = some v->w9.cell? ⟨w.heap.size+1,j,none⟩=some v:=fun j v hv=>by
     rw[hw9];simp only[World.cell?,hcur9];simp only[List.take_zero,List.nil_append] at hcl9;rw[<-Array.getElem?_toList,hcl9];simp only[Option.isSome_none,Bool.false_eq_true,if_false];rw[List.getElem?_append_left (by have:=(List.getElem?_eq_some_iff.1 hv).1;exact this)];exact hv
    have HCJ:=hid hcj0;clear hcj0;have HY:=jd8 hMO9 hrp9 hf9 hst9 hw8 hw9 hfv hfr6;clear hMOt hq6 hqr6 hrp6 hst6 hfr6 hfv hk8 hMO8 hq8 hrp8 hf8 hk9 hMO9 hrp9 hf9 hst9 cz hw9 hcur9 hcl9;go_upto_region 14 with(fail)
    rw[<-hw8];clear hw8 c7 cz7;have hcj:∀ j v,([.int .i64 rp.code,.slice ra1 rn1 rc1,.slice ra2 rn2 rc2,.slice ra3 rn3 rc3,.int .i64 rp.n,.int .i64 rp.m]:List Value)[j]? = some v->w9.cell? ⟨w.heap.size+1,j,none⟩=some v:=HCJ.out
    go_wp2_with fail
    have hwe:=HY.out.2.2.2.2.2.1;have hwe2:w9=((((((w8.setCell ⟨w.heap.size+1,0,none⟩ (.int .i64 rp.code)).setCell ⟨w.heap.size+1,1,none⟩ (.slice ra1 rn1 rc1)).setCell ⟨w.heap.size+1,2,none⟩ (.slice ra2 rn2 rc2)).setCell ⟨w.heap.size+1,3,none⟩ (.slice ra3 rn3 rc3)).setCell ⟨w.heap.size+1,4,none⟩ (.int .i64 rp.n)).setCell ⟨w.heap.size+1,5,none⟩ (.int .i64 rp.m)):=hwe;rw[<-hwe2];have y0:=hcj 0 _ rfl;have y1:=hcj 1 _ rfl;have y2:=hcj 2 _ rfl;have y3:=hcj 3 _ rfl;have y4:=hcj 4 _ rfl;have y5:=hcj 5 _ rfl;rw[HD.out.1,HD.out.2];obtain⟨hMO9,hrp9,hf9,hst9,_,_,hfv9,hfr9⟩:=HY.out;have hf9':OwnG w9 base 28 1 (.slice fa fn fc) (Xt.fr.map fun v=>[v]):=by rw[<-hfv9];exact hf9
    clear hcj hwe hwe2 v0 v1 v2 v3 v4 v5 x0 x1 x2 x3 x4 x5 xz;exact bodyPost_ret (v:=.tuple #[rpV rp.code (.slice ra1 rn1 rc1) (.slice ra2 rn2 rc2) (.slice ra3 rn3 rc3) rp.n rp.m,.slice fa fn fc]) (by simp[results,results14,go_sem,y0,y1,y2,y3,y4,y5]) rfl ⟨_,_,_,rfl,hrp9.base HBS.out,⟨Xt.fr,hf9',hfr9⟩,hMO9,rfl,rfl,hst9⟩
   ·rw[ht1] at HTN;go_upto_region 12 with(go_at_call 23;refine(HTN.out _).mono ?_;rintro e wt ⟨rfl,rfl⟩)
    -- the tail
    obtain⟨hMOt,hq6,hqr6,hrp6,hst6,hfr6,hsz,hnb5⟩:=HU.out;obtain⟨_,_,_,_,_,_,_,c7,cz⟩:=hMOt.cells;have cz7:=cz 7;obtain⟨fa,fn,fc,hfv⟩:=ownG_sh hMOt.f;rw[hfv] at c7;obtain⟨hz4,hz5,hz6,hz7⟩:=hsz;have hmbt:mb<w.heap.size:=H.out.2.2.2.2.2.2.2.2.2.2.2.1;obtain⟨w8,hw8⟩:∃ z,z=wt.setCell ⟨mb,7,none⟩ (.slice none 0 0):=⟨_,rfl⟩
    have hk8:Kept wt w8 (·≠mb):=by rw[hw8];exact Kept.set _ _ _ _ (by simp)
    have hMO8:=hMOt.set (dm:=Xt.dm) (fv:=.slice none 0 0) (fr:=[]) hk8 (by rw[hw8,heap_setCell_at' wt mb 7 _ _ 73 _ hMOt.ck];rfl) (fun q e=>(hMOt.d q e).block (hk8.block _ (hMOt.d q e).lt ((Ap.of hMOt.nd).d q e).1)) (OwnG.nil _ _ _ _) (fun q e => .inl e) (.inr rfl);have hq8:w8.heap[w5.heap.size]? = some (.cells #[.int .i64 rp.code,.slice ra1 rn1 rc1,.slice ra2 rn2 rc2,.slice ra3 rn3 rc3,.int .i64 rp.n,.int .i64 rp.m] 34 (0,0)):=(hk8.block _ (blk_lt hq6) (by omega)).trans hq6;have hqr8:w8.heap[w.heap.size+1]? = some (.cells #[.int .i64 0,.slice none 0 0,.slice none 0 0,.slice none 0 0,.int .i64 0,.int .i64 0] 34 (0,0)):=(hk8.block _ (blk_lt hqr6) (by omega)).trans hqr6;have hrp8:=hrp6.kept hk8 fun b c t f hb ht e=>by rw[e,hMOt.ck] at hb;cases hb;rcases ht with h|h|h<;>cases h
    have hf8:OwnG w8 base 28 1 Xt.fv (Xt.fr.map fun v=>[v]):=hMOt.f.kept hk8 fun q e=>((Ap.of hMOt.nd).f q e).1;obtain⟨w9,hw9⟩:∃ z,z=w8.setCells (w.heap.size+1) 0 [.int .i64 rp.code,.slice ra1 rn1 rc1,.slice ra2 rn2 rc2,.slice ra3 rn3 rc3,.int .i64 rp.n,.int .i64 rp.m]:=⟨_,rfl⟩
    have hk9:Kept w8 w9 (·≠w.heap.size+1):=by rw[hw9];exact Kept.setCells _ _ _ _ (by simp)
    have hMO9:=hMO8.1.kept hk9 (fun b hb e=>by
     rcases hMO8.2.n b hb with h1|h1
     ·exact hnb5 (e▸h1)
     ·have:=blk_lt hqr6;omega) (fun b c t f hb ht e=>by rw[e,hqr8] at hb;cases hb;rcases ht with h|h|h<;>cases h)
    have hrp9:=hrp8.kept hk9 fun b c t f hb ht e=>by rw[e,hqr8] at hb;cases hb;rcases ht with h|h|h<;>cases h
    have hf9:OwnG w9 base 28 1 Xt.fv (Xt.fr.map fun v=>[v]):=hf8.kept hk9 fun q e e2=>by
     obtain⟨c9,f9,h9⟩:=ownG_type hf8 q e;rw[e2,hqr8] at h9;cases h9
    have hst9:Stp w w9 (X.fp mb) (MX.fp mb {Xt with dm:=Xt.dm,fv:=.slice none 0 0,fr:=[]}):=(hst6.trans hMO8.2).over hk9 (by omega);obtain⟨cur9,hcur9,hcl9⟩:=heap_setCells_at [.int .i64 rp.code,.slice ra1 rn1 rc1,.slice ra2 rn2 rc2,.slice ra3 rn3 rc3,.int .i64 rp.n,.int .i64 rp.m] w8 (w.heap.size+1) 0 _ 34 _ hqr8 (by simp);have x0:w8.cell? ⟨w.heap.size+1,0,none⟩=some (.int .i64 0):=by simp[World.cell?,hqr8]
    have x1:w8.cell? ⟨w.heap.size+1,1,none⟩=some (.slice none 0 0):=by simp[World.cell?,hqr8]
    have x2:w8.cell? ⟨w.heap.size+1,2,none⟩=some (.slice none 0 0):=by simp[World.cell?,hqr8]
    have x3:w8.cell? ⟨w.heap.size+1,3,none⟩=some (.slice none 0 0):=by simp[World.cell?,hqr8]
    have x4:w8.cell? ⟨w.heap.size+1,4,none⟩=some (.int .i64 0):=by simp[World.cell?,hqr8]
    have x5:w8.cell? ⟨w.heap.size+1,5,none⟩=some (.int .i64 0):=by simp[World.cell?,hqr8]
    have xz:∀ j,w8.frozen? ⟨w.heap.size+1,j,none⟩=false:=fun j=>by simp[World.frozen?,hqr8]
    have v0:w8.cell? ⟨w5.heap.size,0,none⟩=some (.int .i64 rp.code):=by simp[World.cell?,hq8]
    have v1:w8.cell? ⟨w5.heap.size,1,none⟩=some (.slice ra1 rn1 rc1):=by simp[World.cell?,hq8]
    have v2:w8.cell? ⟨w5.heap.size,2,none⟩=some (.slice ra2 rn2 rc2):=by simp[World.cell?,hq8]
    have v3:w8.cell? ⟨w5.heap.size,3,none⟩=some (.slice ra3 rn3 rc3):=by simp[World.cell?,hq8]
    have v4:w8.cell? ⟨w5.heap.size,4,none⟩=some (.int .i64 rp.n):=by simp[World.cell?,hq8]
    have v5:w8.cell? ⟨w5.heap.size,5,none⟩=some (.int .i64 rp.m):=by simp[World.cell?,hq8]
    have hcj0:∀ j v,([.int .i64 rp.code,.slice ra1 rn1 rc1,.slice ra2 rn2 rc2,.slice ra3 rn3 rc3,.int .i64 rp.n,.int .i64 rp.m]:List Value)[j]? = some v->w9.cell? ⟨w.heap.size+1,j,none⟩=some v:=fun j v hv=>by
     rw[hw9];simp only[World.cell?,hcur9];simp only[List.take_zero,List.nil_append] at hcl9;rw[<-Array.getElem?_toList,hcl9];simp only[Option.isSome_none,Bool.false_eq_true,if_false];rw[List.getElem?_append_left (by have:=(List.getElem?_eq_some_iff.1 hv).1;exact this)];exact hv
    have HCJ:=hid hcj0;clear hcj0;have HY:=jd8 hMO9 hrp9 hf9 hst9 hw8 hw9 hfv hfr6;clear hMOt hq6 hqr6 hrp6 hst6 hfr6 hfv hk8 hMO8 hq8 hrp8 hf8 hk9 hMO9 hrp9 hf9 hst9 cz hw9 hcur9 hcl9;go_upto_region 14 with(fail)
    rw[<-hw8];clear hw8 c7 cz7;have hcj:∀ j v,([.int .i64 rp.code,.slice ra1 rn1 rc1,.slice ra2 rn2 rc2,.slice ra3 rn3 rc3,.int .i64 rp.n,.int .i64 rp.m]:List Value)[j]? = some v->w9.cell? ⟨w.heap.size+1,j,none⟩=some v:=HCJ.out
    go_wp2_with fail
    have hwe:=HY.out.2.2.2.2.2.1;have hwe2:w9=((((((w8.setCell ⟨w.heap.size+1,0,none⟩ (.int .i64 rp.code)).setCell ⟨w.heap.size+1,1,none⟩ (.slice ra1 rn1 rc1)).setCell ⟨w.heap.size+1,2,none⟩ (.slice ra2 rn2 rc2)).setCell ⟨w.heap.size+1,3,none⟩ (.slice ra3 rn3 rc3)).setCell ⟨w.heap.size+1,4,none⟩ (.int .i64 rp.n)).setCell ⟨w.heap.size+1,5,none⟩ (.int .i64 rp.m)):=hwe;rw[<-hwe2];have y0:=hcj 0 _ rfl;have y1:=hcj 1 _ rfl;have y2:=hcj 2 _ rfl;have y3:=hcj 3 _ rfl;have y4:=hcj 4 _ rfl;have y5:=hcj 5 _ rfl;rw[HD.out.1,HD.out.2];obtain⟨hMO9,hrp9,hf9,hst9,_,_,hfv9,hfr9⟩:=HY.out;have hf9':OwnG w9 base 28 1 (.slice fa fn fc) (Xt.fr.map fun v=>[v]):=by rw[<-hfv9];exact hf9
    clear hcj hwe hwe2 v0 v1 v2 v3 v4 v5 x0 x1 x2 x3 x4 x5 xz;exact bodyPost_ret (v:=.tuple #[rpV rp.code (.slice ra1 rn1 rc1) (.slice ra2 rn2 rc2) (.slice ra3 rn3 rc3) rp.n rp.m,.slice fa fn fc]) (by simp[results,results14,go_sem,y0,y1,y2,y3,y4,y5]) rfl ⟨_,_,_,rfl,hrp9.base HBS.out,⟨Xt.fr,hf9',hfr9⟩,hMO9,rfl,rfl,hst9⟩
end Go.Proofs.YtgkabcaodnofnaaGreat
