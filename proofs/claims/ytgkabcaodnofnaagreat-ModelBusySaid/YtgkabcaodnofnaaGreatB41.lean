import Derived.Test.YtgkabcaodnofnaaGreatB38
import Derived.Test.YtgkabcaodnofnaaGreatB39
import Derived.Test.YtgkabcaodnofnaaGreatB40
import Derived.Test.YtgkabcaodnofnaaGreatB16
import Derived.Test.YtgkabcaodnofnaaGreatB28
import Derived.Test.YtgkabcaodnofnaaGreatB27
import Derived.Test.YtgkabcaodnofnaaGreatB24
import Derived.Test.YtgkabcaodnofnaaGreatB25
import Derived.Test.YtgkabcaodnofnaaGreatB26
import Derived.Test.YtgkabcaodnofnaaGreatB18
import Derived.Test.YtgkabcaodnofnaaGreatB33
import Derived.Test.YtgkabcaodnofnaaGreatB32
set_option linter.unusedSimpArgs false
set_option linter.unusedVariables false
set_option maxRecDepth 100000
set_option maxHeartbeats 2000000
open Go.Proofs.Tryz
namespace Go.Proofs.YtgkabcaodnofnaaGreat
open Go.RowKit Go.Mx Go.Md
variable {w w':World}{base mb:Nat}{M:MM}{X:MX}
theorem nil_nilIn (d:Nat)(w:World):(Op.equalIn (d+1) 75 .nilFunc .nilFunc).run prog w = .ok true w:=by
 have hu:=underlying75;simp[Op.equalIn,run_underlying hu]
theorem nil_nil (w:World):(binOp .eql 75 .nilFunc .nilFunc).run prog w = .ok (.bool true) w:=by
 simp only[binOp];simp[show Op.equal 75 .nilFunc .nilFunc=Op.equalIn (9999+1) 75 .nilFunc .nilFunc from rfl,nil_nilIn 9999]
theorem do_none (c:Cm)(hf:Mx.look (tabL mb) c.kind=none)(hwf:(Lit.int .i64 c.kind).wf=true)
  (h:MO w base mb M X) (hM:MOk M) (hbase:base<=w.heap.size) (dv:Value) (hC:CIn w (X.fp mb) c dv) (hp:True) (hcl:X.cl.length<=1000) :
  Calls prog 14 #[pt mb,cmV c dv] w fun e w'=>∃ r lv X',e = .returned (.tuple #[r,lv])/\RepOK w' w.heap.size r (failR 1)/\(∃ fr:List Value,OwnG w' base 28 1 lv (fr.map fun v=>[v])/\fr.length=0)/\MO w' base mb M X'/\X'.fr=[]/\X'.fv = .slice none 0 0/\Stp w w' (X.fp mb) (X'.fp mb):=by
 obtain⟨w1,hw1⟩:∃ z,z=w.alloc (.cells #[.int .i64 c.kind,str c.name,str c.tt,.int .i64 c.a,.int .i64 c.n,.int .i64 c.m,dv] 25):=⟨_,rfl⟩
 obtain⟨w2,hw2⟩:∃ z,z=w1.alloc (.cells #[.int .i64 0,.slice none 0 0,.slice none 0 0,.slice none 0 0,.int .i64 0,.int .i64 0] 34):=⟨_,rfl⟩
 have hb1:Below w.heap.size w w1:=by rw[hw1];exact brf.alloc nlr _
 have hs1:w1.heap.size=w.heap.size+1:=by rw[hw1];simp
 have hb2:Below w1.heap.size w1 w2:=by rw[hw2];exact brf.alloc nlr _
 have hs2:w2.heap.size=w.heap.size+2:=by rw[hw2];simp[hs1]
 have hb02:Below w.heap.size w w2:=hb1.trans (hb2.mono (by omega));have hq1:w2.heap[w.heap.size]? = some (.cells #[.int .i64 c.kind,str c.name,str c.tt,.int .i64 c.a,.int .i64 c.n,.int .i64 c.m,dv] 25 (0,0)):=(hb2.block _ (by omega)).trans (by rw[hw1];exact alloc_new w _);have hq2:w2.heap[w.heap.size+1]? = some (.cells #[.int .i64 0,.slice none 0 0,.slice none 0 0,.slice none 0 0,.int .i64 0,.int .i64 0] 34 (0,0)):=by rw[hw2,<-hs1];exact alloc_new w1 _
 have h2:=h.below hb02;have hlt:=h.lt;obtain⟨c0,_,c2',_,_,_,_,c7,cz⟩:=h2.cells;obtain⟨fa,fn,fc,hfv⟩:=ownG_sh h2.f;rw[hfv] at c7;have cz7:=cz 7;obtain⟨da,dn,dc,rfl⟩:=slB_shape hC.d.slB;obtain⟨X3,hX3⟩:∃ z:MX,z={X with dm:=X.dm,fv:=.slice none 0 0,fr:=[]}:=⟨_,rfl⟩
 obtain⟨w3,hw3⟩:∃ z,z=w2.setCell ⟨mb,7,none⟩ (.slice none 0 0):=⟨_,rfl⟩
 have hk3:Kept w2 w3 (·≠mb):=by rw[hw3];exact Kept.set _ _ _ _ (by simp)
 have hMO3:MO w3 base mb M X3/\Stp w2 w3 (X.fp mb) (X3.fp mb):=by
  rw[hX3];exact h2.set hk3 (by rw[hw3,heap_setCell_at' w2 mb 7 _ _ 73 _ h2.ck];rfl) (fun q e=>(h2.d q e).block (hk3.block _ (h2.d q e).lt ((Ap.of h2.nd).d q e).1)) (OwnG.nil _ _ _ _) (fun q e => .inl e) (.inr rfl)
 have hmb:mb<w.heap.size:=blk_lt h.ck;have hq13:w3.heap[w.heap.size]? = some (.cells #[.int .i64 c.kind,str c.name,str c.tt,.int .i64 c.a,.int .i64 c.n,.int .i64 c.m,.slice da dn dc] 25 (0,0)):=(hk3.block _ (by omega) (by omega)).trans hq1;have hq23:w3.heap[w.heap.size+1]? = some (.cells #[.int .i64 0,.slice none 0 0,.slice none 0 0,.slice none 0 0,.int .i64 0,.int .i64 0] 34 (0,0)):=(hk3.block _ (by omega) (by omega)).trans hq2;have hst3:Stp w w3 (X.fp mb) (X3.fp mb):=(Stp.of_below hb02 _).trans hMO3.2;have hX3':X3.fv = .slice none 0 0/\X3.fr=[]/\X3.cl=X.cl:=by rw[hX3];exact⟨rfl,rfl,rfl⟩
 have hs3:w3.heap.size=w.heap.size+2:=by rw[hw3,World.size_setCell,hs2]
 have HT:=hid (table_any (hMO3.1.below (Below.refl w3.heap.size w3).drew) hX3'.1);have hlt3:∀ b∈X3.fp mb,b<w.heap.size:=fun b hb=>by
  rcases hMO3.2.n b hb with h1|h1
  ·exact hlt b h1
  ·have:b<w3.heap.size:=hMO3.1.lt b hb;rw[hX3] at hb;rw[MX.mem] at hb;rcases hb with e|e|e|e|e|e
   ·omega
   ·have:=h.h.lt;have e2:b=X.hm:=e;omega
   ·exact(h.d b e).lt
   ·cases e
   ·exact h.a.lt b e
   ·exact h.k.lt b e
 have H:=jd9 h hM hbase hC hp hcl hMO3.1 hst3 (And.intro hX3' (And.intro hlt3 (And.intro hs3 (And.intro hmb (And.intro hq13 hq23)))));have HW:=jd3 hw1 hw2 hw3;clear h hM hC hp hb1 hs1 hb2 hs2 hb02 hq1 hq2 h2 hlt c0 c2' hfv hk3 hMO3 hst3 hX3' hlt3 hs3 hX3 hw1 hw2 hw3 cz hq13 hq23;go_enter func14,ntmps14
 go_upto_region 3 with(fail)
 rw[<-HW.out.1,<-HW.out.2.1];go_upto_region 4 with(fail)
 rw[<-HW.out.2.2];have hkk:=fun(W:World) (hW:W.heap[w.heap.size]? = some (.cells #[.int .i64 c.kind,str c.name,str c.tt,.int .i64 c.a,.int .i64 c.n,.int .i64 c.m,.slice da dn dc] 25 (0,0)))=>(show W.cell? ⟨w.heap.size,0,none⟩=some (.int .i64 c.kind) by simp[World.cell?,hW])
 have hS0:=H.out.2.2.2.2.2.2.2.2.2.2.2.2.1;clear c7 cz7;have hok:EI.ok c.kind:=hwf
 go_region_held (fun W=>W.heap[w.heap.size]? = some (.cells #[.int .i64 c.kind,str c.name,str c.tt,.int .i64 c.a,.int .i64 c.n,.int .i64 c.m,.slice da dn dc] 25 (0,0))) (first|exact hS0|assumption) (first
  | (go_at_call 22;refine HT.out.mono ?_;rintro e w4 ⟨dm,rfl,hMO4,hst4⟩;have hS4:=(hst4.k.block w.heap.size (by have:=H.out.2.2.2.2.2.2.2.2.2.2.1;show w.heap.size<w3.heap.size;omega) (fun hm=>by have:=H.out.2.2.2.2.2.2.2.2.2.1 _ hm;omega)).trans hS0;have hl4:=(hMO4.d dm rfl).look K3 (t:=71) underlying71 zero75 (zd:=.agg [.lit (.int .i64 7)]) rfl c.kind hok;rw[hf] at hl4;have hl5:(Instr.lookup 71 (.map (some dm)) (.int .i64 c.kind) false).run prog w4 = .ok .nilFunc w4:=hl4))
 have hMO4':MO w4 base mb M {X3 with dm:=some dm}:=hMO4;obtain⟨X4,hX4⟩:∃ z:MX,z={X3 with dm:=some dm}:=⟨_,rfl⟩
 rw[<-hX4] at hMO4 hst4;have hX4':X4.fv = .slice none 0 0/\X4.fr=[]/\X4.cl=X.cl:=by rw[hX4];exact H.out.2.2.2.2.2.2.2.2.1
 have hst04:Stp w w4 (X.fp mb) (X4.fp mb):=H.out.2.2.2.2.2.2.2.1.trans ⟨⟨hst4.k.size,hst4.k.block,hst4.k.st⟩,hst4.n⟩;have hq24:w4.heap[w.heap.size+1]? = some (.cells #[.int .i64 0,.slice none 0 0,.slice none 0 0,.slice none 0 0,.int .i64 0,.int .i64 0] 34 (0,0)):=(hst4.k.block (w.heap.size+1) (by have:=H.out.2.2.2.2.2.2.2.2.2.2.1;show w.heap.size+1<w3.heap.size;omega) (fun hm=>by have:=H.out.2.2.2.2.2.2.2.2.2.1 _ hm;omega)).trans H.out.2.2.2.2.2.2.2.2.2.2.2.2.2;have hs4:w.heap.size+2<=w4.heap.size:=by have:=hst4.k.size;have h3:=H.out.2.2.2.2.2.2.2.2.2.2.1;have:w3.heap.size<=w4.heap.size:=this;omega
 have hlt4:∀ b∈X4.fp mb,b<w.heap.size\/w.heap.size+2<=b:=fun b hb=>(hst4.n b hb).imp (H.out.2.2.2.2.2.2.2.2.2.1 b) fun h=>by
  have h3:=H.out.2.2.2.2.2.2.2.2.2.2.1;have h4:w3.heap.size<=b:=h;omega
 have c0:=hMO4.cells.1;have HC:=hid (hMO4.a.at c.name (Nat.le_trans H.out.2.2.2.1.nl (by unfold maxLen;omega)));have H4:=jd7 hMO4 hX4' hst04 hS4 hq24 hs4 hlt4;clear hMO4 hMO4' hX4' hst04 hq24 hs4 hst4 hX4 hl4 hlt4;have hqn:=nil_nil;go_upto_region 6 with(fail)
 go_wp2_with (go_at_call 21;refine(failed_any 1 _).mono ?_;rintro e w9 ⟨rfl,hb9⟩;have HB9:=hid (hb9);obtain⟨x0,x1,x2,x3,x4,x5,xz⟩:=zcells ((HB9.out.block (w.heap.size+1) (by have:=H4.out.2.2.2.2.2.1;omega)).trans H4.out.2.2.2.2.1))
 obtain⟨hMO4,hX4',hst04,hS4,hq24,hs4,hlt4⟩:=H4.out;have hmbt:mb<w.heap.size:=H.out.2.2.2.2.2.2.2.2.2.2.2.1;have hMO9:=hMO4.below HB9.out;have hz9:=(HB9.out.block (w.heap.size+1) (by omega)).trans hq24;have hk9:=st6_kept w9 (w.heap.size+1) (.int .i64 1) nilS nilS nilS (.int .i64 0) (.int .i64 0);have hMOW:=hMO9.kept hk9 (fun b hb e=>by rcases hlt4 b hb with h1|h1<;>omega) (fun b c t f hb ht e=>by rw[e,hz9] at hb;cases hb;rcases ht with h|h|h<;>cases h)
 have hstW:Stp w _ (X.fp mb) (X4.fp mb):=(hst04.trans (Stp.of_below HB9.out _)).over hk9 (by omega);obtain⟨y0,y1,y2,y3,y4,y5⟩:=st6_lies (.int .i64 1) nilS nilS nilS (.int .i64 0) (.int .i64 0) hz9 rfl;obtain⟨W,hW⟩:∃ W,W=st6 w9 (w.heap.size+1) (.int .i64 1) nilS nilS nilS (.int .i64 0) (.int .i64 0):=⟨_,rfl⟩
 change bodyPost _ _ _ _ _ (st6 w9 (w.heap.size+1) (.int .i64 1) nilS nilS nilS (.int .i64 0) (.int .i64 0));rw[<-hW] at hMOW hstW y0 y1 y2 y3 y4 y5 ⊢;clear x0 x1 x2 x3 x4 x5 xz hW hk9;exact bodyPost_ret (v:=.tuple #[failV 1,nilS]) (by simp[results,results14,go_sem,y0,y1,y2,y3,y4,y5]) rfl ⟨_,_,X4,rfl,RepOK.fail _ _ _,⟨[],OwnG.nil _ _ _ _,rfl⟩,hMOW,hX4'.2.1,hX4'.1,hstW⟩
theorem do_gone (f:Nat)(c:Cm)(hf:Mx.look (tabL mb) c.kind=some (fnV f mb))(hk1:c.kind≠1)(hk2:c.kind≠26)(hno:fnd M.all c.name=none)(hwf:(Lit.int .i64 c.kind).wf=true)
  (h:MO w base mb M X) (hM:MOk M) (hbase:base<=w.heap.size) (dv:Value) (hC:CIn w (X.fp mb) c dv) (hp:True) (hcl:X.cl.length<=1000) :
  Calls prog 14 #[pt mb,cmV c dv] w fun e w'=>∃ r lv X',e = .returned (.tuple #[r,lv])/\RepOK w' w.heap.size r (failR 4)/\(∃ fr:List Value,OwnG w' base 28 1 lv (fr.map fun v=>[v])/\fr.length=0)/\MO w' base mb M X'/\X'.fr=[]/\X'.fv = .slice none 0 0/\Stp w w' (X.fp mb) (X'.fp mb):=by
 obtain⟨w1,hw1⟩:∃ z,z=w.alloc (.cells #[.int .i64 c.kind,str c.name,str c.tt,.int .i64 c.a,.int .i64 c.n,.int .i64 c.m,dv] 25):=⟨_,rfl⟩
 obtain⟨w2,hw2⟩:∃ z,z=w1.alloc (.cells #[.int .i64 0,.slice none 0 0,.slice none 0 0,.slice none 0 0,.int .i64 0,.int .i64 0] 34):=⟨_,rfl⟩
 have hb1:Below w.heap.size w w1:=by rw[hw1];exact brf.alloc nlr _
 have hs1:w1.heap.size=w.heap.size+1:=by rw[hw1];simp
 have hb2:Below w1.heap.size w1 w2:=by rw[hw2];exact brf.alloc nlr _
 have hs2:w2.heap.size=w.heap.size+2:=by rw[hw2];simp[hs1]
 have hb02:Below w.heap.size w w2:=hb1.trans (hb2.mono (by omega));have hq1:w2.heap[w.heap.size]? = some (.cells #[.int .i64 c.kind,str c.name,str c.tt,.int .i64 c.a,.int .i64 c.n,.int .i64 c.m,dv] 25 (0,0)):=(hb2.block _ (by omega)).trans (by rw[hw1];exact alloc_new w _);have hq2:w2.heap[w.heap.size+1]? = some (.cells #[.int .i64 0,.slice none 0 0,.slice none 0 0,.slice none 0 0,.int .i64 0,.int .i64 0] 34 (0,0)):=by rw[hw2,<-hs1];exact alloc_new w1 _
 have h2:=h.below hb02;have hlt:=h.lt;obtain⟨c0,_,c2',_,_,_,_,c7,cz⟩:=h2.cells;obtain⟨fa,fn,fc,hfv⟩:=ownG_sh h2.f;rw[hfv] at c7;have cz7:=cz 7;obtain⟨da,dn,dc,rfl⟩:=slB_shape hC.d.slB;obtain⟨X3,hX3⟩:∃ z:MX,z={X with dm:=X.dm,fv:=.slice none 0 0,fr:=[]}:=⟨_,rfl⟩
 obtain⟨w3,hw3⟩:∃ z,z=w2.setCell ⟨mb,7,none⟩ (.slice none 0 0):=⟨_,rfl⟩
 have hk3:Kept w2 w3 (·≠mb):=by rw[hw3];exact Kept.set _ _ _ _ (by simp)
 have hMO3:MO w3 base mb M X3/\Stp w2 w3 (X.fp mb) (X3.fp mb):=by
  rw[hX3];exact h2.set hk3 (by rw[hw3,heap_setCell_at' w2 mb 7 _ _ 73 _ h2.ck];rfl) (fun q e=>(h2.d q e).block (hk3.block _ (h2.d q e).lt ((Ap.of h2.nd).d q e).1)) (OwnG.nil _ _ _ _) (fun q e => .inl e) (.inr rfl)
 have hmb:mb<w.heap.size:=blk_lt h.ck;have hq13:w3.heap[w.heap.size]? = some (.cells #[.int .i64 c.kind,str c.name,str c.tt,.int .i64 c.a,.int .i64 c.n,.int .i64 c.m,.slice da dn dc] 25 (0,0)):=(hk3.block _ (by omega) (by omega)).trans hq1;have hq23:w3.heap[w.heap.size+1]? = some (.cells #[.int .i64 0,.slice none 0 0,.slice none 0 0,.slice none 0 0,.int .i64 0,.int .i64 0] 34 (0,0)):=(hk3.block _ (by omega) (by omega)).trans hq2;have hst3:Stp w w3 (X.fp mb) (X3.fp mb):=(Stp.of_below hb02 _).trans hMO3.2;have hX3':X3.fv = .slice none 0 0/\X3.fr=[]/\X3.cl=X.cl:=by rw[hX3];exact⟨rfl,rfl,rfl⟩
 have hs3:w3.heap.size=w.heap.size+2:=by rw[hw3,World.size_setCell,hs2]
 have HT:=hid (table_any (hMO3.1.below (Below.refl w3.heap.size w3).drew) hX3'.1);have hlt3:∀ b∈X3.fp mb,b<w.heap.size:=fun b hb=>by
  rcases hMO3.2.n b hb with h1|h1
  ·exact hlt b h1
  ·have:b<w3.heap.size:=hMO3.1.lt b hb;rw[hX3] at hb;rw[MX.mem] at hb;rcases hb with e|e|e|e|e|e
   ·omega
   ·have:=h.h.lt;have e2:b=X.hm:=e;omega
   ·exact(h.d b e).lt
   ·cases e
   ·exact h.a.lt b e
   ·exact h.k.lt b e
 have H:=jd9 h hM hbase hC hp hcl hMO3.1 hst3 (And.intro hX3' (And.intro hlt3 (And.intro hs3 (And.intro hmb (And.intro hq13 hq23)))));have HW:=jd3 hw1 hw2 hw3;clear h hM hC hp hb1 hs1 hb2 hs2 hb02 hq1 hq2 h2 hlt c0 c2' hfv hk3 hMO3 hst3 hX3' hlt3 hs3 hX3 hw1 hw2 hw3 cz hq13 hq23;go_enter func14,ntmps14
 go_upto_region 3 with(fail)
 rw[<-HW.out.1,<-HW.out.2.1];go_upto_region 4 with(fail)
 rw[<-HW.out.2.2];have hkk:=fun(W:World) (hW:W.heap[w.heap.size]? = some (.cells #[.int .i64 c.kind,str c.name,str c.tt,.int .i64 c.a,.int .i64 c.n,.int .i64 c.m,.slice da dn dc] 25 (0,0)))=>(show W.cell? ⟨w.heap.size,0,none⟩=some (.int .i64 c.kind) by simp[World.cell?,hW])
 have hS0:=H.out.2.2.2.2.2.2.2.2.2.2.2.2.1;clear c7 cz7;have hok:EI.ok c.kind:=hwf
 go_region_held (fun W=>W.heap[w.heap.size]? = some (.cells #[.int .i64 c.kind,str c.name,str c.tt,.int .i64 c.a,.int .i64 c.n,.int .i64 c.m,.slice da dn dc] 25 (0,0))) (first|exact hS0|assumption) (first
  | (go_at_call 22;refine HT.out.mono ?_;rintro e w4 ⟨dm,rfl,hMO4,hst4⟩;have hS4:=(hst4.k.block w.heap.size (by have:=H.out.2.2.2.2.2.2.2.2.2.2.1;show w.heap.size<w3.heap.size;omega) (fun hm=>by have:=H.out.2.2.2.2.2.2.2.2.2.1 _ hm;omega)).trans hS0;have hl4:=(hMO4.d dm rfl).look K3 (t:=71) underlying71 zero75 (zd:=.agg [.lit (.int .i64 7)]) rfl c.kind hok;rw[hf] at hl4;have hl5:(Instr.lookup 71 (.map (some dm)) (.int .i64 c.kind) false).run prog w4 = .ok (.func (.func f) #[pt mb] #[]) w4:=hl4))
 have hMO4':MO w4 base mb M {X3 with dm:=some dm}:=hMO4;obtain⟨X4,hX4⟩:∃ z:MX,z={X3 with dm:=some dm}:=⟨_,rfl⟩
 rw[<-hX4] at hMO4 hst4;have hX4':X4.fv = .slice none 0 0/\X4.fr=[]/\X4.cl=X.cl:=by rw[hX4];exact H.out.2.2.2.2.2.2.2.2.1
 have hst04:Stp w w4 (X.fp mb) (X4.fp mb):=H.out.2.2.2.2.2.2.2.1.trans ⟨⟨hst4.k.size,hst4.k.block,hst4.k.st⟩,hst4.n⟩;have hq24:w4.heap[w.heap.size+1]? = some (.cells #[.int .i64 0,.slice none 0 0,.slice none 0 0,.slice none 0 0,.int .i64 0,.int .i64 0] 34 (0,0)):=(hst4.k.block (w.heap.size+1) (by have:=H.out.2.2.2.2.2.2.2.2.2.2.1;show w.heap.size+1<w3.heap.size;omega) (fun hm=>by have:=H.out.2.2.2.2.2.2.2.2.2.1 _ hm;omega)).trans H.out.2.2.2.2.2.2.2.2.2.2.2.2.2;have hs4:w.heap.size+2<=w4.heap.size:=by have:=hst4.k.size;have h3:=H.out.2.2.2.2.2.2.2.2.2.2.1;have:w3.heap.size<=w4.heap.size:=this;omega
 have hlt4:∀ b∈X4.fp mb,b<w.heap.size\/w.heap.size+2<=b:=fun b hb=>(hst4.n b hb).imp (H.out.2.2.2.2.2.2.2.2.2.1 b) fun h=>by
  have h3:=H.out.2.2.2.2.2.2.2.2.2.2.1;have h4:w3.heap.size<=b:=h;omega
 have c0:=hMO4.cells.1;have HC:=hid (hMO4.a.at c.name (Nat.le_trans H.out.2.2.2.1.nl (by unfold maxLen;omega)));have H4:=jd7 hMO4 hX4' hst04 hS4 hq24 hs4 hlt4;clear hMO4 hMO4' hX4' hst04 hq24 hs4 hst4 hX4 hl4 hlt4;have hqn:=func_nil f #[pt mb];have k0:=hkk w4 hS4;have k1:w4.cell? ⟨w.heap.size,1,none⟩=some (str c.name):=by simp[World.cell?,hS4]
 clear hS4 hS0;go_upto_region 7 with(fail)
 go_cut [40] from 23 (fun s40 wx=>s40 = .bool true/\Below w4.heap.size w4 wx)
 case first =>
  have hb0:∀ n,Below w4.heap.size w4 (w4.drewN n):=fun n=>by
   induction n with
   | zero=>exact brf
   | succ n ih=>exact ih.drew
  have hib:∀ n,(Instr.lookup 57 (.map (some X4.am)) (str c.name) false).run prog (w4.drewN n) = .ok (.pointer none) (w4.drewN n):=fun n=>by
   rcases(H4.out.1.below (hb0 n)).a.at c.name (Nat.le_trans H.out.2.2.2.1.nl (by unfold maxLen;omega)) with⟨_,h2⟩|⟨x,hx,hxn,h1,_⟩
   ·exact h2
   ·rw[hno] at h1;cases h1
  have HB:=hid hb0;clear hb0;have e1':(c.kind==1)=false:=by simpa using hk1
  have e2':(c.kind==26)=false:=by simpa using hk2
  have hpn:∀ w',(binOp .eql 77 (.pointer none) (.pointer none)).run prog w' = .ok (.bool true) w':=fun w'=>by simp[go_sem]
  have e1:¬ c.kind=1:=hk1;have e2:¬ c.kind=26:=hk2;clear hk1 hk2
  go_quiet (fail)
  go_wp2_with fail
  go_meet
  case rel=>exact⟨by simp[bne,e1',e2'],HB.out nq⟩
 case rest =>
  obtain⟨rfl,hbx⟩:=hcut;obtain⟨wB,hwB⟩:∃ x,x=wc:=⟨_,rfl⟩
  subst hwB;go_upto_region 8 with(fail)
  go_wp2_with (go_at_call 21;refine(failed_any 4 _).mono ?_;rintro e w9 ⟨rfl,hb9⟩;have HB9:=hid (hbx.trans (hb9.mono hbx.size));obtain⟨x0,x1,x2,x3,x4,x5,xz⟩:=zcells ((HB9.out.block (w.heap.size+1) (by have:=H4.out.2.2.2.2.2.1;omega)).trans H4.out.2.2.2.2.1))
  obtain⟨hMO4,hX4',hst04,hS4,hq24,hs4,hlt4⟩:=H4.out;have hmbt:mb<w.heap.size:=H.out.2.2.2.2.2.2.2.2.2.2.2.1;have hMO9:=hMO4.below HB9.out;have hz9:=(HB9.out.block (w.heap.size+1) (by omega)).trans hq24;have hk9:=st6_kept w9 (w.heap.size+1) (.int .i64 4) nilS nilS nilS (.int .i64 0) (.int .i64 0);have hMOW:=hMO9.kept hk9 (fun b hb e=>by rcases hlt4 b hb with h1|h1<;>omega) (fun b c t f hb ht e=>by rw[e,hz9] at hb;cases hb;rcases ht with h|h|h<;>cases h)
  have hstW:Stp w _ (X.fp mb) (X4.fp mb):=(hst04.trans (Stp.of_below HB9.out _)).over hk9 (by omega);obtain⟨y0,y1,y2,y3,y4,y5⟩:=st6_lies (.int .i64 4) nilS nilS nilS (.int .i64 0) (.int .i64 0) hz9 rfl;obtain⟨W,hW⟩:∃ W,W=st6 w9 (w.heap.size+1) (.int .i64 4) nilS nilS nilS (.int .i64 0) (.int .i64 0):=⟨_,rfl⟩
  change bodyPost _ _ _ _ _ (st6 w9 (w.heap.size+1) (.int .i64 4) nilS nilS nilS (.int .i64 0) (.int .i64 0));rw[<-hW] at hMOW hstW y0 y1 y2 y3 y4 y5 ⊢;clear x0 x1 x2 x3 x4 x5 xz hW hk9;exact bodyPost_ret (v:=.tuple #[failV 4,nilS]) (by simp[results,results14,go_sem,y0,y1,y2,y3,y4,y5]) rfl ⟨_,_,X4,rfl,RepOK.fail _ _ _,⟨[],OwnG.nil _ _ _ _,rfl⟩,hMOW,hX4'.2.1,hX4'.1,hstW⟩
theorem look_none {k:Int}(h:k<1\/26<k):Mx.look (tabL mb) k=none:=by
 unfold tabL Mx.look;rw[Option.map_eq_none_iff,List.find?_eq_none];intro p hp;simp only[List.mem_cons,List.not_mem_nil,or_false] at hp;rcases hp with rfl|rfl|rfl|rfl|rfl|rfl|rfl|rfl|rfl|rfl|rfl|rfl|rfl|rfl|rfl|rfl|rfl|rfl|rfl|rfl|rfl|rfl|rfl|rfl|rfl|rfl<;>simp<;>omega
theorem look_some {k:Int}(h1:1<=k)(h2:k<=26):∃ f,Mx.look (tabL mb) k=some (fnV f mb):=by
 have hc:k=1\/k=2\/k=3\/k=4\/k=5\/k=6\/k=7\/k=8\/k=9\/k=10\/k=11\/k=12\/k=13\/k=14\/k=15\/k=16\/k=17\/k=18\/k=19\/k=20\/k=21\/k=22\/k=23\/k=24\/k=25\/k=26:=by omega
 rcases hc with rfl|rfl|rfl|rfl|rfl|rfl|rfl|rfl|rfl|rfl|rfl|rfl|rfl|rfl|rfl|rfl|rfl|rfl|rfl|rfl|rfl|rfl|rfl|rfl|rfl|rfl<;>exact⟨_,rfl⟩
theorem do_all (c:Cm)(hwf:(Lit.int .i64 c.kind).wf=true)(h:MO w base mb M X)(hM:MOk M)(hbase:base<=w.heap.size)(dv:Value)(hC:CIn w (X.fp mb) c dv) :
  Calls prog 14 #[pt mb,cmV c dv] w fun e w'=>∃ r lv X',e = .returned (.tuple #[r,lv])/\RepOK w' w.heap.size r (doM M c).2.1/\(∃ fr:List Value,OwnG w' base 28 1 lv (fr.map fun v=>[v])/\fr.length=(doM M c).2.2)/\MO w' base mb (doM M c).1 X'/\X'.fr=[]/\X'.fv = .slice none 0 0/\Stp w w' (X.fp mb) (X'.fp mb):=by
 have hcl:X.cl.length<=1000:=Nat.le_trans (h.cl_le hM) (by omega);by_cases hr:c.kind<1\/26<c.kind
 ·rw[show doM M c=(M,failR 1,0) by unfold doM;rw[if_pos hr]];exact do_none c (look_none hr) hwf h hM hbase dv hC trivial hcl
 by_cases hn:c.kind≠1/\c.kind≠26/\fnd M.all c.name=none
 ·rw[show doM M c=(M,failR 4,0) by unfold doM;rw[if_neg hr,if_pos hn]];obtain⟨f,hf⟩:=look_some (mb:=mb) (k:=c.kind) (by omega) (by omega);exact do_gone f c hf hn.1 hn.2.1 hn.2.2 hwf h hM hbase dv hC trivial hcl
 rw[show doM M c=doK (fofK c.kind) M c by unfold doM;rw[if_neg hr,if_neg hn]];have hk:c.kind=1\/c.kind=26\/(fnd M.all c.name).isSome=true:=by
  by_cases h1:c.kind=1
  ·exact .inl h1
  by_cases h2:c.kind=26
  ·exact .inr (.inl h2)
  cases hf:fnd M.all c.name with
  | none=>exact absurd ⟨h1,h2,hf⟩ hn
  | some _=>exact .inr (.inr rfl)
 have hN:c.kind≠1->c.kind≠26->HasN M c:=fun h1 h2=>(hk.resolve_left h1).resolve_left h2;have hc:c.kind=1\/c.kind=2\/c.kind=3\/c.kind=4\/c.kind=5\/c.kind=6\/c.kind=7\/c.kind=8\/c.kind=9\/c.kind=10\/c.kind=11\/c.kind=12\/c.kind=13\/c.kind=14\/c.kind=15\/c.kind=16\/c.kind=17\/c.kind=18\/c.kind=19\/c.kind=20\/c.kind=21\/c.kind=22\/c.kind=23\/c.kind=24\/c.kind=25\/c.kind=26:=by omega
 rcases hc with e|e|e|e|e|e|e|e|e|e|e|e|e|e|e|e|e|e|e|e|e|e|e|e|e|e
 ·rw[show fofK c.kind=createF by rw[e];rfl];exact do_any 36 (fun _ _=>True) createF create_any c (by rw[e];rfl) hk hwf h hM hbase dv hC trivial hcl (enters_of func36 (by kernel_rfl) rfl)
 ·rw[show fofK c.kind=removeF by rw[e];rfl];exact do_any 37 (fun _ _=>True) removeF cmd37_any c (by rw[e];rfl) hk hwf h hM hbase dv hC trivial hcl (enters_of func37 (by kernel_rfl) rfl)
 ·rw[show fofK c.kind=readF by rw[e];rfl];exact do_any 38 HasN readF read_any c (by rw[e];rfl) hk hwf h hM hbase dv hC (hN (by omega) (by omega)) hcl (enters_of func38 (by kernel_rfl) rfl)
 ·rw[show fofK c.kind=writeF by rw[e];rfl];exact do_any 39 HasN writeF writes_any c (by rw[e];rfl) hk hwf h hM hbase dv hC (hN (by omega) (by omega)) hcl (enters_of func39 (by kernel_rfl) rfl)
 ·rw[show fofK c.kind=(noughtsF false) by rw[e];rfl];exact do_any 40 HasN (noughtsF false) cmd40_any c (by rw[e];rfl) hk hwf h hM hbase dv hC (hN (by omega) (by omega)) hcl (enters_of func40 (by kernel_rfl) rfl)
 ·rw[show fofK c.kind=(noughtsF true) by rw[e];rfl];exact do_any 41 HasN (noughtsF true) cmd41_any c (by rw[e];rfl) hk hwf h hM hbase dv hC (hN (by omega) (by omega)) hcl (enters_of func41 (by kernel_rfl) rfl)
 ·rw[show fofK c.kind=resizeF by rw[e];rfl];exact do_any 42 HasN resizeF cmd42_any c (by rw[e];rfl) hk hwf h hM hbase dv hC (hN (by omega) (by omega)) hcl (enters_of func42 (by kernel_rfl) rfl)
 ·rw[show fofK c.kind=flushF by rw[e];rfl];exact do_any 43 HasN flushF flushCmd_any c (by rw[e];rfl) hk hwf h hM hbase dv hC (hN (by omega) (by omega)) hcl (enters_of func43 (by kernel_rfl) rfl)
 ·rw[show fofK c.kind=shootF by rw[e];rfl];exact do_any 44 HasN shootF cmd44_any c (by rw[e];rfl) hk hwf h hM hbase dv hC (hN (by omega) (by omega)) hcl (enters_of func44 (by kernel_rfl) rfl)
 ·rw[show fofK c.kind=revertF by rw[e];rfl];exact do_any 45 HasN revertF cmd45_any c (by rw[e];rfl) hk hwf h hM hbase dv hC (hN (by omega) (by omega)) hcl (enters_of func45 (by kernel_rfl) rfl)
 ·rw[show fofK c.kind=unshotF by rw[e];rfl];exact do_any 46 HasN unshotF cmd46_any c (by rw[e];rfl) hk hwf h hM hbase dv hC (hN (by omega) (by omega)) hcl (enters_of func46 (by kernel_rfl) rfl)
 ·rw[show fofK c.kind=bitmapF by rw[e];rfl];exact do_any 47 BmK bitmapF cmd47_any c (by rw[e];rfl) hk hwf h hM hbase dv hC ⟨hN (by omega) (by omega),by omega,by omega⟩ hcl (enters_of func47 (by kernel_rfl) rfl)
 ·rw[show fofK c.kind=bitmapF by rw[e];rfl];exact do_any 47 BmK bitmapF cmd47_any c (by rw[e];rfl) hk hwf h hM hbase dv hC ⟨hN (by omega) (by omega),by omega,by omega⟩ hcl (enters_of func47 (by kernel_rfl) rfl)
 ·rw[show fofK c.kind=bitmapF by rw[e];rfl];exact do_any 47 BmK bitmapF cmd47_any c (by rw[e];rfl) hk hwf h hM hbase dv hC ⟨hN (by omega) (by omega),by omega,by omega⟩ hcl (enters_of func47 (by kernel_rfl) rfl)
 ·rw[show fofK c.kind=bitmapF by rw[e];rfl];exact do_any 47 BmK bitmapF cmd47_any c (by rw[e];rfl) hk hwf h hM hbase dv hC ⟨hN (by omega) (by omega),by omega,by omega⟩ hcl (enters_of func47 (by kernel_rfl) rfl)
 ·rw[show fofK c.kind=bitmapF by rw[e];rfl];exact do_any 47 BmK bitmapF cmd47_any c (by rw[e];rfl) hk hwf h hM hbase dv hC ⟨hN (by omega) (by omega),by omega,by omega⟩ hcl (enters_of func47 (by kernel_rfl) rfl)
 ·rw[show fofK c.kind=bitmapF by rw[e];rfl];exact do_any 47 BmK bitmapF cmd47_any c (by rw[e];rfl) hk hwf h hM hbase dv hC ⟨hN (by omega) (by omega),by omega,by omega⟩ hcl (enters_of func47 (by kernel_rfl) rfl)
 ·rw[show fofK c.kind=dirtyF by rw[e];rfl];exact do_any 48 HasN dirtyF cmd48_any c (by rw[e];rfl) hk hwf h hM hbase dv hC (hN (by omega) (by omega)) hcl (enters_of func48 (by kernel_rfl) rfl)
 ·rw[show fofK c.kind=commitF by rw[e];rfl];exact do_any 49 HasN commitF cmd49_any c (by rw[e];rfl) hk hwf h hM hbase dv hC (hN (by omega) (by omega)) hcl (enters_of func49 (by kernel_rfl) rfl)
 ·rw[show fofK c.kind=rebaseF by rw[e];rfl];exact do_any 50 HasN rebaseF cmd50_any c (by rw[e];rfl) hk hwf h hM hbase dv hC (hN (by omega) (by omega)) hcl (enters_of func50 (by kernel_rfl) rfl)
 ·rw[show fofK c.kind=flattenF by rw[e];rfl];exact do_any 51 HasN flattenF cmd51_any c (by rw[e];rfl) hk hwf h hM hbase dv hC (hN (by omega) (by omega)) hcl (enters_of func51 (by kernel_rfl) rfl)
 ·rw[show fofK c.kind=exportF by rw[e];rfl];exact do_any 52 HasN exportF cmd52_any c (by rw[e];rfl) hk hwf h hM hbase dv hC (hN (by omega) (by omega)) hcl (enters_of func52 (by kernel_rfl) rfl)
 ·rw[show fofK c.kind=bringF by rw[e];rfl];exact do_any 53 HasN bringF cmd53_any c (by rw[e];rfl) hk hwf h hM hbase dv hC (hN (by omega) (by omega)) hcl (enters_of func53 (by kernel_rfl) rfl)
 ·rw[show fofK c.kind=checkF by rw[e];rfl];exact do_any 54 (fun _ _=>True) checkF check_any c (by rw[e];rfl) hk hwf h hM hbase dv hC trivial hcl (enters_of func54 (by kernel_rfl) rfl)
 ·rw[show fofK c.kind=infoF by rw[e];rfl];exact do_any 55 HasN infoF cmd55_any c (by rw[e];rfl) hk hwf h hM hbase dv hC (hN (by omega) (by omega)) hcl (enters_of func55 (by kernel_rfl) rfl)
 ·rw[show fofK c.kind=listF by rw[e];rfl];exact do_any 56 (fun _ _=>True) listF cmd56_any c (by rw[e];rfl) hk hwf h hM hbase dv hC trivial hcl (enters_of func56 (by kernel_rfl) rfl)
end Go.Proofs.YtgkabcaodnofnaaGreat
namespace Go.Proofs.YtgkabcaodnofnaaGreat.Sb
open Go.RowKit Go.Mx Go.Crc Go.Str
theorem rget68 (b:List UInt8)(bv:Value)(a n B:Nat)(w:World)(hb:SlB w B bv b)(hl:b.length<=1000000000)(h1:1<=n)(h4:n<=4)(hin:a+n<=b.length) :
  Calls prog 68 #[bv,.int .i64 a,.int .i64 n,.bool false] w fun e w'=>w=w'/\e = .returned (.tuple #[.int .u64 (deL (atB b a n)),.int .i64 0]):=by
 have hlb:=fun w'=>hb.len (P:=prog) (ty:=3) underlying23 w';have hL:=atB_length b a n hin;have hat:∀ j,j<n->b.getD (a+j) 0=(atB b a n).getD j 0:=fun j hj=>by
  rw[atB_eq];simp only[List.getD_eq_getElem?_getD,List.getElem?_take,List.getElem?_drop];rw[if_pos hj]
 obtain⟨l,hll⟩:∃ l,l=atB b a n:=⟨_,rfl⟩
 rw[<-hll] at hL hat ⊢;have HB:=hid hb;have HL:=jd2 hL hat;have g1:¬ (b.length:Int)<(a:Int):=by omega
 have g2:¬ ((b.length:Int)-(a:Int))<(n:Int):=by omega
 clear hll hb hL hat;go_enter func68,ntmps68
 go_wp2_with fail
 go_loop [10,11] (fun x i=>∃ k:Nat,k<=n/\i = .int .i64 k/\x = .int .u64 (deL (l.drop (n-k)))) (fun _ i=>n-(intOf i).toNat)
 case atStart=>exact⟨0,by omega,rfl,by rw[List.drop_eq_nil_of_le (by have:=HL.out.1;omega)];rfl⟩
 case round =>
  obtain⟨k,hk,rfl,rfl⟩:=hrel;by_cases hlt:k<n
  ·obtain⟨bb,bo,hbb,hia,hc⟩:=HB.out.addr (P:=prog) underlying23 size5 (a+(n-1-k)) (by omega);rw[HL.out.2 _ (by omega)] at hc;have HD:=hid (drop_succ_deL l k n HL.out.1 hlt);have hvb:deL (l.drop (n-k))<256^k:=by
    have:=deL_lt (l.drop (n-k));rwa[List.length_drop,HL.out.1,show n-(n-k)=k by omega] at this
   have hv3:deL (l.drop (n-k))<16777216:=Nat.lt_of_lt_of_le hvb (Nat.pow_le_pow_right (n:=256) (by omega) (show k<=3 by omega));obtain⟨x,hx⟩:∃ x,x=l.getD (n-1-k) 0:=⟨_,rfl⟩
   obtain⟨y,hy⟩:∃ y,y=deL (l.drop (n-k)):=⟨_,rfl⟩
   rw[<-hx] at HD hc;rw[<-hy] at HD hv3 hvb ⊢;have hor:=or_u64 y x.toNat hv3 x.toNat_lt;have hwr:IntKind.u64.wrap ((y:Int)*256)=(y:Int)*256:=by rw[IntKind.wrap_u64];omega
   have hwx:=wr_u64 x.toNat (by have:=x.toNat_lt;omega);have hia':∀ (w':World) (k_1:IntKind),(Instr.indexAt 23 bv (.int k_1 ((a:Int)+((n:Int)-1-(k:Int))))).run prog w' = .ok (.pointer (some ⟨bb,bo,none⟩)) w':=by
    rw[show(a:Int)+((n:Int)-1-(k:Int))=((a+(n-1-k):Nat):Int) by omega];exact hia
   clear hx hy hvb hia
   go_wp2_with fail
   go_round
   case rel=>exact⟨k+1,by omega,by go_num,by rw[HD.out];simp⟩
   case measure=>simp[intOf];omega
  ·obtain rfl:k=n:=by omega
   rw[Nat.sub_self,List.drop_zero]
   go_wp2_with fail
   go_ret2
   exact⟨rfl,rfl⟩
theorem num31v (b:List UInt8)(bv:Value)(a n B:Nat)(w:World)(hb:SlB w B bv b)(hl:b.length<=1000000000)(h1:1<=n)(h4:n<=4)(hin:a+n<=b.length) :
  Calls prog 31 #[bv,.int .i64 a,.int .i64 n] w fun e w'=>e = .returned (.int .i64 (deL (atB b a n):Nat))/\w=w':=by
 have HG:=hid (rget68 b bv a n B w hb hl h1 h4 hin);obtain⟨v,hv⟩:∃ v,v=deL (atB b a n):=⟨_,rfl⟩
 have hvl:v<256^n:=by
  have:=deL_lt (atB b a n);rw[atB_length b a n hin] at this;rw[hv];exact this
 rw[<-hv] at HG ⊢;have hv4:v<4294967296:=Nat.lt_of_lt_of_le hvl (Nat.pow_le_pow_right (n:=256) (by omega) (show n<=4 by omega));clear hv hb hvl;go_enter func31,ntmps31
 go_wp2_with (go_at_call 68;refine HG.out.mono ?_;rintro e w' ⟨rfl,rfl⟩)
 go_ret
 exact⟨by go_num,rfl⟩
theorem num31 (b:List UInt8)(bv:Value)(a n B:Nat)(w:World)(hb:SlB w B bv b)(hl:b.length<=1000000000)(h1:1<=n)(h4:n<=4)(hin:a+n<=b.length) :
  Calls prog 31 #[bv,.int .i64 a,.int .i64 n] w fun e w'=>∃ v:Nat,e = .returned (.int .i64 v)/\v<256^n/\w=w':=by
 have HG:=hid (rget68 b bv a n B w hb hl h1 h4 hin);obtain⟨v,hv⟩:∃ v,v=deL (atB b a n):=⟨_,rfl⟩
 have hvl:v<256^n:=by
  have:=deL_lt (atB b a n);rw[atB_length b a n hin] at this;rw[hv];exact this
 rw[<-hv] at HG;have hv4:v<4294967296:=Nat.lt_of_lt_of_le hvl (Nat.pow_le_pow_right (n:=256) (by omega) (show n<=4 by omega));have HV:=hid hvl;clear hv hb hvl;go_enter func31,ntmps31
 go_wp2_with (go_at_call 68;refine HG.out.mono ?_;rintro e w' ⟨rfl,rfl⟩)
 go_ret
 exact⟨v,by go_num,HV.out,rfl⟩
end Go.Proofs.YtgkabcaodnofnaaGreat.Sb
