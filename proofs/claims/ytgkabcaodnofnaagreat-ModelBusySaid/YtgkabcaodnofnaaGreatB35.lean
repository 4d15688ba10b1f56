import Derived.Test.YtgkabcaodnofnaaGreatB02
import Derived.Test.YtgkabcaodnofnaaGreatB34
import Derived.Deep.RegionHeld
set_option linter.unusedSimpArgs false
set_option linter.unusedVariables false
set_option maxRecDepth 100000
set_option maxHeartbeats 16000000
open Go.Proofs.Tryz
namespace Go.Proofs.YtgkabcaodnofnaaGreat.Sb
open Go.RowKit Go.Mx Go.Crc Go.Str
theorem rdtake_ok' (b:List UInt8)(bv:Value)(p a n:Nat)(X:Int)(w:World)(hX:X=(n:Int))(h:Rd w p bv a false)(hb:SlB w p bv b)(hl:b.length<=1000000000)(hc:a+n<=b.length) :
  Calls prog 162 #[.pointer (some ⟨p,0,none⟩),.int .i64 X] w fun e w'=>∃ v,e = .returned v/\OwnB w' w.heap.size 5 v (atB b a n)/\Rd w' p bv (a+n) false/\Below p w w'/\Kept w w' (·≠p):=by
 subst hX;exact rdtake_ok b bv p a n w h hb hl hc
theorem rdtake_no' (b:List UInt8)(bv:Value)(p a n:Nat)(X:Int)(bad:Bool)(w:World)(hX:X=(n:Int))(h:Rd w p bv a bad)(hb:SlB w p bv b)(hl:b.length<=1000000000)(hc:bad=true\/(a<=b.length/\b.length<a+n))(hn:n<=1000000000) :
  Calls prog 162 #[.pointer (some ⟨p,0,none⟩),.int .i64 X] w fun e w'=>e = .returned (.slice none 0 0)/\Rd w' p bv a true/\Below p w w'/\Kept w w' (·≠p):=by
 subst hX;exact rdtake_no b bv p a n bad w h hb hl hc hn
theorem rdnum_gen (b:List UInt8)(bv:Value)(p a n:Nat)(bad:Bool)(N:Int)(w:World)(hN:N=(n:Int))(h:Rd w p bv a bad)(hb:SlB w p bv b)(hl:b.length<=1000000000)(ha:a<=3000000000)(h1:1<=n)(h4:n<=4) :
  Calls prog 163 #[.pointer (some ⟨p,0,none⟩),.int .i64 N] w fun e w'=>∃ (x:Nat) (bad':Bool),e = .returned (.int .i64 x)/\Rd w' p bv (a+n) bad'/\Below p w w'/\Kept w w' (·≠p)/\x<256^n/\
   Hid ((a+n<=b.length->x=deL (atB b a n)/\bad'=bad)/\(¬ a+n<=b.length->x=0/\bad'=true)):=by
 subst hN;refine(rdnum_any b bv p a n bad w h hb hl ha h1 h4).mono ?_;rintro e w' ⟨⟨rfl,hr⟩,hb,hk⟩;refine⟨_,_,rfl,hr,hb,hk,?_,?_,?_⟩
 ·split
  ·have:=deL_lt (atB b a n);rwa[atB_length b a n (by assumption)] at this
  ·exact Nat.pow_pos (by omega)
 ·intro h;rw[if_pos h,decide_eq_true h];cases bad<;>exact⟨rfl,rfl⟩
 ·intro h;rw[if_neg h,decide_eq_false h];cases bad<;>exact⟨rfl,rfl⟩
def RP (b:List UInt8)(w:World)(e:Ending)(w':World):Prop :=
 Below w.heap.size w w'/\((formB b=none/\∃ (f:Bool) (z:Int) (sa:Option Addr) (sn sc:Nat) (zv:Value),e = .returned (.tuple #[.agg #[.bool f,.int .i64 z,.slice sa sn sc],zv,.bool false]))\/
  ∃ x rv zv ps,formB b=some x/\ps.map (·.1)=x.strm.recs/\e = .returned (.tuple #[strmV x.strm rv,zv,.bool true])/\
   w'.ownsRow w.heap.size 98 2 rv ps.length (flatP ps)/\(∀ y∈ps,OwnB w' w.heap.size 5 y.2 y.1.data)/\OwnI w' w.heap.size zv (x.recs.map (fun r=>(r.2:Int))++[(x.last:Int)]))
theorem conv_own {P:Program}{src dst e:TypeId}(hs:P.underlying src=some (.slice e))(he:P.underlying e=some (.int .u8))(hd:P.underlying dst=some .string)
  {w:World} {base:Nat} {v:Value} {bs:List UInt8} (h:OwnB w base e v bs):(convert src dst v).run P w = .ok (.string ⟨bs.toArray⟩) w:=conv_sl hs he hd h.slB
theorem res_cells {w:World}{B:Nat}(h:w.heap[B]? = some (.cells #[.bool false,.int .i64 0,.slice none 0 0] 54 (0,0))) :
  w.cell? ⟨B,0,none⟩=some (.bool false)/\w.cell? ⟨B,1,none⟩=some (.int .i64 0)/\w.cell? ⟨B,2,none⟩=some (.slice none 0 0)/\w.frozen? ⟨B,0,none⟩=false/\w.frozen? ⟨B,1,none⟩=false/\w.frozen? ⟨B,2,none⟩=false:=by
 refine⟨?_,?_,?_,?_,?_,?_⟩<;>simp[World.cell?,World.frozen?,h]
theorem read_any (b:List UInt8)(bv:Value)(w:World)(hb:SlB w w.heap.size bv b)(hl:b.length<=1000000) :
  Calls prog 138 #[bv] w (RP b w):=by
 have hlb:=fun w'=>hb.len (P:=prog) (ty:=3) underlying23 w';obtain⟨oa,nb,cp,rfl⟩:∃ oa n c,bv = .slice oa n c:=by obtain⟨oa1,cp1,hv1,_⟩:=hb;exact⟨_,_,_,hv1⟩
 obtain⟨W,hW⟩:∃ W,W=(w.alloc (.cells #[.bool false,.int .i64 0,.slice none 0 0] 54)).alloc (.cells #[.slice oa nb cp,.int .i64 0,.bool false] 221):=⟨_,rfl⟩
 have hbW:Below w.heap.size w W:=by rw[hW];exact(brf.alloc nlr _).alloc (by simp) _
 have hzW:W.heap.size=w.heap.size+2:=by rw[hW];simp
 have hrW:W.heap[w.heap.size]? = some (.cells #[.bool false,.int .i64 0,.slice none 0 0] 54 (0,0)):=by
  rw[hW];exact(((Below.refl (w.alloc (.cells #[.bool false,.int .i64 0,.slice none 0 0] 54)).heap.size _).alloc nlr _).block w.heap.size (by simp)).trans (alloc_new w _)
 have hpW:Rd W (w.heap.size+1) (.slice oa nb cp) 0 false:=by
  unfold Rd;rw[hW];have:=alloc_new (w.alloc (.cells #[.bool false,.int .i64 0,.slice none 0 0] 54)) (.cells #[.slice oa nb cp,.int .i64 0,.bool false] 221);rwa[show(w.alloc (.cells #[.bool false,.int .i64 0,.slice none 0 0] 54)).heap.size=w.heap.size+1 by simp] at this
 have hsW:SlB W (w.heap.size+1) (.slice oa nb cp) b:=(hb.below hbW nlr).mono (by omega);obtain⟨p,hp⟩:∃ p,p=w.heap.size+1:=⟨_,rfl⟩
 rw[<-hp] at hpW hsW;have HW:=jd5 hbW hzW hrW hpW hsW;have HP:=hid hp;have HB:=hid hb;clear hb hbW hzW hrW hpW hsW;by_cases hm:¬ (4<=b.length/\atB b 0 4=Str.mark)
 ·have HN:=hid (form_none (pAll_mark b hm));go_enter func138,ntmps138
  go_wp2_with fail
  rw[<-hW,<-hp];clear hW hp;by_cases h4:4<=b.length
  ·have hne:atB b 0 4≠Str.mark:=fun h=>hm ⟨h4,h⟩;obtain⟨l,hll⟩:∃ l,l=atB b 0 4:=⟨_,rfl⟩
   have hbn:(l==[77,84,82,75])=false:=by rw[beq_eq_false_iff_ne,hll];exact hne
   have HLL:=hid hll;clear hll hne hm;refine(rdtake_ok b _ p 0 4 W HW.out.2.2.2.1 HW.out.2.2.2.2 (by omega) (by omega)).mono ?_;rintro e w1 ⟨v1,rfl,ho1,hr1,hb1,hk1⟩;rw[<-HLL.out] at ho1;have hcv:=conv_own (P:=prog) underlying23 underlying5 underlying9 ho1;have hrs:=(hk1.block w.heap.size (by have:=HW.out.2.1;omega) (by have:=HP.out;omega)).trans HW.out.2.2.1;obtain⟨d0,d1,d2,g0,g1,g2⟩:=res_cells hrs;have HE:=hid (HW.out.1.trans (hb1.mono (by have:=HP.out;omega)));clear ho1 hr1 hb1 hk1 hrs
   go_wp2_with fail
   rw[setCell_self d0,setCell_self d1,setCell_self d2];exact bodyPost_ret (v:=.tuple #[.agg #[.bool false,.int .i64 0,.slice none 0 0],.slice none 0 0,.bool false]) (by simp[results,results138,go_sem,d0,d1,d2]) rfl ⟨HE.out,.inl ⟨HN.out,_,_,_,_,_,_,rfl⟩⟩
  ·refine(rdtake_no b _ p 0 4 false W HW.out.2.2.2.1 HW.out.2.2.2.2 (by omega) (.inr ⟨by omega,by omega⟩) (by omega)).mono ?_;rintro e w1 ⟨rfl,hr1,hb1,hk1⟩;have hcv:=conv_own (P:=prog) underlying23 underlying5 underlying9 (OwnB.nil w1 0 5);have hrs:=(hk1.block w.heap.size (by have:=HW.out.2.1;omega) (by have:=HP.out;omega)).trans HW.out.2.2.1;obtain⟨d0,d1,d2,g0,g1,g2⟩:=res_cells hrs;have HE:=hid (HW.out.1.trans (hb1.mono (by have:=HP.out;omega)));clear hr1 hb1 hk1 hrs hm
   go_wp2_with fail
   rw[setCell_self d0,setCell_self d1,setCell_self d2];exact bodyPost_ret (v:=.tuple #[.agg #[.bool false,.int .i64 0,.slice none 0 0],.slice none 0 0,.bool false]) (by simp[results,results138,go_sem,d0,d1,d2]) rfl ⟨HE.out,.inl ⟨HN.out,_,_,_,_,_,_,rfl⟩⟩
 ·have hm:4<=b.length/\atB b 0 4=Str.mark:=Decidable.byContradiction hm;obtain⟨h4,hmk⟩:=hm;have HMK:=hid hmk;clear hmk;go_enter func138,ntmps138
  go_wp2_with fail
  rw[<-hW,<-hp];clear hW hp;refine(rdtake_ok b _ p 0 4 W HW.out.2.2.2.1 HW.out.2.2.2.2 (by omega) (by omega)).mono ?_;rintro e w1 ⟨v1,rfl,ho1,hr1,hb1,hk1⟩;rw[HMK.out] at ho1;have hcv:(convert 23 9 v1).run prog w1 = .ok (.string ⟨#[77,84,82,75]⟩) w1:=conv_own (P:=prog) underlying23 underlying5 underlying9 ho1;have hrs1:=(hk1.block w.heap.size (by have:=HW.out.2.1;omega) (by have:=HP.out;omega)).trans HW.out.2.2.1;have hbw1:=HW.out.1.trans (hb1.mono (by have:=HP.out;omega));have hsb1:=HW.out.2.2.2.2.below hb1 nlr;have H1:=jd4 hrs1 hbw1 hsb1 hr1;clear ho1 hr1 hb1 hk1 hrs1 hbw1 hsb1
  go_wp2_with fail
  refine(rdnum_gen b _ p (0+4) 1 false 1 w1 rfl H1.out.2.2.2 H1.out.2.2.1 (by omega) (by omega) (by omega) (by omega)).mono ?_;rintro e w2 ⟨ff,bd1,rfl,hr2,hb2,hk2,hff,HF⟩;have hrs2:=(hk2.block w.heap.size (blk_lt H1.out.1) (by have:=HP.out;omega)).trans H1.out.1;have hbw2:=H1.out.2.1.trans (hb2.mono (by have:=HP.out;omega));have hsb2:=H1.out.2.2.1.below hb2 nlr;have H2:=jd4 hrs2 hbw2 hsb2 hr2;clear hr2 hb2 hk2 hrs2 hbw2 hsb2 H1 hcv;obtain⟨fB,hfB⟩:∃ fB,((ff:Int)==1)=fB:=⟨_,rfl⟩
  have HFB:=hid hfB
  go_wp2_with fail
  refine(rdnum_gen b _ p (0+4+1) 2 bd1 2 w2 rfl H2.out.2.2.2 H2.out.2.2.1 (by omega) (by omega) (by omega) (by omega)).mono ?_;rintro e w3 ⟨zz,bd2,rfl,hr3,hb3,hk3,hzz,HZ⟩;have hrs3:=(hk3.block w.heap.size (blk_lt H2.out.1) (by have:=HP.out;omega)).trans H2.out.1;have hbw3:=H2.out.2.1.trans (hb3.mono (by have:=HP.out;omega));have hsb3:=H2.out.2.2.1.below hb3 nlr;obtain⟨q,hq⟩:∃ q,q=w3.heap.size:=⟨_,rfl⟩
  have hal:Below w3.heap.size w3 (w3.alloc (.cells #[.bool fB,.int .i64 zz,.slice none 0 0] 54)):=brf.alloc nlr _;have I3:Inv w (w3.alloc (.cells #[.bool fB,.int .i64 zz,.slice none 0 0] 54)) p q (.slice oa nb cp) (0+4+1+2) bd2 fB zz (.slice none 0 0) [] (.slice none 0 0) []:={
   rd:=hr3.below hal
   st:=by rw[hq];exact alloc_new w3 _
   rs:=(hal.block _ (blk_lt hrs3)).trans hrs3
   own:=World.ownsRow_nil _ _ _ _
   dat:=fun x hx=>by simp at hx
   sums:=OwnV.nil _ _ _
   bel:=hbw3.trans (hal.mono hbw3.size)
   hp:=by have:=HP.out;omega
   hq:=by have:=blk_lt hrs3;omega}
  have hsb4:=hsb3.below hal (Nat.le_of_lt hr3.lt);obtain⟨w4,hw4⟩:∃ w4,w4=w3.alloc (.cells #[.bool fB,.int .i64 zz,.slice none 0 0] 54):=⟨_,rfl⟩
  rw[<-hw4] at I3 hsb4;have H4:=jd2 I3 hsb4;clear hr3 hb3 hk3 hrs3 hbw3 hsb3 hal I3 hsb4 H2
  go_wp2_with fail
  rw[<-hw4,<-hq];clear hw4 hq hfB;refine(rdnum_gen b _ p (0+4+1+2) 2 bd2 2 w4 rfl H4.out.1.rd H4.out.2 (by omega) (by omega) (by omega) (by omega)).mono ?_;rintro e w5 ⟨N,bd3,rfl,hr5,hb5,hk5,hN,HNN⟩;have I5:=H4.out.1.keep hk5 hr5 hb5;have hsb5:=H4.out.2.below hb5 nlr;have H5:=jd2 I5 hsb5;have HI:Hid ((9<=b.length->bd3=false/\ff=hFull b/\zz=hSize b/\N=hMany b)/\(¬ 9<=b.length->bd3=true/\N=0)):=by
   refine⟨fun h=>?_,fun h=>HNN.out.2 (by omega) |>.symm⟩;obtain⟨e1,e2⟩:=HF.out.1 (by omega);obtain⟨e3,e4⟩:=HZ.out.1 (by omega);obtain⟨e5,e6⟩:=HNN.out.1 (by omega);exact⟨by rw[e6,e4,e2],e1,e3,e5⟩
  clear hr5 hb5 hk5 H4 HF HZ HNN I5 hsb5
  go_wp2_with fail
  go_loopw [8,9] (fun zv m wr=>∃ (M a:Nat) (bad:Bool) (rv:Value) (ps:List (Rec×Value)) (dn:List (Rec×Nat)),m = .int .i64 M/\dn.length+M<=65535/\a<=1000100/\Inv w wr p q (.slice oa nb cp) a bad fB zz rv ps zv (dn.map fun x=>(x.2:Int))/\
    Hid (ps.map (·.1)=dn.map (·.1)/\(bad=false->9<=b.length/\a<=b.length/\pRecs N (b.drop 9)=joinP dn (pRecs M (b.drop a)))/\(bad=true->9<=b.length->pRecs N (b.drop 9)=none)))
   (fun _ m _=>(intOf m).toNat)
  case atStart =>
   refine⟨N,9,bd3,_,[],[],rfl,by simp;omega,by omega,H5.out.1,rfl,fun h=>?_,fun h h9=>?_⟩
   ·have h9:9<=b.length:=Decidable.byContradiction fun hn=>by have:=(HI.out.2 hn).1;rw[h] at this;cases this
    exact⟨h9,h9,(joinP_nil _).symm⟩
   ·have:=(HI.out.1 h9).1;rw[h] at this;cases this
  case round =>
   obtain⟨M,a,bad,rv,ps,dn,rfl,hM,ha,I,HR⟩:=hrel;have hsb:=(HB.out.below I.bel nlr).mono I.hp;clear H5;obtain⟨c1,c2,s0,s1,s2,sf⟩:=I.cells;by_cases hM0:0<M;cases bad
   ·obtain⟨m,rfl⟩:∃ m,M=m+1:=⟨M-1,by omega⟩
    obtain⟨h9,hal,hpr⟩:=HR.out.2.1 rfl;have HR0:=jd2 HR.out.1 hpr;clear HR hpr;obtain⟨ra,rn,rc,rfl⟩:=row_slice I.own;have HI0:=jd2 I hsb
    go_wp2_with fail
    refine(rdnum_gen b _ p a 2 false 2 wr rfl I.rd hsb (by omega) (by omega) (by omega) (by omega)).mono ?_;rintro e y1 ⟨av,bd1,rfl,hr1,hb1,hk1,hav,HA⟩;have I1:=HI0.out.1.keep hk1 hr1 hb1;have hsb1:=HI0.out.2.below hb1 nlr;obtain⟨x,hx⟩:∃ x,x=y1.heap.size:=⟨_,rfl⟩
    have hal1:Below y1.heap.size y1 (y1.alloc (.cells #[.int .i64 av,.slice none 0 0] 98)):=brf.alloc nlr _;have I2:=I1.below hal1;have hx2:(y1.alloc (.cells #[.int .i64 av,.slice none 0 0] 98)).heap[x]? = some (.cells #[.int .i64 av,.slice none 0 0] 98 (0,0)):=by rw[hx];exact alloc_new y1 _
    have hrx:(Value.slice ra rn rc).ownBlock≠some x:=fun e=>by have:=(World.ownsRow.lt I1.own x e).2;omega
    have hxp:x≠p:=blk_ne hx2 I2.rd (by decide);have hx0:w.heap.size<=x:=by have:=I1.bel.size;omega
    have hsb2:=hsb1.below hal1 (Nat.le_of_lt hr1.lt);obtain⟨y2,hy2⟩:∃ y2,y2=y1.alloc (.cells #[.int .i64 av,.slice none 0 0] 98):=⟨_,rfl⟩
    rw[<-hy2] at I2 hx2 hsb2;have H2:=jd5 I2 hx2 hrx hxp hsb2;clear I hsb HI0 hr1 hb1 hk1 I1 hsb1 hal1 I2 hx2 hrx hxp hsb2 c1 c2 s0 s1 s2 sf
    go_wp2_with fail
    rw[<-hy2,<-hx];clear hy2 hx;refine(rdnum_gen b _ p (a+2) 2 bd1 2 y2 rfl H2.out.1.rd H2.out.2.2.2.2 (by omega) (by omega) (by omega) (by omega)).mono ?_;rintro e y3 ⟨kv,bd2,rfl,hr3,hb3,hk3,hkv,HK⟩;have I3:=H2.out.1.keep hk3 hr3 hb3;have hx3:=(hk3.block x (blk_lt H2.out.2.1) H2.out.2.2.2.1).trans H2.out.2.1;have hsb3:=H2.out.2.2.2.2.below hb3 nlr;have H3:=jd5 I3 hx3 H2.out.2.2.1 H2.out.2.2.2.1 hsb3;clear hr3 hb3 hk3 I3 hx3 hsb3 H2;have hkv6:kv<65536:=hkv
    go_wp2_with fail
    by_cases hc:a+2+2+kv*16<=b.length
    ·obtain⟨hav',hbd1⟩:=HA.out.1 (by omega);obtain⟨hkv',hbd2⟩:=HK.out.1 (by omega);rw[hbd1] at hbd2;rw[hbd2] at H3;have HAV:=jd2 hav' hkv';clear hav' hkv' hbd1 hbd2;refine(rdtake_ok' b _ p (a+2+2) (kv*16) _ y3 (by simp) H3.out.1.rd H3.out.2.2.2.2 (by omega) (by omega)).mono ?_;rintro e y4 ⟨dv,rfl,ho4,hr4,hb4,hk4⟩;have I4:=H3.out.1.keep hk4 hr4 hb4;have hx4:=(hk4.block x (blk_lt H3.out.2.1) H3.out.2.2.2.1).trans H3.out.2.1;have hsb4:=H3.out.2.2.2.2.below hb4 nlr;have hd4:OwnB y4 w.heap.size 5 dv (atB b (a+2+2) (kv*16)):=ho4.any_base (H3.out.1.bel.size);obtain⟨da,dn1,dc,rfl⟩:∃ oa n c,dv = .slice oa n c:=by obtain⟨oa1,cp1,hv1,_⟩:=ho4.slB;exact⟨_,_,_,hv1⟩
     obtain⟨dat,hdat⟩:∃ dat,dat=atB b (a+2+2) (kv*16):=⟨_,rfl⟩
     rw[<-hdat] at hd4;have HDAT:=hid hdat;clear hdat ho4;have HRV:=jd2 H3.out.2.2.1 H3.out.2.2.2.1;obtain⟨c1,c2,s0,s1,s2,sf⟩:=I4.cells;have xa:y4.cell? ⟨x,0,none⟩=some (.int .i64 av):=by simp[World.cell?,hx4]
     have xb:y4.cell? ⟨x,1,none⟩=some (.slice none 0 0):=by simp[World.cell?,hx4]
     have xf:y4.frozen? ⟨x,1,none⟩=false:=by simp[World.frozen?,hx4]
     have hxq:x≠q:=blk_ne hx4 I4.st (by decide);have I5:=I4.set hx4 HRV.out.1 hx0 1 (.slice da dn1 dc);have hx5:(y4.setCell ⟨x,1,none⟩ (.slice da dn1 dc)).heap[x]? = some (.cells #[.int .i64 av,.slice da dn1 dc] 98 (0,0)):=heap_set1 y4 x 1 _ _ _ _ hx4;have e0:(y4.setCell ⟨x,1,none⟩ (.slice da dn1 dc)).cell? ⟨x,0,none⟩=some (.int .i64 av):=by simp[World.cell?,hx5]
     have e1:(y4.setCell ⟨x,1,none⟩ (.slice da dn1 dc)).cell? ⟨x,1,none⟩=some (.slice da dn1 dc):=by simp[World.cell?,hx5]
     have e2:=I5.cells.2.2.2.2.1;have b5:Below y4.heap.size y4 ((y4.setCell ⟨x,1,none⟩ (.slice da dn1 dc)))\/True:=.inr trivial;have I6:Inv w ((y4.setCell ⟨x,1,none⟩ (.slice da dn1 dc)).alloc (.cells #[.int .i64 av,.slice da dn1 dc] 98)) p q (.slice oa nb cp) _ _ fB zz (.slice ra rn rc) ps u8 _:=I5.below (brf.alloc nlr _);have k5:Kept y4 (y4.setCell ⟨x,1,none⟩ (.slice da dn1 dc)) (·≠x):=.set _ _ _ _ fun hn=>hn rfl;have hd6:OwnB ((y4.setCell ⟨x,1,none⟩ (.slice da dn1 dc)).alloc (.cells #[.int .i64 av,.slice da dn1 dc] 98)) w.heap.size 5 (.slice da dn1 dc) dat:=(hd4.kept k5 fun k e=>by rintro rfl;exact hd4.not_block hx4 (by decide) e).alloc _;have hs6:=(HB.out.below I6.bel nlr).mono I6.hp;have hpl:ps.length<=65535:=by have:=congrArg List.length HR0.out.1;simp at this;omega
     have H6:=jd3 I6 hd6 hs6;clear I4 I5 hd6 hs6 I6 k5 b5 hx4 hsb4 hd4 H3 hr4 hb4 hk4 c1 c2 s0 s1 s2 sf hx5
     go_wp2_with (at_builtin;refine append_rec _ rfl _ _ rfl w.heap.size _ ps rfl H6.out.1.own _ _ (⟨av,dat⟩,.slice da dn1 dc) rfl ?_ ?_ rfl ?_ ?_ ?_)
     ·omega
     ·have:=H6.out.1.bel.size;exact this
     intro rv' z7 ho7 hg7;have ho7':z7.ownsRow w.heap.size 98 2 rv' (ps++[(((⟨(av:Int),dat⟩:Rec),Value.slice da dn1 dc):Rec×Value)]).length (flatP (ps++[(((⟨(av:Int),dat⟩:Rec),Value.slice da dn1 dc):Rec×Value)])):=by simpa using ho7
     obtain⟨ra',rn',rc',rfl⟩:=row_slice ho7';have I8:=H6.out.1.app (y:=(((⟨(av:Int),dat⟩:Rec),Value.slice da dn1 dc):Rec×Value)) hg7 ho7' H6.out.2.1;have hq7:=H6.out.1.app_q hg7;have q2:z7.cell? ⟨q,2,none⟩=some (.slice ra rn rc):=by simp[World.cell?,hq7]
     have qf:z7.frozen? ⟨q,2,none⟩=false:=by simp[World.frozen?,hq7]
     obtain⟨z8,hz8⟩:∃ z8,z8=z7.setCell ⟨q,2,none⟩ (.slice ra' rn' rc'):=⟨_,rfl⟩
     rw[<-hz8] at I8;have hs8:=(HB.out.below I8.bel nlr).mono I8.hp;have H8:=jd2 I8 hs8;clear ho7 ho7' hg7 hq7 I8 hs8 H6 e0 e1 e2 xa xb xf
     go_wp2_with fail
     rw[<-hz8];clear hz8 q2 qf;refine(rdnum_gen b _ p _ 4 _ 4 z8 rfl H8.out.1.rd H8.out.2 (by omega) (by omega) (by omega) (by omega)).mono ?_;rintro e y9 ⟨sv,bd4,rfl,hr9,hb9,hk9,hsv,HS⟩;have I9:=H8.out.1.keep hk9 hr9 hb9;have I10:Inv w (y9.alloc (.cells #[.int .i64 sv] 3)) p q _ _ _ fB zz _ _ u8 _:=I9.below (brf.alloc nlr _);have H10:=hid I10;clear hr9 hb9 hk9 I9 I10 H8
     go_wp2_with (at_builtin;refine append_intg _ rfl _ _ 146 rfl underlying146 Tryz.info3 w.heap.size _ _ sv rfl H10.out.sums _ _ rfl ?_ ?_ ?_ ?_)
     ·exact cell_alloc1 _ _ _
     ·simp;omega
     ·exact H10.out.bel.size
     intro zv' z11 ho11 hg11;have I11:=H10.out.sum hg11 ho11;have I12:=I11;rw[show(dn.map fun x=>(x.2:Int))++[(sv:Int)]=(dn++[((⟨(av:Int),dat⟩:Rec),sv)]).map (fun x=>(x.2:Int)) by simp] at I12;have H12:=hid I12;clear ho11 hg11 I11 I12 H10;have HREL:Hid ((ps++[((⟨(av:Int),dat⟩:Rec),Value.slice da dn1 dc)]).map (·.1)=(dn++[((⟨(av:Int),dat⟩:Rec),sv)]).map (·.1)/\(bd4=false->9<=b.length/\a+2+2+kv*16+4<=b.length/\pRecs N (b.drop 9)=joinP (dn++[((⟨(av:Int),dat⟩:Rec),sv)]) (pRecs m (b.drop (a+2+2+kv*16+4))))/\(bd4=true->9<=b.length->pRecs N (b.drop 9)=none)):=by
      have hse:secs b a=kv:=by unfold secs;rw[<-HAV.out.2]
      refine⟨by rw[List.map_append,List.map_append,HR0.out.1];rfl,fun hb4=>?_,fun hb4 _=>?_⟩
      ·have hfit:a+2+2+kv*16+4<=b.length:=Decidable.byContradiction fun hn=>by have:=(HS.out.2 hn).2;rw[hb4] at this;cases this
       have hra:recAt b a=(⟨(av:Int),dat⟩,sv):=by
        unfold recAt;rw[hse,<-HAV.out.1,HDAT.out,(HS.out.1 hfit).1,show a+4=a+2+2 by omega]
       refine⟨h9,hfit,?_⟩;rw[HR0.out.2,joinP_ok dn m b a hal (by rw[hse];omega),hra,hse]
       congr 2
       congr 1
       omega
      ·have hnf:¬ a+2+2+kv*16+4<=b.length:=fun hf=>by have:=(HS.out.1 hf).2;rw[hb4] at this;cases this
       rw[HR0.out.2];exact joinP_no dn m b a hal (by rw[hse];omega)
     clear HR0 HS HAV HDAT HA HK
     go_wp2_with fail
     go_roundw
     case rel=>exact⟨m,_,bd4,_,_,dn++[((⟨(av:Int),dat⟩:Rec),sv)],by go_num,by simp;omega,by omega,H12.out,HREL⟩
     case measure=>simp[intOf]
    ·have hno:bd2=true\/(a+2+2<=b.length/\b.length<a+2+2+kv*16):=by
      by_cases h:a+2+2<=b.length
      ·exact .inr ⟨h,by omega⟩
      ·exact .inl (HK.out.2 h).2
     refine(rdtake_no' b _ p (a+2+2) (kv*16) _ bd2 y3 (by simp) H3.out.1.rd H3.out.2.2.2.2 (by omega) hno (by omega)).mono ?_;rintro e y4 ⟨rfl,hr4,hb4,hk4⟩;have I4:=H3.out.1.keep hk4 hr4 hb4;have hx4:=(hk4.block x (blk_lt H3.out.2.1) H3.out.2.2.2.1).trans H3.out.2.1;have hsb4:=H3.out.2.2.2.2.below hb4 nlr;clear hno;have hd4:OwnB y4 w.heap.size 5 (.slice none 0 0) []:=OwnB.nil _ _ _;obtain⟨dat,hdat⟩:∃ dat:List UInt8,dat=[]:=⟨_,rfl⟩
     rw[<-hdat] at hd4;clear hdat;have HRV:=jd2 H3.out.2.2.1 H3.out.2.2.2.1;obtain⟨c1,c2,s0,s1,s2,sf⟩:=I4.cells;have xa:y4.cell? ⟨x,0,none⟩=some (.int .i64 av):=by simp[World.cell?,hx4]
     have xb:y4.cell? ⟨x,1,none⟩=some (.slice none 0 0):=by simp[World.cell?,hx4]
     have xf:y4.frozen? ⟨x,1,none⟩=false:=by simp[World.frozen?,hx4]
     have hxq:x≠q:=blk_ne hx4 I4.st (by decide);have I5:=I4.set hx4 HRV.out.1 hx0 1 (.slice none 0 0);have hx5:(y4.setCell ⟨x,1,none⟩ (.slice none 0 0)).heap[x]? = some (.cells #[.int .i64 av,.slice none 0 0] 98 (0,0)):=heap_set1 y4 x 1 _ _ _ _ hx4;have e0:(y4.setCell ⟨x,1,none⟩ (.slice none 0 0)).cell? ⟨x,0,none⟩=some (.int .i64 av):=by simp[World.cell?,hx5]
     have e1:(y4.setCell ⟨x,1,none⟩ (.slice none 0 0)).cell? ⟨x,1,none⟩=some (.slice none 0 0):=by simp[World.cell?,hx5]
     have e2:=I5.cells.2.2.2.2.1;have b5:Below y4.heap.size y4 ((y4.setCell ⟨x,1,none⟩ (.slice none 0 0)))\/True:=.inr trivial;have I6:Inv w ((y4.setCell ⟨x,1,none⟩ (.slice none 0 0)).alloc (.cells #[.int .i64 av,.slice none 0 0] 98)) p q (.slice oa nb cp) _ _ fB zz (.slice ra rn rc) ps u8 _:=I5.below (brf.alloc nlr _);have k5:Kept y4 (y4.setCell ⟨x,1,none⟩ (.slice none 0 0)) (·≠x):=.set _ _ _ _ fun hn=>hn rfl;have hd6:OwnB ((y4.setCell ⟨x,1,none⟩ (.slice none 0 0)).alloc (.cells #[.int .i64 av,.slice none 0 0] 98)) w.heap.size 5 (.slice none 0 0) dat:=(hd4.kept k5 fun k e=>by rintro rfl;exact hd4.not_block hx4 (by decide) e).alloc _;have hs6:=(HB.out.below I6.bel nlr).mono I6.hp;have hpl:ps.length<=65535:=by have:=congrArg List.length HR0.out.1;simp at this;omega
     have H6:=jd3 I6 hd6 hs6;clear I4 I5 hd6 hs6 I6 k5 b5 hx4 hsb4 hd4 H3 hr4 hb4 hk4 c1 c2 s0 s1 s2 sf hx5
     go_wp2_with (at_builtin;refine append_rec _ rfl _ _ rfl w.heap.size _ ps rfl H6.out.1.own _ _ (⟨av,dat⟩,.slice none 0 0) rfl ?_ ?_ rfl ?_ ?_ ?_)
     ·omega
     ·have:=H6.out.1.bel.size;exact this
     intro rv' z7 ho7 hg7;have ho7':z7.ownsRow w.heap.size 98 2 rv' (ps++[(((⟨(av:Int),dat⟩:Rec),Value.slice none 0 0):Rec×Value)]).length (flatP (ps++[(((⟨(av:Int),dat⟩:Rec),Value.slice none 0 0):Rec×Value)])):=by simpa using ho7
     obtain⟨ra',rn',rc',rfl⟩:=row_slice ho7';have I8:=H6.out.1.app (y:=(((⟨(av:Int),dat⟩:Rec),Value.slice none 0 0):Rec×Value)) hg7 ho7' H6.out.2.1;have hq7:=H6.out.1.app_q hg7;have q2:z7.cell? ⟨q,2,none⟩=some (.slice ra rn rc):=by simp[World.cell?,hq7]
     have qf:z7.frozen? ⟨q,2,none⟩=false:=by simp[World.frozen?,hq7]
     obtain⟨z8,hz8⟩:∃ z8,z8=z7.setCell ⟨q,2,none⟩ (.slice ra' rn' rc'):=⟨_,rfl⟩
     rw[<-hz8] at I8;have hs8:=(HB.out.below I8.bel nlr).mono I8.hp;have H8:=jd2 I8 hs8;clear ho7 ho7' hg7 hq7 I8 hs8 H6 e0 e1 e2 xa xb xf
     go_wp2_with fail
     rw[<-hz8];clear hz8 q2 qf;refine(rdnum_gen b _ p _ 4 _ 4 z8 rfl H8.out.1.rd H8.out.2 (by omega) (by omega) (by omega) (by omega)).mono ?_;rintro e y9 ⟨sv,bd4,rfl,hr9,hb9,hk9,hsv,HS⟩;have I9:=H8.out.1.keep hk9 hr9 hb9;have I10:Inv w (y9.alloc (.cells #[.int .i64 sv] 3)) p q _ _ _ fB zz _ _ u8 _:=I9.below (brf.alloc nlr _);have H10:=hid I10;clear hr9 hb9 hk9 I9 I10 H8
     go_wp2_with (at_builtin;refine append_intg _ rfl _ _ 146 rfl underlying146 Tryz.info3 w.heap.size _ _ sv rfl H10.out.sums _ _ rfl ?_ ?_ ?_ ?_)
     ·exact cell_alloc1 _ _ _
     ·simp;omega
     ·exact H10.out.bel.size
     intro zv' z11 ho11 hg11;have I11:=H10.out.sum hg11 ho11;have I12:=I11;rw[show(dn.map fun x=>(x.2:Int))++[(sv:Int)]=(dn++[((⟨(av:Int),dat⟩:Rec),sv)]).map (fun x=>(x.2:Int)) by simp] at I12;have H12:=hid I12;clear ho11 hg11 I11 I12 H10;have HREL:Hid ((ps++[((⟨(av:Int),dat⟩:Rec),Value.slice none 0 0)]).map (·.1)=(dn++[((⟨(av:Int),dat⟩:Rec),sv)]).map (·.1)/\(bd4=false->9<=b.length/\a+2+2+4<=b.length/\pRecs N (b.drop 9)=joinP (dn++[((⟨(av:Int),dat⟩:Rec),sv)]) (pRecs m (b.drop (a+2+2+4))))/\(bd4=true->9<=b.length->pRecs N (b.drop 9)=none)):=by
      have hb4:bd4=true:=by
       by_cases hf:a+2+2+4<=b.length
       ·exact(HS.out.1 hf).2
       ·exact(HS.out.2 hf).2
      refine⟨by rw[List.map_append,List.map_append,HR0.out.1];rfl,(fun h=>by rw[hb4] at h;cases h),fun _ _=>?_⟩;rw[HR0.out.2];refine joinP_no dn m b a hal fun hf=>hc ?_;have hk:=(HK.out.1 (by omega)).1;have hse:secs b a=kv:=by unfold secs;rw[<-hk]
      rw[hse] at hf;omega
     clear HR0 HS HA HK
     go_wp2_with fail
     go_roundw
     case rel=>exact⟨m,_,bd4,_,_,dn++[((⟨(av:Int),dat⟩:Rec),sv)],by go_num,by simp;omega,by omega,H12.out,HREL⟩
     case measure=>simp[intOf]
   all_goals
    obtain⟨ra,rn,rc,rfl⟩:=row_slice I.own;have HI0:=hid I;clear I
    go_wp2_with fail
    refine(rdnum_gen b _ p a 4 _ 4 wr rfl HI0.out.rd hsb (by omega) (by omega) (by omega) (by omega)).mono ?_;rintro e y1 ⟨cv,bdf,rfl,hr1,hb1,hk1,hcv,HC⟩;have I1:=HI0.out.keep hk1 hr1 hb1;have I2:Inv w (y1.alloc (.cells #[.int .i64 cv] 3)) p q (.slice oa nb cp) (a+4) bdf fB zz (.slice ra rn rc) ps u8 _:=I1.below (brf.alloc nlr _);have H2:=hid I2;have HF:=hid (form_fin b HMK.out ff zz N a cv M bd3 _ bdf fB dn HI.out HFB.out HR.out.2.1 (by first|exact HR.out.2.2|exact fun _=>HR.out.2.2 trivial) HC.out (by first|exact .inl rfl|exact .inr (by omega)));have HSF:=hid (strm_fin ff zz cv dn fB HFB.out);have HPS:=hid HR.out.1;clear hr1 hb1 hk1 I1 I2 HI0 hsb c1 c2 s0 s1 s2 sf HR HC HI HMK
    go_wp2_with (at_builtin;refine append_intg _ rfl _ _ 146 rfl underlying146 Tryz.info3 w.heap.size _ _ cv rfl H2.out.sums _ _ rfl ?_ ?_ ?_ ?_)
    ·exact cell_alloc1 _ _ _
    ·simp;omega
    ·exact H2.out.bel.size
    intro zv' z ho3 hg3;have I3:=H2.out.sum hg3 ho3;obtain⟨c1,c2,s0,s1,s2,sf⟩:=I3.cells;have KB:∀ x,x≠w.heap.size->x<z.heap.size->∀ w',Kept z w' (fun k=>k≠w.heap.size)->∀ o,w'.cell? ⟨x,o,none⟩=z.cell? ⟨x,o,none⟩:=fun x h1 h2 w' hk o=>hk.cell h2 h1;have npB:p≠w.heap.size:=blk_ne I3.rd I3.rs (by decide);have nqB:q≠w.heap.size:=fun e=>by have:=I3.hq;omega
    have C1:∀ w',Kept z w' (fun k=>k≠w.heap.size)->w'.cell? ⟨p,1,none⟩=some (.int .i64 ((a:Int)+4)):=fun w' hb=>(KB p npB (blk_lt I3.rd) w' hb 1).trans c1;have C2:∀ w',Kept z w' (fun k=>k≠w.heap.size)->w'.cell? ⟨p,2,none⟩=some (.bool bdf):=fun w' hb=>(KB p npB (blk_lt I3.rd) w' hb 2).trans c2;have S0:∀ w',Kept z w' (fun k=>k≠w.heap.size)->w'.cell? ⟨q,0,none⟩=some (.bool fB):=fun w' hb=>(KB q nqB (blk_lt I3.st) w' hb 0).trans s0;have S1:∀ w',Kept z w' (fun k=>k≠w.heap.size)->w'.cell? ⟨q,1,none⟩=some (.int .i64 zz):=fun w' hb=>(KB q nqB (blk_lt I3.st) w' hb 1).trans s1;have S2:∀ w',Kept z w' (fun k=>k≠w.heap.size)->w'.cell? ⟨q,2,none⟩=some (.slice ra rn rc):=fun w' hb=>(KB q nqB (blk_lt I3.st) w' hb 2).trans s2;clear KB npB nqB
    have HRT:=hid (fun w' (hb:Kept z w' (fun k=>k≠w.heap.size))=>right_any ⟨fB,zz,ps.map (·.1)⟩ (.slice ra rn rc) w' (OwnPs.slR (ownsRow_kept I3.own hb fun k e=>by rintro rfl;exact ownsRow_not I3.own I3.rs (by decide) e) (fun y hy=>(I3.dat y hy).kept hb fun k e=>by rintro rfl;exact(I3.dat y hy).not_block I3.rs (by decide) e)));have H3:=hid I3;clear I3 ho3 hg3 c1 c2 s0 s1 s2 sf H2;cases bdf
    rotate_left
    ·go_wp2_with fail
     refine wp_region_held_drew (S:=(fun w'=>Kept z w' (fun k=>k≠w.heap.size))) (by kernel_rfl) (Kept.drew z _) (fun hHeld=>?_);refine sk 0 ?_;try simp only[nk]
     refine sk 1 ?_;try simp only[nk]
     refine sk 2 ?_;try simp only[nk]
     refine sk 3 ?_;try simp only[nk]
     refine sk 4 ?_;try simp only[nk]
     refine sk 5 ?_;try simp only[nk]
     refine sk 6 ?_;try simp only[nk]
     refine sk 7 ?_;try simp only[nk]
     refine su 8 ?_;try simp only[nk]
     refine su 9 ?_;try simp only[nk]
     refine sk 10 ?_;try simp only[nk]
     refine sk 11 ?_;try simp only[nk]
     refine su 12 ?_;try simp only[nk]
     refine su 13 ?_;try simp only[nk]
     refine su 14 ?_;try simp only[nk]
     refine su 15 ?_;try simp only[nk]
     refine su 16 ?_;try simp only[nk]
     refine su 17 ?_;try simp only[nk]
     refine su 18 ?_;try simp only[nk]
     refine sk 19 ?_;try simp only[nk]
     refine sk 20 ?_;try simp only[nk]
     refine su 21 ?_;try simp only[nk]
     refine su 22 ?_;try simp only[nk]
     refine sk 23 ?_;try simp only[nk]
     refine sk 24 ?_;try simp only[nk]
     refine su 25 ?_;try simp only[nk]
     refine su 26 ?_;try simp only[nk]
     refine su 27 ?_;try simp only[nk]
     refine sk 28 ?_;try simp only[nk]
     have J:=H3.out;obtain⟨r0,r1,r2,g0,g1,g2⟩:=res_cells J.rs;obtain⟨t0,t1,t2,t3,t4⟩:=J.store (.bool fB) (.int .i64 zz) (.slice ra rn rc);have t0:((((z.setCell ⟨w.heap.size,0,none⟩ (.bool fB)).setCell ⟨w.heap.size,1,none⟩ (.int .i64 zz)).setCell ⟨w.heap.size,2,none⟩ (.slice ra rn rc)).drew).heap[w.heap.size]? = _:=t0;have t1:((((z.setCell ⟨w.heap.size,0,none⟩ (.bool fB)).setCell ⟨w.heap.size,1,none⟩ (.int .i64 zz)).setCell ⟨w.heap.size,2,none⟩ (.slice ra rn rc)).drew).ownsRow w.heap.size 98 2 (.slice ra rn rc) ps.length (flatP ps):=t1;have t2:∀ y∈ps,OwnB ((((z.setCell ⟨w.heap.size,0,none⟩ (.bool fB)).setCell ⟨w.heap.size,1,none⟩ (.int .i64 zz)).setCell ⟨w.heap.size,2,none⟩ (.slice ra rn rc)).drew) w.heap.size 5 y.2 y.1.data:=t2
     have t3:OwnI ((((z.setCell ⟨w.heap.size,0,none⟩ (.bool fB)).setCell ⟨w.heap.size,1,none⟩ (.int .i64 zz)).setCell ⟨w.heap.size,2,none⟩ (.slice ra rn rc)).drew) w.heap.size zv' _:=t3;have t4:Below w.heap.size w ((((z.setCell ⟨w.heap.size,0,none⟩ (.bool fB)).setCell ⟨w.heap.size,1,none⟩ (.int .i64 zz)).setCell ⟨w.heap.size,2,none⟩ (.slice ra rn rc)).drew):=t4.drew;refine wpAnyH_ready (rs:=[29]) (by kernel_rfl) (by simp) (AllReadyH.cons rfl (fun K hK=>?_) AllReadyH.nil);go_simp
     refine hK.out _ _ ((((Kept.set z _ _ _ fun hn=>hn rfl).trans (.set _ _ _ _ fun hn=>hn rfl)).trans (.set _ _ _ _ fun hn=>hn rfl)).trans (.drew _ _)) (fun hHeld9=>?_);clear hK K hHeld r0 r1 r2 g0 g1 g2 J
     try simp only[nk]
     obtain⟨zf,hzf⟩:∃ zf,zf=(((z.setCell ⟨w.heap.size,0,none⟩ (.bool fB)).setCell ⟨w.heap.size,1,none⟩ (.int .i64 zz)).setCell ⟨w.heap.size,2,none⟩ (.slice ra rn rc)).drew:=⟨_,rfl⟩
     rw[<-hzf] at t0 t1 t2 t3 t4 hHeld9 ⊢;clear hzf;have u0:zf.cell? ⟨w.heap.size,0,none⟩=some (.bool fB):=by simp[World.cell?,t0]
     have u1:zf.cell? ⟨w.heap.size,1,none⟩=some (.int .i64 zz):=by simp[World.cell?,t0]
     have u2:zf.cell? ⟨w.heap.size,2,none⟩=some (.slice ra rn rc):=by simp[World.cell?,t0]
     refine sk 30 ?_;try simp only[nk]
     refine sk 31 ?_;try simp only[nk]
     refine wpAnyH_done (by kernel_rfl) ?_ _
     go_wp2_with fail
     exact bodyPost_ret (v:=.tuple #[.agg #[.bool fB,.int .i64 zz,.slice ra rn rc],zv',.bool false]) (by simp[results,results138,go_sem,u0,u1,u2]) rfl ⟨t4,.inl ⟨HF.out.trans (if_neg (fun h=>absurd h.1 (by simp))),_,_,_,_,_,_,rfl⟩⟩
    by_cases h2:ff<=1;rotate_left
    ·have l2:decide ((ff:Int)<=1)=false:=decide_eq_false (by omega);have HP2:=hid h2;clear h2
     go_wp2_with fail
     refine wp_region_held_drew (S:=(fun w'=>Kept z w' (fun k=>k≠w.heap.size))) (by kernel_rfl) (Kept.drew z _) (fun hHeld=>?_);refine sk 0 ?_;try simp only[nk]
     refine sk 1 ?_;try simp only[nk]
     refine sk 2 ?_;try simp only[nk]
     refine sk 3 ?_;try simp only[nk]
     refine sk 4 ?_;try simp only[nk]
     refine sk 5 ?_;try simp only[nk]
     refine sk 6 ?_;try simp only[nk]
     refine sk 7 ?_;try simp only[nk]
     refine sk 8 ?_;try simp only[nk]
     refine sk 9 ?_;try simp only[nk]
     refine sk 10 ?_;try simp only[nk]
     refine sk 11 ?_;try simp only[nk]
     refine su 12 ?_;try simp only[nk]
     refine su 13 ?_;try simp only[nk]
     refine su 14 ?_;try simp only[nk]
     refine su 15 ?_;try simp only[nk]
     refine su 16 ?_;try simp only[nk]
     refine su 17 ?_;try simp only[nk]
     refine su 18 ?_;try simp only[nk]
     refine sk 19 ?_;try simp only[nk]
     refine sk 20 ?_;try simp only[nk]
     refine su 21 ?_;try simp only[nk]
     refine su 22 ?_;try simp only[nk]
     refine sk 23 ?_;try simp only[nk]
     refine sk 24 ?_;try simp only[nk]
     refine su 25 ?_;try simp only[nk]
     refine su 26 ?_;try simp only[nk]
     refine su 27 ?_;try simp only[nk]
     refine sk 28 ?_;try simp only[nk]
     have J:=H3.out;obtain⟨r0,r1,r2,g0,g1,g2⟩:=res_cells J.rs;obtain⟨t0,t1,t2,t3,t4⟩:=J.store (.bool fB) (.int .i64 zz) (.slice ra rn rc);have t0:((((z.setCell ⟨w.heap.size,0,none⟩ (.bool fB)).setCell ⟨w.heap.size,1,none⟩ (.int .i64 zz)).setCell ⟨w.heap.size,2,none⟩ (.slice ra rn rc)).drew).heap[w.heap.size]? = _:=t0;have t1:((((z.setCell ⟨w.heap.size,0,none⟩ (.bool fB)).setCell ⟨w.heap.size,1,none⟩ (.int .i64 zz)).setCell ⟨w.heap.size,2,none⟩ (.slice ra rn rc)).drew).ownsRow w.heap.size 98 2 (.slice ra rn rc) ps.length (flatP ps):=t1;have t2:∀ y∈ps,OwnB ((((z.setCell ⟨w.heap.size,0,none⟩ (.bool fB)).setCell ⟨w.heap.size,1,none⟩ (.int .i64 zz)).setCell ⟨w.heap.size,2,none⟩ (.slice ra rn rc)).drew) w.heap.size 5 y.2 y.1.data:=t2
     have t3:OwnI ((((z.setCell ⟨w.heap.size,0,none⟩ (.bool fB)).setCell ⟨w.heap.size,1,none⟩ (.int .i64 zz)).setCell ⟨w.heap.size,2,none⟩ (.slice ra rn rc)).drew) w.heap.size zv' _:=t3;have t4:Below w.heap.size w ((((z.setCell ⟨w.heap.size,0,none⟩ (.bool fB)).setCell ⟨w.heap.size,1,none⟩ (.int .i64 zz)).setCell ⟨w.heap.size,2,none⟩ (.slice ra rn rc)).drew):=t4.drew;refine wpAnyH_ready (rs:=[29]) (by kernel_rfl) (by simp) (AllReadyH.cons rfl (fun K hK=>?_) AllReadyH.nil);go_simp
     refine hK.out _ _ ((((Kept.set z _ _ _ fun hn=>hn rfl).trans (.set _ _ _ _ fun hn=>hn rfl)).trans (.set _ _ _ _ fun hn=>hn rfl)).trans (.drew _ _)) (fun hHeld9=>?_);clear hK K hHeld r0 r1 r2 g0 g1 g2 J
     try simp only[nk]
     obtain⟨zf,hzf⟩:∃ zf,zf=(((z.setCell ⟨w.heap.size,0,none⟩ (.bool fB)).setCell ⟨w.heap.size,1,none⟩ (.int .i64 zz)).setCell ⟨w.heap.size,2,none⟩ (.slice ra rn rc)).drew:=⟨_,rfl⟩
     rw[<-hzf] at t0 t1 t2 t3 t4 hHeld9 ⊢;clear hzf;have u0:zf.cell? ⟨w.heap.size,0,none⟩=some (.bool fB):=by simp[World.cell?,t0]
     have u1:zf.cell? ⟨w.heap.size,1,none⟩=some (.int .i64 zz):=by simp[World.cell?,t0]
     have u2:zf.cell? ⟨w.heap.size,2,none⟩=some (.slice ra rn rc):=by simp[World.cell?,t0]
     refine sk 30 ?_;try simp only[nk]
     refine sk 31 ?_;try simp only[nk]
     refine wpAnyH_done (by kernel_rfl) ?_ _
     go_wp2_with fail
     exact bodyPost_ret (v:=.tuple #[.agg #[.bool fB,.int .i64 zz,.slice ra rn rc],zv',.bool false]) (by simp[results,results138,go_sem,u0,u1,u2]) rfl ⟨t4,.inl ⟨HF.out.trans (if_neg (fun h=>HP2.out h.2.1)),_,_,_,_,_,_,rfl⟩⟩
    have l2:decide ((ff:Int)<=1)=true:=decide_eq_true (by omega);have HP2:=hid h2;clear h2;by_cases h3:a+4=b.length;rotate_left
    ·have l3:((a:Int)+4==(b.length:Int))=false:=by rw[beq_eq_false_iff_ne];omega
     have HP3:=hid h3;clear h3
     go_wp2_with fail
     refine wp_region_held_drew (S:=(fun w'=>Kept z w' (fun k=>k≠w.heap.size))) (by kernel_rfl) (Kept.drew z _) (fun hHeld=>?_);refine sk 0 ?_;try simp only[nk]
     refine sk 1 ?_;try simp only[nk]
     refine sk 2 ?_;try simp only[nk]
     refine sk 3 ?_;try simp only[nk]
     refine sk 4 ?_;try simp only[nk]
     refine sk 5 ?_;try simp only[nk]
     refine sk 6 ?_;try simp only[nk]
     refine sk 7 ?_;try simp only[nk]
     refine sk 8 ?_;try simp only[nk]
     refine sk 9 ?_;try simp only[nk]
     refine sk 10 ?_;try simp only[nk]
     refine sk 11 ?_;try simp only[nk]
     refine sk 12 ?_;try simp only[nk]
     refine sk 13 ?_;try simp only[nk]
     refine sk 14 ?_;try simp only[nk]
     refine sk 15 ?_;try simp only[nk]
     refine sk 16 ?_;try simp only[nk]
     refine sk 17 ?_;try simp only[nk]
     refine sk 18 ?_;try simp only[nk]
     refine sk 19 ?_;try simp only[nk]
     refine sk 20 ?_;try simp only[nk]
     refine su 21 ?_;try simp only[nk]
     refine su 22 ?_;try simp only[nk]
     refine sk 23 ?_;try simp only[nk]
     refine sk 24 ?_;try simp only[nk]
     refine su 25 ?_;try simp only[nk]
     refine su 26 ?_;try simp only[nk]
     refine su 27 ?_;try simp only[nk]
     refine sk 28 ?_;try simp only[nk]
     have J:=H3.out;obtain⟨r0,r1,r2,g0,g1,g2⟩:=res_cells J.rs;obtain⟨t0,t1,t2,t3,t4⟩:=J.store (.bool fB) (.int .i64 zz) (.slice ra rn rc);have t0:((((z.setCell ⟨w.heap.size,0,none⟩ (.bool fB)).setCell ⟨w.heap.size,1,none⟩ (.int .i64 zz)).setCell ⟨w.heap.size,2,none⟩ (.slice ra rn rc)).drew).heap[w.heap.size]? = _:=t0;have t1:((((z.setCell ⟨w.heap.size,0,none⟩ (.bool fB)).setCell ⟨w.heap.size,1,none⟩ (.int .i64 zz)).setCell ⟨w.heap.size,2,none⟩ (.slice ra rn rc)).drew).ownsRow w.heap.size 98 2 (.slice ra rn rc) ps.length (flatP ps):=t1;have t2:∀ y∈ps,OwnB ((((z.setCell ⟨w.heap.size,0,none⟩ (.bool fB)).setCell ⟨w.heap.size,1,none⟩ (.int .i64 zz)).setCell ⟨w.heap.size,2,none⟩ (.slice ra rn rc)).drew) w.heap.size 5 y.2 y.1.data:=t2
     have t3:OwnI ((((z.setCell ⟨w.heap.size,0,none⟩ (.bool fB)).setCell ⟨w.heap.size,1,none⟩ (.int .i64 zz)).setCell ⟨w.heap.size,2,none⟩ (.slice ra rn rc)).drew) w.heap.size zv' _:=t3;have t4:Below w.heap.size w ((((z.setCell ⟨w.heap.size,0,none⟩ (.bool fB)).setCell ⟨w.heap.size,1,none⟩ (.int .i64 zz)).setCell ⟨w.heap.size,2,none⟩ (.slice ra rn rc)).drew):=t4.drew;refine wpAnyH_ready (rs:=[29]) (by kernel_rfl) (by simp) (AllReadyH.cons rfl (fun K hK=>?_) AllReadyH.nil);go_simp
     refine hK.out _ _ ((((Kept.set z _ _ _ fun hn=>hn rfl).trans (.set _ _ _ _ fun hn=>hn rfl)).trans (.set _ _ _ _ fun hn=>hn rfl)).trans (.drew _ _)) (fun hHeld9=>?_);clear hK K hHeld r0 r1 r2 g0 g1 g2 J
     try simp only[nk]
     obtain⟨zf,hzf⟩:∃ zf,zf=(((z.setCell ⟨w.heap.size,0,none⟩ (.bool fB)).setCell ⟨w.heap.size,1,none⟩ (.int .i64 zz)).setCell ⟨w.heap.size,2,none⟩ (.slice ra rn rc)).drew:=⟨_,rfl⟩
     rw[<-hzf] at t0 t1 t2 t3 t4 hHeld9 ⊢;clear hzf;have u0:zf.cell? ⟨w.heap.size,0,none⟩=some (.bool fB):=by simp[World.cell?,t0]
     have u1:zf.cell? ⟨w.heap.size,1,none⟩=some (.int .i64 zz):=by simp[World.cell?,t0]
     have u2:zf.cell? ⟨w.heap.size,2,none⟩=some (.slice ra rn rc):=by simp[World.cell?,t0]
     refine sk 30 ?_;try simp only[nk]
     refine sk 31 ?_;try simp only[nk]
     refine wpAnyH_done (by kernel_rfl) ?_ _
     go_wp2_with fail
     exact bodyPost_ret (v:=.tuple #[.agg #[.bool fB,.int .i64 zz,.slice ra rn rc],zv',.bool false]) (by simp[results,results138,go_sem,u0,u1,u2]) rfl ⟨t4,.inl ⟨HF.out.trans (if_neg (fun h=>HP3.out h.2.2.1)),_,_,_,_,_,_,rfl⟩⟩
    have l3:((a:Int)+4==(b.length:Int))=true:=by rw[beq_iff_eq];omega
    have HP3:=hid h3;clear h3;obtain⟨rr,hrr⟩:∃ rr,right ⟨fB,zz,ps.map (·.1)⟩=rr:=⟨_,rfl⟩
    have HRTV:=hid hrr;clear hrr;cases rr
    ·go_wp2_with fail
     refine wp_region_held_drew (S:=(fun w'=>Kept z w' (fun k=>k≠w.heap.size))) (by kernel_rfl) (Kept.drew z _) (fun hHeld=>?_);refine sk 0 ?_;try simp only[nk]
     refine sk 1 ?_;try simp only[nk]
     refine sk 2 ?_;try simp only[nk]
     refine sk 3 ?_;try simp only[nk]
     refine sk 4 ?_;try simp only[nk]
     refine sk 5 ?_;try simp only[nk]
     refine sk 6 ?_;try simp only[nk]
     refine sk 7 ?_;try simp only[nk]
     refine sk 8 ?_;try simp only[nk]
     refine sk 9 ?_;try simp only[nk]
     refine sk 10 ?_;try simp only[nk]
     refine sk 11 ?_;try simp only[nk]
     refine sk 12 ?_;try simp only[nk]
     refine sk 13 ?_;try simp only[nk]
     refine sk 14 ?_;try simp only[nk]
     refine sk 15 ?_;try simp only[nk]
     refine sk 16 ?_;try simp only[nk]
     refine sk 17 ?_;try simp only[nk]
     refine sk 18 ?_;try simp only[nk]
     refine sk 19 ?_;try simp only[nk]
     refine sk 20 ?_;try simp only[nk]
     refine sk 21 ?_;try simp only[nk]
     refine wpAnyH_ready (rs:=[22]) (by kernel_rfl) (by simp) (AllReadyH.cons rfl (fun K hK=>?_) AllReadyH.nil);go_simp
     go_wp2_with (go_at_call 134;refine(HRT.out _ hHeld).mono ?_;rintro e z5 ⟨rfl,hz5⟩)
     have hz5':Below z.heap.size z z5:=hz5.trans_drew;refine hK.out _ _ (Kept.of_below hz5' fun _ h _=>h) (fun hHeld5=>?_);clear hK K hHeld;have hHeld:=hHeld5;rw[HRTV.out]
     try simp only[nk]
     refine sk 23 ?_;try simp only[nk]
     refine sk 24 ?_;try simp only[nk]
     refine su 25 ?_;try simp only[nk]
     refine su 26 ?_;try simp only[nk]
     refine su 27 ?_;try simp only[nk]
     refine sk 28 ?_;try simp only[nk]
     have J:=H3.out.below hz5';obtain⟨r0,r1,r2,g0,g1,g2⟩:=res_cells J.rs;obtain⟨t0,t1,t2,t3,t4⟩:=J.store (.bool fB) (.int .i64 zz) (.slice ra rn rc);refine wpAnyH_ready (rs:=[29]) (by kernel_rfl) (by simp) (AllReadyH.cons rfl (fun K hK=>?_) AllReadyH.nil);go_simp
     refine hK.out _ _ (((hHeld.trans (.set _ _ _ _ fun hn=>hn rfl)).trans (.set _ _ _ _ fun hn=>hn rfl)).trans (.set _ _ _ _ fun hn=>hn rfl)) (fun hHeld9=>?_);clear hK K hHeld r0 r1 r2 g0 g1 g2 J
     try simp only[nk]
     obtain⟨zf,hzf⟩:∃ zf,zf=((z5.setCell ⟨w.heap.size,0,none⟩ (.bool fB)).setCell ⟨w.heap.size,1,none⟩ (.int .i64 zz)).setCell ⟨w.heap.size,2,none⟩ (.slice ra rn rc):=⟨_,rfl⟩
     rw[<-hzf] at t0 t1 t2 t3 t4 hHeld9 ⊢;clear hzf;have u0:zf.cell? ⟨w.heap.size,0,none⟩=some (.bool fB):=by simp[World.cell?,t0]
     have u1:zf.cell? ⟨w.heap.size,1,none⟩=some (.int .i64 zz):=by simp[World.cell?,t0]
     have u2:zf.cell? ⟨w.heap.size,2,none⟩=some (.slice ra rn rc):=by simp[World.cell?,t0]
     refine sk 30 ?_;try simp only[nk]
     refine sk 31 ?_;try simp only[nk]
     refine wpAnyH_done (by kernel_rfl) ?_ _
     go_wp2_with fail
     exact bodyPost_ret (v:=.tuple #[.agg #[.bool fB,.int .i64 zz,.slice ra rn rc],zv',.bool false]) (by simp[results,results138,go_sem,u0,u1,u2]) rfl ⟨t4,.inl ⟨HF.out.trans (if_neg (fun h=>by have h4:=h.2.2.2.1;rw[<-HPS.out,HRTV.out] at h4;cases h4)),_,_,_,_,_,_,rfl⟩⟩
    by_cases h5:b.length<=262144
    ·have l5:decide ((b.length:Int)<=262144)=true:=decide_eq_true (by omega);have HP5:=hid h5;clear h5
     go_wp2_with fail
     refine wp_region_held_drew (S:=(fun w'=>Kept z w' (fun k=>k≠w.heap.size))) (by kernel_rfl) (Kept.drew z _) (fun hHeld=>?_);refine sk 0 ?_;try simp only[nk]
     refine sk 1 ?_;try simp only[nk]
     refine sk 2 ?_;try simp only[nk]
     refine sk 3 ?_;try simp only[nk]
     refine sk 4 ?_;try simp only[nk]
     refine sk 5 ?_;try simp only[nk]
     refine sk 6 ?_;try simp only[nk]
     refine sk 7 ?_;try simp only[nk]
     refine sk 8 ?_;try simp only[nk]
     refine sk 9 ?_;try simp only[nk]
     refine sk 10 ?_;try simp only[nk]
     refine sk 11 ?_;try simp only[nk]
     refine sk 12 ?_;try simp only[nk]
     refine sk 13 ?_;try simp only[nk]
     refine sk 14 ?_;try simp only[nk]
     refine sk 15 ?_;try simp only[nk]
     refine sk 16 ?_;try simp only[nk]
     refine sk 17 ?_;try simp only[nk]
     refine sk 18 ?_;try simp only[nk]
     refine sk 19 ?_;try simp only[nk]
     refine sk 20 ?_;try simp only[nk]
     refine sk 21 ?_;try simp only[nk]
     refine wpAnyH_ready (rs:=[22]) (by kernel_rfl) (by simp) (AllReadyH.cons rfl (fun K hK=>?_) AllReadyH.nil);go_simp
     go_wp2_with (go_at_call 134;refine(HRT.out _ hHeld).mono ?_;rintro e z5 ⟨rfl,hz5⟩)
     have hz5':Below z.heap.size z z5:=hz5.trans_drew;refine hK.out _ _ (Kept.of_below hz5' fun _ h _=>h) (fun hHeld5=>?_);clear hK K hHeld;have hHeld:=hHeld5;rw[HRTV.out]
     try simp only[nk]
     refine sk 23 ?_;try simp only[nk]
     refine sk 24 ?_;try simp only[nk]
     refine sk 25 ?_;try simp only[nk]
     refine sk 26 ?_;try simp only[nk]
     refine sk 27 ?_;try simp only[nk]
     refine sk 28 ?_;try simp only[nk]
     have J:=H3.out.below hz5';obtain⟨r0,r1,r2,g0,g1,g2⟩:=res_cells J.rs;obtain⟨t0,t1,t2,t3,t4⟩:=J.store (.bool fB) (.int .i64 zz) (.slice ra rn rc);refine wpAnyH_ready (rs:=[29]) (by kernel_rfl) (by simp) (AllReadyH.cons rfl (fun K hK=>?_) AllReadyH.nil);go_simp
     refine hK.out _ _ (((hHeld.trans (.set _ _ _ _ fun hn=>hn rfl)).trans (.set _ _ _ _ fun hn=>hn rfl)).trans (.set _ _ _ _ fun hn=>hn rfl)) (fun hHeld9=>?_);clear hK K hHeld r0 r1 r2 g0 g1 g2 J
     try simp only[nk]
     obtain⟨zf,hzf⟩:∃ zf,zf=((z5.setCell ⟨w.heap.size,0,none⟩ (.bool fB)).setCell ⟨w.heap.size,1,none⟩ (.int .i64 zz)).setCell ⟨w.heap.size,2,none⟩ (.slice ra rn rc):=⟨_,rfl⟩
     rw[<-hzf] at t0 t1 t2 t3 t4 hHeld9 ⊢;clear hzf;have u0:zf.cell? ⟨w.heap.size,0,none⟩=some (.bool fB):=by simp[World.cell?,t0]
     have u1:zf.cell? ⟨w.heap.size,1,none⟩=some (.int .i64 zz):=by simp[World.cell?,t0]
     have u2:zf.cell? ⟨w.heap.size,2,none⟩=some (.slice ra rn rc):=by simp[World.cell?,t0]
     refine sk 30 ?_;try simp only[nk]
     refine sk 31 ?_;try simp only[nk]
     refine wpAnyH_done (by kernel_rfl) ?_ _
     go_wp2_with fail
     exact bodyPost_ret (v:=.tuple #[.agg #[.bool fB,.int .i64 zz,.slice ra rn rc],zv',.bool true]) (by simp[results,results138,go_sem,u0,u1,u2]) rfl ⟨t4,.inr ⟨⟨ff,zz,dn,cv⟩,.slice ra rn rc,zv',ps,HF.out.trans (if_pos ⟨by trivial,HP2.out,HP3.out,HPS.out▸HRTV.out,HP5.out⟩),HPS.out,by rw[HSF.out];rfl,t1,t2,t3⟩⟩
    ·have l5:decide ((b.length:Int)<=262144)=false:=decide_eq_false (by omega);have HP5:=hid h5;clear h5
     go_wp2_with fail
     refine wp_region_held_drew (S:=(fun w'=>Kept z w' (fun k=>k≠w.heap.size))) (by kernel_rfl) (Kept.drew z _) (fun hHeld=>?_);refine sk 0 ?_;try simp only[nk]
     refine sk 1 ?_;try simp only[nk]
     refine sk 2 ?_;try simp only[nk]
     refine sk 3 ?_;try simp only[nk]
     refine sk 4 ?_;try simp only[nk]
     refine sk 5 ?_;try simp only[nk]
     refine sk 6 ?_;try simp only[nk]
     refine sk 7 ?_;try simp only[nk]
     refine sk 8 ?_;try simp only[nk]
     refine sk 9 ?_;try simp only[nk]
     refine sk 10 ?_;try simp only[nk]
     refine sk 11 ?_;try simp only[nk]
     refine sk 12 ?_;try simp only[nk]
     refine sk 13 ?_;try simp only[nk]
     refine sk 14 ?_;try simp only[nk]
     refine sk 15 ?_;try simp only[nk]
     refine sk 16 ?_;try simp only[nk]
     refine sk 17 ?_;try simp only[nk]
     refine sk 18 ?_;try simp only[nk]
     refine sk 19 ?_;try simp only[nk]
     refine sk 20 ?_;try simp only[nk]
     refine sk 21 ?_;try simp only[nk]
     refine wpAnyH_ready (rs:=[22]) (by kernel_rfl) (by simp) (AllReadyH.cons rfl (fun K hK=>?_) AllReadyH.nil);go_simp
     go_wp2_with (go_at_call 134;refine(HRT.out _ hHeld).mono ?_;rintro e z5 ⟨rfl,hz5⟩)
     have hz5':Below z.heap.size z z5:=hz5.trans_drew;refine hK.out _ _ (Kept.of_below hz5' fun _ h _=>h) (fun hHeld5=>?_);clear hK K hHeld;have hHeld:=hHeld5;rw[HRTV.out]
     try simp only[nk]
     refine sk 23 ?_;try simp only[nk]
     refine sk 24 ?_;try simp only[nk]
     refine sk 25 ?_;try simp only[nk]
     refine sk 26 ?_;try simp only[nk]
     refine sk 27 ?_;try simp only[nk]
     refine sk 28 ?_;try simp only[nk]
     have J:=H3.out.below hz5';obtain⟨r0,r1,r2,g0,g1,g2⟩:=res_cells J.rs;obtain⟨t0,t1,t2,t3,t4⟩:=J.store (.bool fB) (.int .i64 zz) (.slice ra rn rc);refine wpAnyH_ready (rs:=[29]) (by kernel_rfl) (by simp) (AllReadyH.cons rfl (fun K hK=>?_) AllReadyH.nil);go_simp
     refine hK.out _ _ (((hHeld.trans (.set _ _ _ _ fun hn=>hn rfl)).trans (.set _ _ _ _ fun hn=>hn rfl)).trans (.set _ _ _ _ fun hn=>hn rfl)) (fun hHeld9=>?_);clear hK K hHeld r0 r1 r2 g0 g1 g2 J
     try simp only[nk]
     obtain⟨zf,hzf⟩:∃ zf,zf=((z5.setCell ⟨w.heap.size,0,none⟩ (.bool fB)).setCell ⟨w.heap.size,1,none⟩ (.int .i64 zz)).setCell ⟨w.heap.size,2,none⟩ (.slice ra rn rc):=⟨_,rfl⟩
     rw[<-hzf] at t0 t1 t2 t3 t4 hHeld9 ⊢;clear hzf;have u0:zf.cell? ⟨w.heap.size,0,none⟩=some (.bool fB):=by simp[World.cell?,t0]
     have u1:zf.cell? ⟨w.heap.size,1,none⟩=some (.int .i64 zz):=by simp[World.cell?,t0]
     have u2:zf.cell? ⟨w.heap.size,2,none⟩=some (.slice ra rn rc):=by simp[World.cell?,t0]
     refine sk 30 ?_;try simp only[nk]
     refine sk 31 ?_;try simp only[nk]
     refine wpAnyH_done (by kernel_rfl) ?_ _
     go_wp2_with fail
     exact bodyPost_ret (v:=.tuple #[.agg #[.bool fB,.int .i64 zz,.slice ra rn rc],zv',.bool false]) (by simp[results,results138,go_sem,u0,u1,u2]) rfl ⟨t4,.inl ⟨HF.out.trans (if_neg (fun h=>HP5.out h.2.2.2.2)),_,_,_,_,_,_,rfl⟩⟩
end Go.Proofs.YtgkabcaodnofnaaGreat.Sb
