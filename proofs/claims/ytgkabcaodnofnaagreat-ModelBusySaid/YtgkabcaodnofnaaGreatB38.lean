import Derived.Test.YtgkabcaodnofnaaGreatB36
import Derived.Test.YtgkabcaodnofnaaGreatB37
import Derived.Test.YtgkabcaodnofnaaGreatB02
import Derived.Test.YtgkabcaodnofnaaGreatB07
set_option linter.unusedSimpArgs false
set_option linter.unusedVariables false
set_option maxRecDepth 100000
set_option maxHeartbeats 2000000
open Go.Proofs.Tryz
namespace Go.Proofs.YtgkabcaodnofnaaGreat
open Go.RowKit Go.Mx Go.Md Go.Str
theorem flat_rows (ps:List (Rec×Value)):Sb.flatP ps=(ps.map fun p=>[Value.int .i64 p.1.at_,p.2]).flatten:=by
 unfold Sb.flatP;rw[List.flatMap_def]
theorem get_err {b:Bs}{bv:Value}{w:World}(hb:SlB w w.heap.size bv b)(hl:b.length<=1000000)(he:(getB b).2≠0) :
  Calls prog 100 #[bv] w fun e w'=>e = .returned (.tuple #[.agg #[.bool false,.int .i64 0,.slice none 0 0],.int .i64 ((getB b).2:Nat)])/\Below w.heap.size w w' :=
 (Sb.sget_any b bv w hb hl).mono fun e w' h=>by
  obtain⟨hb,h|⟨rv,ps,h0,_⟩⟩:=h
  ·exact⟨h.2,hb⟩
  ·exact absurd h0 he
theorem get_ok {b:Bs}{bv:Value}{w:World}(hb:SlB w w.heap.size bv b)(hl:b.length<=1000000)(he:(getB b).2=0) :
  Calls prog 100 #[bv] w fun e w'=>∃ (rv:Value) (ps:List (Rec×Value)),e = .returned (.tuple #[.agg #[.bool (getB b).1.full,.int .i64 (getB b).1.size,rv],.int .i64 0])/\right (getB b).1=true/\ps.map (·.1)=(getB b).1.recs/\OwnG w' w.heap.size 98 2 rv (ps.map fun p=>[.int .i64 p.1.at_,p.2])/\(∀ y∈ps,OwnB w' w.heap.size 5 y.2 y.1.data)/\Below w.heap.size w w' :=
 (Sb.sget_any b bv w hb hl).mono fun e w' h=>by
  obtain⟨hb,h|⟨rv,ps,h0,h1,h2,h3,h4,h5⟩⟩:=h
  ·exact absurd he h.1
  ·refine⟨rv,ps,h3,h1,h2,⟨?_,fun r hr=>?_⟩,h5,hb⟩
   ·rw[List.length_map,<-flat_rows];exact h4
   ·obtain⟨p,_,rfl⟩:=List.mem_map.1 hr;rfl
theorem slice_to (g n hi:Nat)(h:hi<=n):∀ w' (k:IntKind),(Instr.slice 23 (.slice (some ⟨g,0,none⟩) n n) none (some (.int k (hi:Int))) none).run prog w' = .ok (.slice (some ⟨g,0,none⟩) hi n) w':=by
 intro w' k;have ht:prog.underlying 23=some (.slice 5):=underlying23;have ht':prog.underlying 23=some (.slice (prog.elem 23)):=by rw[ht];simp[Program.elem,ht]
 have hel:prog.elem 23=5:=by simp[Program.elem,ht]
 rw[run_slice_h (h:=(hi:Int)) (ht:=ht') (h0:=by omega) (h2:=by omega),hel,size5'];simp[Result.andThen,sliced,Addr.add]
theorem run_copy_c {P:Program}(w:World)(dT sT ty e:TypeId)(hu:P.underlying dT=some (.slice e))(hsz:(P.info? e).map (·.size)=some 1)(g off dLen dCap:Nat)(sv:Value)(bs L:List UInt8)(B:Nat)(t:TypeId)
  (hsl:SlB w B sv bs) (hg:w.heap[g]? = some (.cells (L.map u8).toArray t (0,0))) (hl:dLen<=bs.length) (hfit:off+dLen<=L.length) :
  ∃ w',(Builtin.copy_ #[dT,sT] ty #[.slice (some ⟨g,off,none⟩) dLen dCap,sv]).run P w = .ok (goInt dLen) w'/\w'.heap[g]? = some (.cells ((splice L off (bs.take dLen)).map u8).toArray t (0,0))/\Kept w w' (·≠g)/\(∀ B w0,Below B w0 w->B<=g->Below B w0 w'):=by
 obtain⟨oa,cap,rfl,h1,h2,h3⟩:=id hsl;by_cases h0:dLen=0
 ·subst h0;have hrun:=run_copy_none (P:=P) w dT sT ty e (some ⟨g,off,none⟩) oa 0 dCap bs.length cap hu hsz (by simp);exact⟨w,hrun,by simpa[splice] using hg,Kept.refl _ _,fun _ _ h _=>h⟩
 ·obtain⟨bb,bo,rfl,_,hr⟩:=h3 (by rintro rfl;simp at hl;exact h0 hl);have htl:(bs.take dLen).length=dLen:=by rw[List.length_take];omega
  have hrun:=run_copy_row (P:=P) w dT sT ty e g off dLen dCap ⟨bb,bo,none⟩ bs.length cap (L.map u8).toArray t ((bs.take dLen).map u8) hu hsz hg (by rw[List.length_map,htl];exact(Nat.min_eq_right hl).symm) (fun j v hj=>by
   rw[List.getElem?_map] at hj;cases hb:(bs.take dLen)[j]? with
   | none=>rw[hb] at hj;cases hj
   | some y =>
    rw[hb] at hj;simp only[Option.map_some,Option.some.injEq] at hj;subst hj;have hjl:j<dLen:=by have:=(List.getElem?_eq_some_iff.1 hb).1;omega
    rw[List.getElem?_take,if_pos hjl] at hb;have e:(⟨bb,bo,none⟩:Addr).add j=⟨bb,bo+j,none⟩:=by unfold Addr.add;split<;>simp_all
    rw[e,hr j (by omega),List.getD_eq_getElem?_getD,hb];rfl) (by rw[List.length_map,htl];simpa using hfit) (by intro u hu;obtain⟨y,_,rfl⟩:=List.mem_map.1 hu;rfl)
  have hrow:(((L.map u8).toArray).toList.take off++(bs.take dLen).map u8++((L.map u8).toArray).toList.drop (off+((bs.take dLen).map u8).length)).toArray=((splice L off (bs.take dLen)).map u8).toArray:=by rw[map_splice];simp[splice]
  rw[hrow] at hrun;rw[List.length_map,htl] at hrun;exact⟨_,hrun,setRow_heap w g _ _ t _ hg,setRow_kept _ _ _,fun B w0 hb hBg=>below_setRow hb hBg _⟩
theorem right_rec {s:Strm}(h:right s=true){r:Rec}(hr:r∈s.recs):∃ aN:Nat,r.at_=(aN:Int)/\aN+r.data.length/16<=s.size.toNat/\r.data.length=16*(r.data.length/16)/\1<=r.data.length/16:=by
 rw[right,Bool.and_eq_true,decide_eq_true_eq] at h;obtain⟨⟨h1,h2⟩,h3⟩:=h;have key:∀ (l:List Rec) (last:Int),0<=last->rightFrom s.size last l=true->∀ r∈l,0<=r.at_/\r.data.length%16=0/\1<=r.n/\(r.n:Int)<=s.size-r.at_:=by
  intro l
  induction l with
  | nil=>intro _ _ _ r hr;cases hr
  | cons a l ih =>
   intro last hl h r hr;unfold rightFrom at h;rw[Bool.and_eq_true,okR_iff] at h;obtain⟨⟨a1,a2,a3,a4,a5⟩,hb⟩:=h;rcases List.mem_cons.1 hr with rfl|hr
   ·exact⟨by omega,a2,a1,a5⟩
   ·exact ih _ (by omega) hb r hr
 obtain⟨b1,b2,b3,b4⟩:=key _ 0 (Int.le_refl _) h3 r hr;unfold Rec.n at b3 b4;exact⟨r.at_.toNat,by omega,by omega,by omega,b3⟩
theorem willB_succ {s:Strm}{N:Nat}{WS:Bs}{j:Nat}{r:Rec}(h:s.recs[j]? = some r):willB s N WS (j+1)=layR (willB s N WS j) r:=by
 unfold willB;rw[List.take_add_one,h,List.foldl_append];rfl
theorem willB_len {s:Strm}{N Z:Nat}{WS:Bs}(h:right s=true)(hz:s.size.toNat=Z)(hZ:Z<=N)(hW:16*Z<=WS.length):∀ j,(willB s N WS j).length=16*N
 | 0=>by
  show(will0 s N WS).length=16*N;unfold will0;split
  ·exact zer_len _
  ·rw[List.length_append,List.length_take,zer_len,hz];omega
 | j+1=>by
  have ih:=willB_len h hz hZ hW j;cases hr:s.recs[j]? with
  | none=>unfold willB at ih ⊢;rw[List.take_add_one,hr];simpa using ih
  | some r =>
   rw[willB_succ hr,length_layR,ih];obtain⟨aN,h1,h2,h3,h4⟩:=right_rec h (List.mem_of_getElem? hr);rw[ih,h1,Int.toNat_natCast];omega
theorem size98 (w:World):(sizeOf 98).run prog w = .ok 2 w:=by kernel_rfl
theorem cells54 {w:World}{bx:Nat}{f:Bool}{z:Int}{rv:Value}(h:w.heap[bx]? = some (.cells #[.bool f,.int .i64 z,rv] 54 (0,0))):w.cell? ⟨bx,0,none⟩=some (.bool f)/\w.cell? ⟨bx,1,none⟩=some (.int .i64 z)/\w.cell? ⟨bx,2,none⟩=some rv:=by
 refine⟨?_,?_,?_⟩<;>simp[World.cell?,h]
theorem cmd53_any:CmdOk 53 HasN bringF:=by
 intro w base mb M X c dv h hM hbase hfr hC hp;obtain⟨da,dn,dc,rfl⟩:=slB_shape hC.d.slB;obtain⟨x,hx,hxn,hfx⟩:=has_x h hC hp;have hok:=h.a.ok x hx;obtain⟨w2,hw2,P⟩:=pro_of w c (.slice da dn dc);have f1:=P.c1;have f6:∀ w',Below w2.heap.size w2 w'->w'.cell? ⟨w.heap.size,6,none⟩=some (.slice da dn dc):=fun w' hB=>P.cb 6 _ rfl w' (P.wd _ hB);have i0:=P.i0 h hx;have i1:=P.i1 h hx;have i2:=P.i2 h hx;have i3:=P.i3 h hx;obtain⟨fr,hfe⟩:∃ fr,fr=decide (aboveN M.all c.name=0):=⟨_,rfl⟩
 have HT:=hid (turned_any (P.mo h w2 brf).mod0 (P.mo h w2 brf).a (by have:=hM.le;omega) hx);rw[hxn,<-hfe] at HT;have hab:aboveN M.all c.name=0↔fr=true:=by rw[hfe];simp
 have HAB:=hid hab;have hcl6:=hok.cl;obtain⟨W,hW⟩:∃ W,W=2^x.i.cl:=⟨_,rfl⟩
 have hmin:min x.i.cl 64=x.i.cl:=Nat.min_eq_left (by omega);have hWl:W<=64:=by rw[hW];have:=Nat.pow_le_pow_right (n:=2) (by omega) hcl6;omega
 have hW0:0<W:=by rw[hW];exact Nat.two_pow_pos _
 have hW1:IntKind.i64.wrap ((1:Int)*2^min x.i.cl 64)=(W:Int):=by
  rw[hmin,show((1:Int)*2^x.i.cl)=((2^x.i.cl:Nat):Int) by push_cast;omega,<-hW,IntWalk.i64_in _ (by omega)]
 have hW2:IntKind.i64.wrap ((2:Int)^min x.i.cl 64)=(W:Int):=by rw[<-hW1,Int.one_mul]
 have hsz:=hok.size;have hd8:dep M.all 8 x.i.back:=by
  obtain⟨e,h1,h2,_⟩:=dep_min hfx (hM.dp c.name);exact dep_le h2 (by omega)
 have HSH:=hid (fun w' (hB:Below w2.heap.size w2 w') (N:Nat) (hN:N<=4096)=>sho_all 8 w' base mb X.am M.all X.xs x.i x.ib base x.x.om x.i.size _ x.i.own x.x.ol 0 N (P.mo h w' (P.wd _ hB)).mod0 (P.mo h w' (P.wd _ hB)).a ((P.mo h w' (P.wd _ hB)).a.i x hx).ic ((P.mo h w' (P.wd _ hB)).a.i x hx).own hok.own hok.cl hok.nb hd8 hok.size (by omega) hN);have HDT:=hid (fun w' (hB:Below w2.heap.size w2 w')=>(hC.d.slB.below (P.bel (P.wd _ hB)) nlr).mono (P.bel (P.wd _ hB)).size);have hdl:c.data.length<=1000000:=by have:=hC.dl;omega
 have HWW:=jd7 hW hmin hWl hW0 hW1 hW2 hsz;have HW:=hid hw2;have HP:=hid P;have HM:=hid h;have HK:=jd5 hM hbase hfr hC hp;have HX:=jd4 hx hxn hfx hok;have ef1:=f1 w2 brf;have ef6:=f6 w2 brf;have ei0:=i0 w2 brf;have ei1:=i1 w2 brf;have ei2:=i2 w2 brf;have ei3:=i3 w2 brf;clear hw2 P h hM hfr hC hp hxn hfx hok hfe hab hcl6 hmin hsz hd8 hW1 hW2 hWl hW0 hW;go_enter func53,ntmps53
 go_upto_region 1 with(fail)
 rw[<-HW.out];cases fr
 ·have HA:=hid (show aboveN M.all c.name≠0 from fun e=>by have:=HAB.out.1 e;cases this);go_upto_region 3 with(go_at_call 80;refine HT.out.mono ?_;rintro e w4 ⟨rfl,hb4⟩)
  have hbZ:=hb4
  go_wp2_with (go_at_call 21;refine(failed_any 14 _).mono ?_;rintro e w9 ⟨rfl,hb9⟩;obtain⟨x0,x1,x2,x3,x4,x5,xz⟩:=zcells (HP.out.z (hbZ.trans (hb9.mono hbZ.size))))
  obtain⟨W,hW,⟨y0,y1,y2,y3,y4,y5⟩,r1,r2,r3⟩:=end_fail HP.out HM.out (hbZ.trans (hb9.mono hbZ.size)) 14;have hF:bringF M c=(M,failR 14,0):=by
   unfold bringF;rw[HX.out.2.2.1];simp only;rw[if_pos HA.out]
  rw[hF];clear x0 x1 x2 x3 x4 x5 xz hF;change bodyPost _ _ _ _ _ (st6 w9 (w.heap.size+1) (.int .i64 14) nilS nilS nilS (.int .i64 0) (.int .i64 0));rw[<-hW];exact bodyPost_ret (v:=failV 14) (by simp[results,results53,go_sem,y0,y1,y2,y3,y4,y5]) rfl ⟨_,X,rfl,r1,r2,rfl,nlr,rfl,r3⟩
 ·have HA:=hid (show ¬ aboveN M.all c.name≠0 from fun e=>e (HAB.out.2 rfl));go_upto_region 4 with(go_at_call 80;refine HT.out.mono ?_;rintro e w4 ⟨rfl,hb4⟩)
  have g6d:=f6 w4 hb4;by_cases hge:(getB c.data).2=0
  ·have HG:=hid (get_ok (HDT.out w4 hb4) hdl hge);have HGE:=hid hge;obtain⟨Sm,hSm⟩:∃ q,q=(getB c.data).1:=⟨_,rfl⟩
   rw[<-hSm] at HG;have HSm:=hid hSm;clear hge hSm;go_upto_region 5 with(go_at_call 100;refine HG.out.mono ?_;rintro e w5 ⟨rv,ps,rfl,hri,hps,hor,hod,hb5⟩;obtain⟨ra,rn,rc,rfl⟩:=ownG_sh hor)
   obtain⟨w6,hw6⟩:∃ z,z=w5.alloc (.cells #[.bool Sm.full,.int .i64 Sm.size,.slice ra rn rc] 54):=⟨_,rfl⟩
   rw[<-hw6];obtain⟨bx,hbx⟩:∃ q,q=w5.heap.size:=⟨_,rfl⟩
   have hb56:Below w5.heap.size w5 w6:=by rw[hw6];exact brf.alloc nlr _
   have hb46:Below w4.heap.size w4 w6:=hb5.trans (hb56.mono hb5.size);have hb6:Below w2.heap.size w2 w6:=hb4.trans (hb46.mono hb4.size);have q6:w6.heap[bx]? = some (.cells #[.bool Sm.full,.int .i64 Sm.size,.slice ra rn rc] 54 (0,0)):=by rw[hw6,hbx];exact alloc_new w5 _
   rw[<-hbx];obtain⟨Z,hZ⟩:∃ Z:Nat,Sm.size=(Z:Int):=⟨Sm.size.toNat,by have:=(right_mem hri).1;omega⟩
   have hZl:Z<=4096:=by have:=(right_mem hri).2.1;omega
   have hor6:=hor.below hb56 nlr;have hod6:∀ y∈ps,OwnB w6 w4.heap.size 5 y.2 y.1.data:=fun y hy=>(hod y hy).below hb56 (fun q hq=>(hod y hy).lt q hq);have HR:=jd8 hri hps hor6 hod6 q6 hb46 hb6 hZ;rw[hZ] at q6;obtain⟨v0,v1,v2⟩:=cells54 q6;have k0:=i0 w6 hb6;have k2:=i2 w6 hb6;clear hw6 hbx hb56 q6 hri hps hor hod hor6 hod6 hb46 hb5 g6d hZ;obtain⟨hW,hmin,hWl,hW0,hW1,hW2,hsz⟩:=HWW.out;obtain⟨A,hA⟩:∃ A,A=Z+W:=⟨_,rfl⟩
   obtain⟨A1,hA1⟩:∃ q,q=A-1:=⟨_,rfl⟩
   obtain⟨Q,hQ⟩:∃ q,q=A1/W:=⟨_,rfl⟩
   obtain⟨N,hN⟩:∃ q,q=Q*W:=⟨_,rfl⟩
   have hQl:Q<=8192:=by rw[hQ];exact Nat.le_trans (Nat.div_le_self _ _) (by omega)
   have hNl:N<=8192:=by rw[hN,hQ];exact Nat.le_trans (Nat.div_mul_le_self _ _) (by omega)
   have hup:N=upTo Z x.i.cl:=by unfold upTo;rw[hN,hQ,hA1,hA,<-hW]
   have g1:IntKind.i64.wrap ((Z:Int)+(W:Int))=(A:Int):=by rw[IntWalk.i64_in _ (by omega)];omega
   have g2:IntKind.i64.wrap ((A:Int)-1)=(A1:Int):=by rw[IntWalk.i64_in _ (by omega)];omega
   have g3:(A1:Int).tdiv (W:Int)=(Q:Int):=by rw[hQ];exact Int.ofNat_tdiv _ _
   have g4:IntKind.i64.wrap (Q:Int)=(Q:Int):=IntWalk.i64_in _ (by omega);have g5:IntKind.i64.wrap ((Q:Int)*(W:Int))=(N:Int):=by rw[show((Q:Int)*(W:Int))=((Q*W:Nat):Int) by push_cast;rfl,<-hN,IntWalk.i64_in _ (by omega)]
   have g6:¬ (W:Int)=0:=by omega
   have g7:((W:Int)==0)=false:=by simpa using g6
   have HSUM:=jd5 hup hQ hA1 hA hN;clear hup hQ hA1 hA hN hsz hmin hW;by_cases hbk:x.i.back=[]
   ·have eb:(x.i.back==[])=true:=by simpa using hbk
    have HBK:=hid hbk;clear hbk;by_cases hN4:4096<N
    ·have eN:(4096:Int)<(N:Int):=by omega
     go_upto_region 12 with(fail)
     have hbZ:=hb6
     go_wp2_with (go_at_call 21;refine(failed_any 6 _).mono ?_;rintro e w9 ⟨rfl,hb9⟩;obtain⟨x0,x1,x2,x3,x4,x5,xz⟩:=zcells (HP.out.z (hbZ.trans (hb9.mono hbZ.size))))
     obtain⟨W,hW,⟨y0,y1,y2,y3,y4,y5⟩,r1,r2,r3⟩:=end_fail HP.out HM.out (hbZ.trans (hb9.mono hbZ.size)) 6;have hF:bringF M c=(M,failR 6,0):=by
      unfold bringF;rw[HX.out.2.2.1];simp only;rw[if_neg HA.out,if_neg (fun h=>h HGE.out),if_neg (fun h=>h HBK.out),<-HSm.out,HR.out.2.2.2.2.2.2.2,Int.toNat_natCast,<-HSUM.out.1,if_pos hN4]
     rw[hF];clear x0 x1 x2 x3 x4 x5 xz hF;change bodyPost _ _ _ _ _ (st6 w9 (w.heap.size+1) (.int .i64 6) nilS nilS nilS (.int .i64 0) (.int .i64 0));rw[<-hW];exact bodyPost_ret (v:=failV 6) (by simp[results,results53,go_sem,y0,y1,y2,y3,y4,y5]) rfl ⟨_,X,rfl,r1,r2,rfl,nlr,rfl,r3⟩
    ·have eN:¬ (4096:Int)<(N:Int):=by omega
     go_upto_region 13 with(fail)
     obtain⟨mx,hmx⟩:∃ q,q=max x.i.size N:=⟨_,rfl⟩
     have hN5:N<=4096:=by omega
     have hmx4:mx<=4096:=by rw[hmx];have:=HWW.out.2.2.2.2.2.2;omega
     have hmx1:(if (x.i.size:Int)<(N:Int) then(N:Int) else(x.i.size:Int))=(mx:Int):=by rw[hmx];split<;>omega
     have hmx2:max (x.i.size:Int) (N:Int)=(mx:Int):=by rw[hmx];omega
     obtain⟨WS,hWS⟩:∃ q,q=secs (secIn M.all 8 x.i x.i.size x.i.own) 0 mx:=⟨_,rfl⟩
     have HSQ:Hid (∀ w',Below w2.heap.size w2 w'->Calls prog 27 #[pt mb,pt x.ib,.int .i64 x.i.size,.map (some x.x.om),.int .i64 0,.int .i64 mx] w' fun e w''=>∃ v,e = .returned v/\FullB w'' w'.heap.size v WS/\Below w'.heap.size w' w''):=hid (fun w' hB=>by rw[hWS];exact HSH.out w' hB mx hmx4);have hWSl:WS.length=16*mx:=by rw[hWS];exact secs_len (fun s=>secIn_len (fun n i h=>⟨_,((HP.out.mo HM.out w2 (HP.out.wd _ brf)).a.oks n i h).own⟩) 8 x.i x.i.size x.i.own ⟨_,HX.out.2.2.2.own⟩ s) mx 0
     have HMX:=jd3 hmx hWS hWSl;have hB0:=hb6.drew;have hNmx:N<=mx:=by rw[hmx];omega
     clear hmx hWS hWSl hmx1 k0 k2 v0 v1 v2 g1 g2 g3 g4 g5 g6 g7
     go_region_held (fun w'=>Below w2.heap.size w2 w') (first|with_reducible exact hB0|with_reducible assumption|with_reducible exact Below.drew (by assumption)) (first
      | (go_at_call 27;refine(HSQ.out _ (by assumption)).mono ?_;rintro e w8 ⟨v8,rfl,hf8,hb8⟩;have hb68:Below w6.heap.size w6 w8:=brf.drew.trans hb8;have hb28:Below w2.heap.size w2 w8:=hb6.trans (hb68.mono hb6.size);obtain⟨fa,fn,fc,rfl⟩:=ownB_sh hf8.o))
     have hN16:IntKind.i64.wrap ((N:Int)*16)=((N*16:Nat):Int):=by rw[IntWalk.i64_in _ (by omega)];omega
     go_upto_region 15 with(at_make;refine make_bytes _ rfl _ _ 23 5 rfl underlying23 info5 w8.heap.size _ _ _ _ (N*16) rfl rfl ?_ ?_ ?_ ?_ ?_)
     ·omega
     ·omega
     ·omega
     ·exact nlr
     intro v9 w9 ho9 hb9 hv9;subst hv9;obtain⟨gx,hgx⟩:∃ q,q=w8.heap.size:=⟨_,rfl⟩
     have q9:w9.heap[gx]? = some (.cells ((zer (16*N)).map u8).toArray 5 (0,0)):=by have h9:=OwnB.full ho9;rw[hgx];unfold zer;rw[Nat.mul_comm 16 N];exact h9
     rw[<-hgx];have HB9:=hid hb9;have HWO:=hid (hf8.o.any_base (base':=w6.heap.size) nlr);have HWx:=jd4 hf8.o.slB hgx hb68 hb28;have hL9:N*16=16*N:=Nat.mul_comm _ _;rw[hL9];have cx:∀ w',Below w8.heap.size w8 w'->w'.heap[bx]? = some (.cells #[.bool Sm.full,.int .i64 Z,.slice ra rn rc] 54 (0,0)):=fun w' hB=>((hb68.trans (hB.mono hb68.size)).block bx (blk_lt HR.out.2.2.2.2.1)).trans (by rw[HR.out.2.2.2.2.1,HR.out.2.2.2.2.2.2.2]);have HCX:=hid cx;obtain⟨fl,hfl⟩:∃ q,q=Sm.full:=⟨_,rfl⟩
     have v0:w9.cell? ⟨bx,0,none⟩=some (.bool fl):=by rw[hfl];exact(cells54 (cx w9 hb9)).1
     have HFL:=hid hfl;clear hfl;have v1:=(cells54 (cx w9 hb9)).2.1;clear ho9 hb9 cx hN16 hB0 hf8 hb8 hb68 hb28 hgx hL9
     go_upto_if 86 with(fail)
     go_cut [] from 84 (fun wx=>Hid (Below w8.heap.size w8 wx/\wx.heap[gx]? = some (.cells ((will0 Sm N WS).map u8).toArray 5 (0,0))))
     case first =>
      cases fl
      ·have hZ16:IntKind.i64.wrap ((Z:Int)*16)=((Z*16:Nat):Int):=by rw[IntWalk.i64_in _ (by omega)];omega
       have hZN:Z<=N:=by rw[HSUM.out.1];exact upTo_le _ _
       have hsto:∀ w' (k:IntKind),(Instr.slice 23 (.slice (some ⟨gx,0,none⟩) (16*N) (16*N)) none (some (.int k ((Z*16:Nat):Int))) none).run prog w' = .ok (.slice (some ⟨gx,0,none⟩) (Z*16) (16*N)) w':=fun w' k=>slice_to gx (16*N) (Z*16) (by omega) w' k;have HSL9:Hid (SlB w9 w8.heap.size (.slice fa fn fc) WS):=hid (HWx.out.1.below HB9.out nlr);have HL9:Hid (Z*16<=WS.length/\0+Z*16<=(zer (16*N)).length):=hid ⟨by rw[HMX.out.2.2];omega,by rw[zer_len];omega⟩;obtain⟨w10,hrun10,hg10,hk10,hb10⟩:=run_copy_c (P:=prog) w9 23 23 3 5 underlying23 size5 gx 0 (Z*16) (16*N) (.slice fa fn fc) WS (zer (16*N)) w8.heap.size 5 HSL9.out q9 HL9.out.1 HL9.out.2;have HG10:=jd2 hg10 (hb10 _ _ HB9.out (by rw[HWx.out.2.1];exact nlr));clear hg10 hk10 hb10
       go_wp2_with fail
       go_meet
       case rel =>
        refine hid ⟨HG10.out.2,?_⟩;rw[HG10.out.1];have e:splice (zer (16*N)) 0 (WS.take (Z*16))=will0 Sm N WS:=by
         unfold will0 splice;have h1:(WS.take (Z*16)).length=Z*16:=by rw[List.length_take];have:=HL9.out.1;omega
         rw[<-HFL.out,if_neg (by simp),HR.out.2.2.2.2.2.2.2,Int.toNat_natCast,h1,List.take_zero,List.nil_append,zer_drop,Nat.mul_comm Z 16,Nat.mul_sub,Nat.zero_add]
        rw[e]
      ·go_wp2_with fail
       go_meet
       case rel =>
        refine hid ⟨HB9.out,?_⟩;rw[q9];have e:zer (16*N)=will0 Sm N WS:=by unfold will0;rw[<-HFL.out,if_pos rfl]
        rw[e]
     case rest =>
      obtain⟨wL,hwL⟩:∃ z,z=wc:=⟨_,rfl⟩
      subst hwL;have u2:=(cells54 (HCX.out wL hcut.out.1)).2.2;obtain⟨pn,hpn⟩:∃ q,q=ps.length:=⟨_,rfl⟩
      have hlenR:∀ w',(Builtin.len_ #[52] 3 #[.slice ra rn rc]).run prog w' = .ok (.int .i64 pn) w':=fun w'=>by
       have h9:=HR.out.2.2.1.slG.len (P:=prog) (t:=52) (ty:=3) underlying52 w';rw[List.length_map,<-hpn] at h9;exact h9
      have HPN:=hid hpn;have hpl:pn<=4096:=by have:=(right_mem HR.out.1).2.2.1;rw[<-HR.out.2.1,List.length_map] at this;omega
      have HZW:Hid (Z<=N/\16*Z<=WS.length/\Sm.size.toNat=Z):=hid ⟨by rw[HSUM.out.1];exact upTo_le _ _,by rw[HMX.out.2.2];exact(fun(h:Z<=N)=>by omega) (by rw[HSUM.out.1];exact upTo_le _ _),by rw[HR.out.2.2.2.2.2.2.2,Int.toNat_natCast]⟩;have HWL:=hid (fun j=>willB_len HR.out.1 HZW.out.2.2 HZW.out.1 HZW.out.2.1 j);have HC0:=hid hcut.out;clear v0 v1 q9 hpn hcut
      go_wp2_with fail
      clear u2
      go_loopw [97] (fun s97 wr=>∃ j:Nat,s97 = .int .i64 j/\j<=pn/\Hid (Below w8.heap.size w8 wr/\wr.heap[gx]? = some (.cells ((willB Sm N WS j).map u8).toArray 5 (0,0)))) (fun s97 _=>pn-(intOf s97).toNat)
      case atStart=>exact⟨0,rfl,Nat.zero_le _,hid ⟨HC0.out.1,HC0.out.2⟩⟩
      case round =>
       obtain⟨j,rfl,hj,hRj⟩:=hrel;obtain⟨wJ,hwJ⟩:∃ q,q=wr:=⟨_,rfl⟩
       subst hwJ;by_cases hltj:j<pn
       ·have hjp:j<ps.length:=by rw[<-HPN.out];exact hltj
        obtain⟨p,hp⟩:∃ p,p=ps[j]:=⟨_,rfl⟩
        have hpm:p∈ps:=by rw[hp];exact List.getElem_mem _
        obtain⟨bb,bo,hia,hrow⟩:=slG_addrs HR.out.2.2.1.slG (t:=52) underlying52 size98 j (by rw[List.length_map];exact hjp);rw[show(ps.map fun p=>[Value.int .i64 p.1.at_,p.2]).getD j []=[.int .i64 p.1.at_,p.2] by rw[List.getD_eq_getElem?_getD,List.getElem?_map,List.getElem?_eq_getElem hjp,hp];rfl] at hrow;obtain⟨aN,haN,han,hdl2,hn1⟩:=right_rec HR.out.1 (r:=p.1) (by rw[<-HR.out.2.1];exact List.mem_map.2 ⟨p,hpm,rfl⟩);rw[HZW.out.2.2] at han;have hpo:=HR.out.2.2.2.1 p hpm;obtain⟨pa,pl,pc2,hpv⟩:=ownB_sh hpo;have hb6J:Below w6.heap.size w6 wJ:=HWx.out.2.2.1.trans (hRj.out.1.mono HWx.out.2.2.1.size);have d0:wJ.cell? ⟨bb,bo,none⟩=some (.int .i64 aN):=by have:=hrow wJ hb6J 0 _ rfl;rw[haN] at this;simpa using this
        have d1:wJ.cell? ⟨bb,bo+1,none⟩=some (.slice pa pl pc2):=hrow wJ hb6J 1 _ (by simp[hpv]);obtain⟨PD,hPD⟩:∃ q,q=p.1.data:=⟨_,rfl⟩
        have hpoJ:SlB wJ wJ.heap.size (.slice pa pl pc2) PD:=by rw[<-hpv,hPD];exact((hpo.below hb6J (fun q hq=>hpo.lt q hq)).slB)
        have hzn:=HZW.out.1;have hlt16:aN*16<16*N:=by omega
        have hsf:=slice_from gx (16*N) (aN*16) hlt16;have ha16:IntKind.i64.wrap ((aN:Int)*16)=((aN*16:Nat):Int):=by rw[IntWalk.i64_in _ (by omega)];omega
        have hwl:=HWL.out j;have HHL:Hid (PD.length<=16*N-aN*16/\aN*16+PD.length<=(willB Sm N WS j).length):=hid ⟨by rw[hPD];omega,by rw[hPD,hwl];omega⟩;have HNX:Hid (splice (willB Sm N WS j) (aN*16) PD=willB Sm N WS (j+1)):=hid (by
         rw[willB_succ (r:=p.1) (by rw[<-HR.out.2.1,List.getElem?_map,List.getElem?_eq_getElem hjp,hp];rfl)];unfold layR;rw[hPD,haN,Int.toNat_natCast,Nat.mul_comm aN 16])
        clear hjp hp hpm hrow haN han hdl2 hn1 hpo hpv hb6J hPD hzn hlt16 hwl;go_upto_region 20 with(fail)
        obtain⟨wA,hwA⟩:∃ z,z=wJ.alloc (.cells #[.int .i64 aN,.slice pa pl pc2] 98):=⟨_,rfl⟩
        rw[<-hwA];have hbA:Below wJ.heap.size wJ wA:=by rw[hwA];exact brf.alloc nlr _
        have hqA:wA.heap[wJ.heap.size]? = some (.cells #[.int .i64 aN,.slice pa pl pc2] 98 (0,0)):=by rw[hwA];exact alloc_new wJ _
        have e0:wA.cell? ⟨wJ.heap.size,0,none⟩=some (.int .i64 aN):=by simp[World.cell?,hqA]
        have e1:wA.cell? ⟨wJ.heap.size,1,none⟩=some (.slice pa pl pc2):=by simp[World.cell?,hqA]
        have HE1:Hid (∀ Z:World,(Z=wA\/Z=wA.drew)->SlB Z wJ.heap.size (.slice pa pl pc2) PD/\Z.heap[gx]? = some (.cells ((willB Sm N WS j).map u8).toArray 5 (0,0))):=hid fun Z hZ=>by
         have h9:=(hbA.block gx (blk_lt hRj.out.2)).trans hRj.out.2;rcases hZ with rfl|rfl
         ·exact⟨hpoJ.below hbA nlr,h9⟩
         ·exact⟨hpoJ.below hbA.drew nlr,h9⟩
        obtain⟨LW,hLW⟩:∃ q,q=16*N-aN*16:=⟨_,rfl⟩
        rw[<-hLW] at hsf HHL;have HBA:=hid hbA
        push_cast at hsf ha16
        clear hwA hqA hbA d0 d1 hpoJ hia hLW
        go_region_law (first
         | (refine step_copy_b (by rfl) (.tmp 105) (.tmp 107) 23 23 (by rfl) 5 underlying23 size5 gx (aN*16) LW LW (.slice pa pl pc2) PD (willB Sm N WS j) wJ.heap.size 5 (by rfl) (by rfl) (HE1.out _ (by first|exact Or.inl rfl|exact Or.inr rfl)).1 (HE1.out _ (by first|exact Or.inl rfl|exact Or.inr rfl)).2 HHL.out.1 HHL.out.2 ?_;intro w7 hg7 hk7 hb7))
        all_goals
         have hb8A:Below w8.heap.size w8 wA:=hRj.out.1.trans (HBA.out.mono hRj.out.1.size);have HB7:=jd2 (hb7 _ _ hb8A.drew (by rw[HWx.out.2.1];exact nlr)) hg7.out;clear hg7 hk7 hb7 hb8A
         go_wp2_with fail
         go_roundw
         case measure=>simp only[intOf];omega
         case rel=>exact⟨j+1,by go_num,by omega,hid ⟨HB7.out.1,by rw[HB7.out.2,HNX.out]⟩⟩
       ·obtain rfl:j=pn:=by omega
        obtain⟨WL,hWL⟩:∃ q,q=willB Sm N WS j:=⟨_,rfl⟩
        have hWLl:WL.length=16*N:=by rw[hWL];exact HWL.out j
        have hbE:Below w2.heap.size w2 wJ:=HWx.out.2.2.2.trans (hRj.out.1.mono HWx.out.2.2.2.size);have hMOJ:=HP.out.mo HM.out wJ (HP.out.wd _ hbE);have hIIJ:=hMOJ.a.i x HX.out.1;have hfn:=II.fp_nodup hMOJ HX.out.1;have hqW:wJ.heap[gx]? = some (.cells (WL.map u8).toArray 5 (0,0)):=by rw[hWL];exact hRj.out.2
        have hgx2:w2.heap.size<=gx:=by rw[HWx.out.2.1];exact HWx.out.2.2.2.size
        have hIIlt:x.ib<w2.heap.size/\x.x.om<w2.heap.size:=by
         have h9:=HP.out.mo HM.out w2 (HP.out.wd _ brf);exact⟨blk_lt (h9.a.i x HX.out.1).ck,(h9.a.i x HX.out.1).own.g.lt⟩
        have hoW:OwnB wJ w2.heap.size 5 (.slice (some ⟨gx,0,none⟩) (16*N) (16*N)) WL:=OwnB.ofFull hqW hWLl.symm hgx2 (by unfold maxLen;omega);have hoS:OwnB wJ w2.heap.size 5 (.slice fa fn fc) WS:=(HWO.out.below hRj.out.1 (fun q hq=>HWO.out.lt q hq)).any_base hb6.size;have j1:=i1 wJ hbE;obtain⟨iR,hiR⟩:∃ q,q=(if N=x.i.size then x.i else resizeI x.i N):=⟨_,rfl⟩
        have HIR:=hid hiR;have HBR:Hid (brung M.all x.i Sm=brF (16*W) WS WL iR Q):=hid (by
         have hup:=HSUM.out.1;have hQ':upTo Z x.i.cl/2^x.i.cl=Q:=by rw[<-hup,HSUM.out.2.2.2.2,HWW.out.1];exact Nat.mul_div_cancel _ (Nat.two_pow_pos _)
         unfold brung;rw[HZW.out.2.2,hQ',<-hup,<-HMX.out.1,<-HMX.out.2.1,<-HWW.out.1,hiR,hWL]
         congr 1
         rw[HPN.out,<-HR.out.2.1,List.length_map])
        have HE:=jd8 hMOJ hIIJ hfn hoW hoS hbE hIIlt hWLl;have hRZ:=resize_any hIIJ hfn HX.out.2.2.2 (Nat.le_trans hbase (HP.out.bel (HP.out.wd _ hbE)).size) N (by omega);have HRZ:=hid hRZ;clear hWL hWLl hMOJ hIIJ hfn hqW hIIlt hoW hoS hRZ hiR
        go_upto_if 115 with(fail)
        go_cut [] from 110 (fun wx=>Hid (∃ x1,II wx base x.ib iR x1/\x1.om=x.x.om/\x1.ss=x.x.ss/\x1.sv=x.x.sv/\Kept wJ wx (fun b=>b≠x.ib/\b≠x.x.om)))
        case first =>
         by_cases hNz:N=x.i.size
         ·have eNz:((N:Int)==(x.i.size:Int))=true:=by simpa using(show(N:Int)=(x.i.size:Int) by omega)
          have HNZ:=hid hNz;clear hNz
          go_wp2_with fail
          go_meet
          case rel=>exact hid ⟨x.x,by rw[HIR.out,if_pos HNZ.out];exact HE.out.2.1,rfl,rfl,rfl,Kept.refl _ _⟩
         ·have eNz:((N:Int)==(x.i.size:Int))=false:=by simpa using(show ¬ (N:Int)=(x.i.size:Int) by omega)
          have HNZ:=hid hNz;clear hNz
          go_wp2_with (go_at_call 83;refine HRZ.out.mono ?_;rintro e w12 ⟨rfl,x12,hII12,ho12,hs12,hv12,hk12⟩)
          have HRR:=jd5 hII12 ho12 hs12 hv12 hk12;clear hII12 ho12 hs12 hv12 hk12
          go_meet
          case rel=>exact hid ⟨x12,by rw[HIR.out,if_neg HNZ.out];exact HRR.out.1,HRR.out.2.1,HRR.out.2.2.1,HRR.out.2.2.2.1,HRR.out.2.2.2.2⟩
        case rest =>
         obtain⟨wP,hwP⟩:∃ q,q=wc:=⟨_,rfl⟩
         subst hwP;obtain⟨x1,hII1,ho1,hs1,hv1,hk1⟩:=hcut.out;have hcl1:iR.cl=x.i.cl:=by rw[HIR.out];split<;>rfl
         have hsz1:iR.size=N:=by
          rw[HIR.out];split
          ·rename_i h9;exact h9.symm
          ·rfl
         have hok1:IOk iR:=by
          rw[HIR.out];split
          ·exact HX.out.2.2.2
          ·exact resizeI_ok HX.out.2.2.2 (by omega) (by rw[HSUM.out.1];exact upTo_mod _ _)
         have m0:wP.cell? ⟨x.ib,0,none⟩=some (.int .i64 x.i.cl):=by rw[<-hcl1];exact hII1.cells.1
         obtain⟨n16,h16⟩:∃ q,q=16*W:=⟨_,rfl⟩
         have hs16:IntKind.i64.wrap ((16:Int)*2^min x.i.cl 64)=(n16:Int):=by
          rw[h16,HWW.out.2.1,show((16:Int)*2^x.i.cl)=((16*2^x.i.cl:Nat):Int) by push_cast;rfl,<-HWW.out.1,IntWalk.i64_in _ (by have:=HWW.out.2.2.1;omega)]
         have hshr:((N:Int)/2^min x.i.cl 64)=(Q:Int):=by
          rw[HWW.out.2.1,HSUM.out.2.2.2.2,show((2:Int)^x.i.cl)=((W:Nat):Int) by rw[HWW.out.1];push_cast;rfl]
          push_cast
          exact Int.mul_ediv_cancel _ (by have:=HWW.out.2.2.2.1;omega)
         have hkk:∀ {w':World} {v:Value} {l:Bs},OwnB wJ w2.heap.size 5 v l->Kept wJ w' (fun b=>b≠x.ib/\b≠x.x.om)->OwnB w' w2.heap.size 5 v l:=fun{w' v l} ho hk=>ho.kept hk fun q hq=>by
          have h9:=(World.ownsRow.lt ho q hq).1;have:=HE.out.2.2.2.2.2.2.1;exact⟨by omega,by omega⟩
         have H1:=jd8 hcl1 hsz1 hok1 hII1 ho1 hs1 hv1 hk1;have HKK:=hid (fun w' (hk:Kept wJ w' (fun b=>b≠x.ib/\b≠x.x.om))=>And.intro (hkk HE.out.2.2.2.1 hk) (hkk HE.out.2.2.2.2.1 hk));have H16:=hid h16;have hn16:n16<=1024:=by rw[h16];have:=HWW.out.2.2.1;omega
         clear hcl1 hsz1 hok1 hII1 ho1 hs1 hv1 hk1 hkk hcut h16
         go_wp2_with fail
         clear m0 hs16 hshr
         go_loopw [130] (fun s130 wr=>∃ k:Nat,s130 = .int .i64 k/\k<=Q/\Hid (∃ y,II wr base x.ib (brF (16*W) WS WL iR k) y/\IOk (brF (16*W) WS WL iR k)/\y.om=x.x.om/\y.ss=x.x.ss/\y.sv=x.x.sv/\Kept wJ wr (fun b=>b≠x.ib/\b≠x.x.om))) (fun s130 _=>Q-(intOf s130).toNat)
         case atStart=>exact⟨0,rfl,Nat.zero_le _,hid ⟨x1,H1.out.2.2.2.1,H1.out.2.2.1,H1.out.2.2.2.2.1,H1.out.2.2.2.2.2.1,H1.out.2.2.2.2.2.2.1,H1.out.2.2.2.2.2.2.2⟩⟩
         case round =>
          obtain⟨k,rfl,hk,hRk⟩:=hrel;obtain⟨wK,hwK⟩:∃ q,q=wr:=⟨_,rfl⟩
          subst hwK;obtain⟨y,hIIy,hoky,hoy,hsy,hvy,hky⟩:=hRk.out;by_cases hltk:k<Q
          ·obtain⟨lo,hlo⟩:∃ q,q=k*n16:=⟨_,rfl⟩
           obtain⟨hh,hhi⟩:∃ q,q=(k+1)*n16:=⟨_,rfl⟩
           have hhl:hh=lo+n16:=by rw[hhi,hlo,Nat.succ_mul]
           have hQN:Q*n16=16*N:=by rw[H16.out,HSUM.out.2.2.2.2,Nat.mul_left_comm]
           have hhN:hh<=16*N:=by rw[<-hQN,hhi];exact Nat.mul_le_mul_right _ (by omega)
           have s1:IntKind.i64.wrap ((k:Int)*(n16:Int))=(lo:Int):=by rw[show((k:Int)*(n16:Int))=((k*n16:Nat):Int) by push_cast;rfl,<-hlo,IntWalk.i64_in _ (by omega)]
           have s3:IntKind.i64.wrap (((k:Int)+1)*(n16:Int))=(hh:Int):=by rw[show(((k:Int)+1)*(n16:Int))=(((k+1)*n16:Nat):Int) by push_cast;rfl,<-hhi,IntWalk.i64_in _ (by omega)]
           obtain⟨xv,hxs,hxr⟩:=(HKK.out wK hky).1.slB.part3 (P:=prog) underlying23 size5' lo hh (by omega) (by rw[HE.out.2.2.2.2.2.2.2];exact hhN);obtain⟨yv,hys,hyr⟩:=(HKK.out wK hky).2.slB.part (P:=prog) underlying23 size5' lo hh (by omega) (by rw[HMX.out.2.2];omega);rw[List.drop_take,show hh-lo=n16 by omega] at hxs hys;obtain⟨xa,xn,xc,rfl⟩:=slB_shape hxs;obtain⟨ya,yn,yc,rfl⟩:=slB_shape hys;obtain⟨XS,hXS⟩:∃ q,q=(WL.drop lo).take n16:=⟨_,rfl⟩
           obtain⟨YS,hYS⟩:∃ q,q=(WS.drop lo).take n16:=⟨_,rfl⟩
           rw[<-hXS] at hxs;rw[<-hYS] at hys;have hXl:XS.length=n16:=by rw[hXS,List.length_take,List.length_drop,HE.out.2.2.2.2.2.2.2];omega
           have HEQ:=hid (equal_any hxs hys);have HST:Hid (brF (16*W) WS WL iR (k+1)=if XS=YS then brF (16*W) WS WL iR k else putI (brF (16*W) WS WL iR k) k XS):=hid (by
            rw[brF_succ];unfold brI;rw[<-H16.out,<-hlo,<-hXS,<-hYS])
           have hcly:(brF (16*W) WS WL iR k).cl=x.i.cl:=(brF_cl _ _ _ _ k).1.trans H1.out.1;have hszy:(brF (16*W) WS WL iR k).size=N:=(brF_cl _ _ _ _ k).2.1.trans H1.out.2.1;have hkn:k<(brF (16*W) WS WL iR k).size/2^(brF (16*W) WS WL iR k).cl:=by
            rw[hszy,hcly,<-HWW.out.1,HSUM.out.2.2.2.2,Nat.mul_div_cancel _ HWW.out.2.2.2.1];exact hltk
           have hsm:y.om∉y.ss.map (·.m):=by rw[hoy,hsy];exact fp_sm HE.out.2.2.1
           have hbK:base<=wK.heap.size:=Nat.le_trans (Nat.le_trans hbase (HP.out.bel (HP.out.wd _ hbE)).size) hky.size;have holl:y.ol.length<=1000000:=Nat.le_trans (hIIy.own.len hoky.own) (by rw[hszy];exact Nat.le_trans (Nat.div_le_self _ _) (by omega));have hokn:=putI_ok hoky hkn (bs:=XS) (by rw[hXl,hcly,H16.out,HWW.out.1]);have HCL:=hid (fun w' (hB:Below wK.heap.size wK w')=>clone103 ((hxs.below hB nlr).mono hB.size) nlr (by omega));have HPU:=hid (fun w' (hB:Below wK.heap.size wK w') (v:Value) (hv:OwnB w' base 5 v XS)=>put_any (k:=k) (hIIy.below hB) (Nat.le_trans hbK hB.size) hsm (by omega) holl hv);have HY:=jd8 hIIy hoky hoy hsy hvy hky hokn hbK;clear hlo hhi hhl hQN hxs hys hXS hYS hXl hcly hszy hkn hsm hbK holl hokn hIIy hoky hoy hsy hvy hky;by_cases hxy:XS=YS
           ·have e9:decide (XS=YS)=true:=decide_eq_true hxy;have HXY:=hid hxy;have HE9:=hid e9;clear hxy e9
            go_wp2_with (go_at_call 101;refine HEQ.out.mono ?_;rintro e w13 ⟨rfl,q13,hq13⟩;have hb13:Below wK.heap.size wK w13:=(by rw[hq13];exact bel_drewN brf q13);clear hq13;rw[HE9.out])
            have HB13:=hid hb13
            go_roundw
            case measure=>simp only[intOf];omega
            case rel =>
             refine⟨k+1,by go_num,by omega,hid ⟨y,?_⟩⟩;rw[HST.out,if_pos HXY.out];exact⟨HY.out.1.below HB13.out,HY.out.2.1,HY.out.2.2.1,HY.out.2.2.2.1,HY.out.2.2.2.2.1,HY.out.2.2.2.2.2.1.trans (Kept.of_below (N:=fun b=>b≠x.ib/\b≠x.x.om) HB13.out fun b hb _=>hb)⟩
           ·have e9:decide (XS=YS)=false:=decide_eq_false hxy;have HXY:=hid hxy;have HE9:=hid e9;clear hxy e9
            go_wp2_with (first
             | (go_at_call 102;refine(HPU.out _ hb14 _ (ho14.any_base hb0K)).mono ?_;rintro e w15 ⟨rfl,y15,hII15,ho15,hs15,hv15,hk15⟩;have HQ15:=jd6 hII15 ho15 hs15 hv15 hk15 hb14;clear hII15 ho15 hs15 hv15 hk15 ho14 hb14)
             | (go_at_call 103;refine(HCL.out _ hb13).mono ?_;rintro e w14 ⟨v14,rfl,ho14,hb14c⟩;have hb14:Below wK.heap.size wK w14:=hb13.trans (hb14c.mono hb13.size);have hb0K:=Nat.le_trans HY.out.2.2.2.2.2.2.2 hb13.size;clear hb14c;obtain⟨za,zn,zc,rfl⟩:=ownB_sh ho14)
             | (go_at_call 101;refine HEQ.out.mono ?_;rintro e w13 ⟨rfl,q13,hq13⟩;have hb13:Below wK.heap.size wK w13:=(by rw[hq13];exact bel_drewN brf q13);clear hq13;rw[HE9.out]))
            go_roundw
            case measure=>simp only[intOf];omega
            case rel =>
             refine⟨k+1,by go_num,by omega,hid ⟨y15,?_⟩⟩;rw[HST.out,if_neg HXY.out];obtain⟨hII15,ho15,hs15,hv15,hk15,hb14⟩:=HQ15.out;exact⟨hII15,HY.out.2.2.2.2.2.2.1,ho15.trans HY.out.2.2.1,hs15.trans HY.out.2.2.2.1,hv15.trans HY.out.2.2.2.2.1,(HY.out.2.2.2.2.2.1.trans (Kept.of_below (N:=fun b=>b≠x.ib/\b≠x.x.om) hb14 fun b hb _=>hb)).trans (hk15.imp fun b hb=>by rw[HY.out.2.2.1];exact hb)⟩
          ·obtain rfl:k=Q:=by omega
           have h9:=HE.out.1.same HX.out.1 hky hIIy hoky hoy hsy hvy;have hst:=(Stp.of_below hbE (X.fp mb)).trans h9.2;have hF:bringF M c=({M with all:=setI M.all x.n (brF (16*W) WS WL iR k)},{},0):=by
            unfold bringF;rw[HX.out.2.2.1];simp only;rw[if_neg HA.out,if_neg (fun h=>h HGE.out),if_neg (fun h=>h HBK.out),<-HSm.out,HZW.out.2.2,<-HSUM.out.1,if_neg hN4,HBR.out,HX.out.2.1]
           have HF:=hid hF;have HE:=jd2 h9.1 hst;obtain⟨x0,x1,x2,x3,x4,x5,xz⟩:=zcells (HP.out.zs HM.out hst);clear h9 hst hF hIIy hoky hoy hsy hvy hky;obtain⟨W,hW,⟨y0,y1,y2,y3,y4,y5⟩,r1,r2,r3⟩:=end_ok HP.out HM.out HE.out.1 HE.out.2;have HWW:=hid hW;have HR:=jd3 r1 r2 r3;clear hW r1 r2 r3
           go_wp2_with fail
           change bodyPost _ _ _ _ _ (st6 wK (w.heap.size+1) (.int .i64 0) nilS nilS nilS (.int .i64 0) (.int .i64 0));rw[<-HWW.out,HF.out];clear x0 x1 x2 x3 x4 x5 xz;refine bodyPost_ret (v:=failV 0) (by simp[results,results53,go_sem,y0,y1,y2,y3,y4,y5]) rfl ?_
           first
            | exact⟨_,rfl,HR.out.1,_,HR.out.2.1,rfl,nlr,rfl,HR.out.2.2⟩
            | exact⟨_,_,rfl,HR.out.1,HR.out.2.1,rfl,nlr,rfl,HR.out.2.2⟩
   ·have eb:(x.i.back==[])=false:=by simpa using hbk
    have HBK:=hid hbk;clear hbk;go_upto_region 10 with(fail)
    have hbZ:=hb6
    go_wp2_with (go_at_call 21;refine(failed_any 12 _).mono ?_;rintro e w9 ⟨rfl,hb9⟩;obtain⟨x0,x1,x2,x3,x4,x5,xz⟩:=zcells (HP.out.z (hbZ.trans (hb9.mono hbZ.size))))
    obtain⟨W,hW,⟨y0,y1,y2,y3,y4,y5⟩,r1,r2,r3⟩:=end_fail HP.out HM.out (hbZ.trans (hb9.mono hbZ.size)) 12;have hF:bringF M c=(M,failR 12,0):=by
     unfold bringF;rw[HX.out.2.2.1];simp only;rw[if_neg HA.out,if_neg (fun h=>h HGE.out),if_pos HBK.out]
    rw[hF];clear x0 x1 x2 x3 x4 x5 xz hF;change bodyPost _ _ _ _ _ (st6 w9 (w.heap.size+1) (.int .i64 12) nilS nilS nilS (.int .i64 0) (.int .i64 0));rw[<-hW];exact bodyPost_ret (v:=failV 12) (by simp[results,results53,go_sem,y0,y1,y2,y3,y4,y5]) rfl ⟨_,X,rfl,r1,r2,rfl,nlr,rfl,r3⟩
  ·have HG:=hid (get_err (HDT.out w4 hb4) hdl hge);obtain⟨pc,hpc⟩:∃ q,q=(getB c.data).2:=⟨_,rfl⟩
   rw[<-hpc] at HG hge;have HPC:=jd2 hpc hge;have epc:((pc:Int)==0)=false:=by simpa using(show ¬ (pc:Int)=0 by omega)
   clear hpc;go_upto_region 5 with(go_at_call 100;refine HG.out.mono ?_;rintro e w5 ⟨rfl,hb5⟩)
   obtain⟨w6,hw6⟩:∃ z,z=w5.alloc (.cells #[.bool false,.int .i64 0,.slice none 0 0] 54):=⟨_,rfl⟩
   rw[<-hw6];obtain⟨bx,hbx⟩:∃ q,q=w5.heap.size:=⟨_,rfl⟩
   have hb46:Below w4.heap.size w4 w6:=by rw[hw6];exact hb5.alloc hb5.size _
   have hb6:Below w2.heap.size w2 w6:=hb4.trans (hb46.mono hb4.size);have q6:w6.heap[bx]? = some (.cells #[.bool false,.int .i64 0,.slice none 0 0] 54 (0,0)):=by rw[hw6,hbx];exact alloc_new w5 _
   rw[<-hbx];obtain⟨Z,hZ⟩:∃ Z:Nat,(Z:Int)=0:=⟨0,rfl⟩
   have hZl:Z<=4096:=by omega
   rw[<-hZ] at q6;obtain⟨v0,v1,v2⟩:=cells54 q6;have k0:=i0 w6 hb6;clear hw6 hbx q6 hb46 hb5 g6d hZ;obtain⟨hW,hmin,hWl,hW0,hW1,hW2,hsz⟩:=HWW.out;obtain⟨A,hA⟩:∃ A,A=Z+W:=⟨_,rfl⟩
   obtain⟨A1,hA1⟩:∃ q,q=A-1:=⟨_,rfl⟩
   obtain⟨Q,hQ⟩:∃ q,q=A1/W:=⟨_,rfl⟩
   obtain⟨N,hN⟩:∃ q,q=Q*W:=⟨_,rfl⟩
   have hQl:Q<=8192:=by rw[hQ];exact Nat.le_trans (Nat.div_le_self _ _) (by omega)
   have hNl:N<=8192:=by rw[hN,hQ];exact Nat.le_trans (Nat.div_mul_le_self _ _) (by omega)
   have hup:N=upTo Z x.i.cl:=by unfold upTo;rw[hN,hQ,hA1,hA,<-hW]
   have g1:IntKind.i64.wrap ((Z:Int)+(W:Int))=(A:Int):=by rw[IntWalk.i64_in _ (by omega)];omega
   have g2:IntKind.i64.wrap ((A:Int)-1)=(A1:Int):=by rw[IntWalk.i64_in _ (by omega)];omega
   have g3:(A1:Int).tdiv (W:Int)=(Q:Int):=by rw[hQ];exact Int.ofNat_tdiv _ _
   have g4:IntKind.i64.wrap (Q:Int)=(Q:Int):=IntWalk.i64_in _ (by omega);have g5:IntKind.i64.wrap ((Q:Int)*(W:Int))=(N:Int):=by rw[show((Q:Int)*(W:Int))=((Q*W:Nat):Int) by push_cast;rfl,<-hN,IntWalk.i64_in _ (by omega)]
   have g6:¬ (W:Int)=0:=by omega
   have g7:((W:Int)==0)=false:=by simpa using g6
   have HSUM:=jd5 hup hQ hA1 hA hN;clear hup hQ hA1 hA hN hsz hmin hW;go_upto_region 8 with(fail)
   have hbZ:=hb6
   go_wp2_with (go_at_call 21;refine(failed_any (pc:Int) _).mono ?_;rintro e w9 ⟨rfl,hb9⟩;obtain⟨x0,x1,x2,x3,x4,x5,xz⟩:=zcells (HP.out.z (hbZ.trans (hb9.mono hbZ.size))))
   obtain⟨W,hW,⟨y0,y1,y2,y3,y4,y5⟩,r1,r2,r3⟩:=end_fail HP.out HM.out (hbZ.trans (hb9.mono hbZ.size)) (pc:Int);have hF:bringF M c=(M,failR (pc:Int),0):=by
    unfold bringF;rw[HX.out.2.2.1];simp only;rw[if_neg HA.out,<-HPC.out.1,if_pos HPC.out.2]
   rw[hF];clear x0 x1 x2 x3 x4 x5 xz hF;change bodyPost _ _ _ _ _ (st6 w9 (w.heap.size+1) (.int .i64 (pc:Int)) nilS nilS nilS (.int .i64 0) (.int .i64 0));rw[<-hW];exact bodyPost_ret (v:=failV (pc:Int)) (by simp[results,results53,go_sem,y0,y1,y2,y3,y4,y5]) rfl ⟨_,X,rfl,r1,r2,rfl,nlr,rfl,r3⟩
end Go.Proofs.YtgkabcaodnofnaaGreat
