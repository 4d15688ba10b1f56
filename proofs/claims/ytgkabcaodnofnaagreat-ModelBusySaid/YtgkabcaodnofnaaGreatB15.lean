import Derived.Test.YtgkabcaodnofnaaGreatB14
set_option linter.unusedSimpArgs false
set_option linter.unusedVariables false
set_option maxRecDepth 100000
set_option maxHeartbeats 1000000
open Go.Proofs.Tryz
namespace Go.Md
def readF (M:MM)(c:Cm):MM×Rp×Nat:=match fnd M.all c.name with
 | none=>(M,failR 4,0)
 | some i=>if withinI i.size c.a c.n then(M,{data:=secs (secIn M.all 8 i i.size i.own) c.a.toNat c.n.toNat},0) else(M,failR 6,0)
def writeF (M:MM)(c:Cm):MM×Rp×Nat:=match fnd M.all c.name with
 | none=>(M,failR 4,0)
 | some i=>if Go.Proofs.YtgkabcaodnofnaaGreat.aboveN M.all c.name≠0 then(M,failR 14,0) else if c.data.length%16≠0 then(M,failR 1,0)
  else if withinI i.size c.a (c.data.length/16:Nat) then({M with all:=setI M.all c.name (writeI M.all 8 i c.a.toNat c.data)},{},0) else(M,failR 6,0)
end Go.Md
namespace Go.Proofs.YtgkabcaodnofnaaGreat
open Go.RowKit Go.Mx Go.Md
variable {w w':World}{base mb am:Nat}{S:IL}{xs:List XI}{M:MM}{X:MX}
theorem AM.len (h:AM w base am S xs):xs.length=S.length:=by have:=h.p.length_eq;simpa using this
theorem turned_any (hm:Mod0 w mb am)(hA:AM w base am S xs)(hl:S.length<=100){x:XI}(hx:x∈xs) :
  Calls prog 80 #[pt mb,str x.n] w fun e w'=>e = .returned (.tuple #[pt x.ib,.bool (decide (aboveN S x.n=0))])/\Below w.heap.size w w':=by
 have c0:∀ w',Below w.heap.size w w'->w'.cell? ⟨mb,0,none⟩=some (.map (some am)):=fun w' hB=>(hm.below hB).cell;have lk:∀ w',Below w.heap.size w w'->(Instr.lookup 57 (.map (some am)) (str x.n) false).run prog w' = .ok (pt x.ib) w':=fun w' hB=>(hA.below hB).atx hx;have HC:=hid (fun w' (hB:Below w.heap.size w w')=>above_any (hm.below hB) (hA.below hB) (by rw[hA.len];omega) x.n);have hab:aboveN S x.n<=100:=Nat.le_trans (List.length_filter_le _ _) hl;obtain⟨A,hAe⟩:∃ A,A=aboveN S x.n:=⟨_,rfl⟩
 rw[<-hAe] at HC hab ⊢;clear hm hA hAe;have hlen:∀ oa cc w',(Builtin.len_ #[31] 3 #[.slice oa A cc]).run prog w' = .ok (.int .i64 A) w':=fun oa cc w'=>len_sl underlying31 rfl w';have d0:=c0 w brf;cases hz:decide (A=0)
 ·have hz2:(((A:Nat):Int)==0)=false:=by simp at hz;simpa using hz
  clear hz;go_enter func80,ntmps80
  go_upto_region 1 with(fail)
  go_region_held (fun w'=>Below w.heap.size w w') (first|exact brf.drew|assumption|exact Below.drew (by assumption)) (first
   | (go_at_call 78;refine(HC.out _ (by assumption)).mono ?_;rintro e w5 ⟨oa,cc,rfl,hb5c⟩;have hb5:Below w.heap.size w w5:=Below.trans (by assumption) (hb5c.mono (Below.size (by assumption)))))
  all_goals (go_wp2_with fail;go_ret2)
  all_goals exact⟨by simp_all,hb5⟩
 ·have hz2:(((A:Nat):Int)==0)=true:=by simp at hz;simpa using hz
  clear hz;go_enter func80,ntmps80
  go_upto_region 1 with(fail)
  go_region_held (fun w'=>Below w.heap.size w w') (first|exact brf.drew|assumption|exact Below.drew (by assumption)) (first
   | (go_at_call 78;refine(HC.out _ (by assumption)).mono ?_;rintro e w5 ⟨oa,cc,rfl,hb5c⟩;have hb5:Below w.heap.size w w5:=Below.trans (by assumption) (hb5c.mono (Below.size (by assumption)))))
  all_goals (go_wp2_with fail;go_ret2)
  all_goals exact⟨by simp_all,hb5⟩
def HasN (M:MM)(c:Cm):Prop:=(fnd M.all c.name).isSome=true
theorem within_bounds {s:Nat}{a n:Int}(h:withinI s a n=true)(hs:s<=4096):a=(a.toNat:Int)/\n=(n.toNat:Int)/\a.toNat<=4096/\n.toNat<=4096/\a.toNat+n.toNat<=s:=by
 unfold withinI at h;simp only[Bool.and_eq_true,decide_eq_true_eq] at h;omega
def st6 (w:World)(rb:Nat)(v0 v1 v2 v3 v4 v5:Value):World:=(((((w.setCell ⟨rb,0,none⟩ v0).setCell ⟨rb,1,none⟩ v1).setCell ⟨rb,2,none⟩ v2).setCell ⟨rb,3,none⟩ v3).setCell ⟨rb,4,none⟩ v4).setCell ⟨rb,5,none⟩ v5
theorem st6_set (w:World)(rb:Nat)(v0 v1 v2 v3 v4 v5:Value):st6 w rb v0 v1 v2 v3 v4 v5=w.setCells rb 0 [v0,v1,v2,v3,v4,v5]:=rfl
theorem st6_kept (w:World)(rb:Nat)(v0 v1 v2 v3 v4 v5:Value):Kept w (st6 w rb v0 v1 v2 v3 v4 v5) (·≠rb):=by rw[st6_set];exact Kept.setCells _ _ _ _ (by simp)
theorem st6_cell {w:World}{rb:Nat}{C:Array Value}{t:TypeId}(v0 v1 v2 v3 v4 v5:Value)(h:w.heap[rb]? = some (.cells C t (0,0)))(hC:C.size=6):∀ j v,([v0,v1,v2,v3,v4,v5]:List Value)[j]? = some v->(st6 w rb v0 v1 v2 v3 v4 v5).cell? ⟨rb,j,none⟩=some v:=fun j v hv=>by
 obtain⟨cur9,hcur9,hcl9⟩:=heap_setCells_at [v0,v1,v2,v3,v4,v5] w rb 0 C t (0,0) h (by simp[hC]);rw[st6_set];simp only[World.cell?,hcur9];simp only[List.take_zero,List.nil_append] at hcl9;rw[<-Array.getElem?_toList,hcl9];simp only[Option.isSome_none,Bool.false_eq_true,if_false];rw[List.getElem?_append_left (by have:=(List.getElem?_eq_some_iff.1 hv).1;exact this)];exact hv
theorem below6 {w0 w:World}{rb:Nat}(h:Below rb w0 w)(v0 v1 v2 v3 v4 v5:Value):Below rb w0 ((((((w.setCell ⟨rb,0,none⟩ v0).setCell ⟨rb,1,none⟩ v1).setCell ⟨rb,2,none⟩ v2).setCell ⟨rb,3,none⟩ v3).setCell ⟨rb,4,none⟩ v4).setCell ⟨rb,5,none⟩ v5) :=
 Below.setCells (g:=rb) (o:=0) [v0,v1,v2,v3,v4,v5] h nlr
abbrev zrep:Array Value := #[.int .i64 0,.slice none 0 0,.slice none 0 0,.slice none 0 0,.int .i64 0,.int .i64 0]
theorem zcells {w:World}{rb:Nat}(h:w.heap[rb]? = some (.cells zrep 34 (0,0))):w.cell? ⟨rb,0,none⟩=some (.int .i64 0)/\w.cell? ⟨rb,1,none⟩=some (.slice none 0 0)/\w.cell? ⟨rb,2,none⟩=some (.slice none 0 0)/\w.cell? ⟨rb,3,none⟩=some (.slice none 0 0)/\w.cell? ⟨rb,4,none⟩=some (.int .i64 0)/\w.cell? ⟨rb,5,none⟩=some (.int .i64 0)/\∀ j,w.frozen? ⟨rb,j,none⟩=false:=by
 refine⟨?_,?_,?_,?_,?_,?_,fun j=>?_⟩<;>simp[World.cell?,World.frozen?,h]
theorem reply_same {w w1:World}{base mb:Nat}{M:MM}{X:MX}{rb:Nat}{v0 v1 v2 v3 v4 v5:Value}{p:Rp}(h:MO w base mb M X)(hb:Below w.heap.size w w1)(hq:w1.heap[rb]? = some (.cells zrep 34 (0,0)))(hrb:w.heap.size<=rb)(hr:RepOK w1 w.heap.size (.agg #[v0,v1,v2,v3,v4,v5]) p) :
  RepOK (st6 w1 rb v0 v1 v2 v3 v4 v5) w.heap.size (.agg #[v0,v1,v2,v3,v4,v5]) p/\MO (st6 w1 rb v0 v1 v2 v3 v4 v5) base mb M X/\Stp w (st6 w1 rb v0 v1 v2 v3 v4 v5) (X.fp mb) (X.fp mb):=by
 have hk:=st6_kept w1 rb v0 v1 v2 v3 v4 v5;refine⟨hr.kept hk fun b c t f h1 ht e=>?_,(h.below hb).kept hk (fun b h1 e=>?_) fun b c t f h1 ht e=>?_,(Stp.of_below hb _).over hk hrb⟩
 ·rw[e,hq] at h1;cases h1;rcases ht with h|h|h<;>cases h
 ·have:=h.lt b h1;omega
 ·rw[e,hq] at h1;cases h1;rcases ht with h|h|h<;>cases h
theorem read_any:CmdOk 38 HasN readF:=by
 intro w base mb M X c dv h hM hbase hfr hC hp;obtain⟨da,dn,dc,rfl⟩:=slB_shape hC.d.slB;obtain⟨x,hx,hxn,hfx⟩:∃ x∈X.xs,x.n=c.name/\fnd M.all c.name=some x.i:=by
  rcases h.a.at c.name (Nat.le_trans hC.nl (by unfold maxLen;omega)) with⟨h1,_⟩|⟨x,hx,hxn,h1,_⟩
  ·unfold HasN at hp;rw[h1] at hp;cases hp
  ·exact⟨x,hx,hxn,h1⟩
 have hok:=h.a.ok x hx;obtain⟨w1,hw1⟩:∃ z,z=w.alloc (.cells #[.int .i64 c.kind,str c.name,str c.tt,.int .i64 c.a,.int .i64 c.n,.int .i64 c.m,.slice da dn dc] 25):=⟨_,rfl⟩
 obtain⟨w2,hw2⟩:∃ z,z=w1.alloc (.cells #[.int .i64 0,.slice none 0 0,.slice none 0 0,.slice none 0 0,.int .i64 0,.int .i64 0] 34):=⟨_,rfl⟩
 have hb1:Below w.heap.size w w1:=by rw[hw1];exact brf.alloc nlr _
 have hs1:w1.heap.size=w.heap.size+1:=by rw[hw1];simp
 have hb2:Below w1.heap.size w1 w2:=by rw[hw2];exact brf.alloc nlr _
 have hs2:w2.heap.size=w.heap.size+2:=by rw[hw2];simp[hs1]
 have hb02:Below w.heap.size w w2:=hb1.trans (hb2.mono (by omega));have hq1:w2.heap[w.heap.size]? = some (.cells #[.int .i64 c.kind,str c.name,str c.tt,.int .i64 c.a,.int .i64 c.n,.int .i64 c.m,.slice da dn dc] 25 (0,0)):=(hb2.block _ (by omega)).trans (by rw[hw1];exact alloc_new w _);have hq2:w2.heap[w.heap.size+1]? = some (.cells #[.int .i64 0,.slice none 0 0,.slice none 0 0,.slice none 0 0,.int .i64 0,.int .i64 0] 34 (0,0)):=by rw[hw2,<-hs1];exact alloc_new w1 _
 have h2:=h.below hb02;have bel:∀ w',Below (w.heap.size+1) w2 w'->MO w' base mb M X:=fun w' hB=>h.below (hb02.trans (hB.mono (by omega)));have cb:∀ (j:Nat) v,(#[Value.int .i64 c.kind,str c.name,str c.tt,.int .i64 c.a,.int .i64 c.n,.int .i64 c.m,.slice da dn dc]:Array Value)[j]? = some v->∀ w',Below (w.heap.size+1) w2 w'->w'.cell? ⟨w.heap.size,j,none⟩=some v:=fun j v hv w' hB=>by
  rw[World.cell?_of_block (hB.block w.heap.size (by omega))];simp[World.cell?,hq1,hv]
 have f0:∀ w',Below (w.heap.size+1) w2 w'->w'.cell? ⟨mb,0,none⟩=some (.map (some X.am)):=fun w' hB=>(bel w' hB).cells.1;have f1:=cb 1 _ rfl;have f3:=cb 3 _ rfl;have f4:=cb 4 _ rfl;have lk:∀ w',Below (w.heap.size+1) w2 w'->(Instr.lookup 57 (.map (some X.am)) (str c.name) false).run prog w' = .ok (pt x.ib) w':=fun w' hB=>by rw[<-hxn];exact(bel w' hB).a.atx hx
 have i1:∀ w',Below (w.heap.size+1) w2 w'->w'.cell? ⟨x.ib,1,none⟩=some (.int .i64 x.i.size):=fun w' hB=>((bel w' hB).a.i x hx).cells.2.1;have i3:∀ w',Below (w.heap.size+1) w2 w'->w'.cell? ⟨x.ib,3,none⟩=some (.map (some x.x.om)):=fun w' hB=>((bel w' hB).a.i x hx).cells.2.2.2.1;have HW:=hid (fun w'=>within_any x.i.size c.a c.n (by omega) (by have:=hok.size;omega) w');have H:=jd9 h h2 hb02 hok hx hfx hq2 hs2 hM;have HE:=jd2 hw1 hw2;have hwb:∀ w',Below w2.heap.size w2 w'->Below (w.heap.size+1) w2 w':=fun w' h=>h.mono (by omega);have e0:=f0 w2 brf;have e1:=f1 w2 brf;clear h h2 hb02 hfx hq2 hw1 hw2 hb1 hb2 hs1 hs2 hq1 cb hC hM hok hp;go_enter func38,ntmps38
 go_upto_region 1 with(fail)
 rw[<-HE.out.1,<-HE.out.2]
 go_region_held (fun w'=>Below w2.heap.size w2 w') (first|exact brf.drew|assumption|exact Below.drew (by assumption)) (fail)
 obtain⟨w3,hw3⟩:∃ z,z=w2.drew:=⟨_,rfl⟩
 have hb3:Below w2.heap.size w2 w3:=by rw[hw3];exact brf.drew
 rw[<-hw3];clear hw3 e0 e1;go_upto_region 2 with(fail)
 cases hwi:withinI x.i.size c.a c.n
 ·have HI:=hid hwi;rw[hwi] at HW;clear hwi
  go_region_held (fun w'=>Below w2.heap.size w2 w') (first|exact hb3.drew|assumption|exact Below.drew (by assumption)) (first
   | (go_at_call 79;refine(HW.out _).mono ?_;rintro e w5 ⟨rfl,rfl⟩))
  obtain⟨w4,hw4⟩:∃ z,z=w3.drew:=⟨_,rfl⟩
  have hb4:Below w2.heap.size w2 w4:=by rw[hw4];exact hb3.drew
  rw[<-hw4];clear hw4 hb3 HW f0 f1 f3 f4 i1 i3 lk
  go_wp2_with (go_at_call 21;refine(failed_any 6 _).mono ?_;rintro e w5 ⟨rfl,hb5⟩;obtain⟨x0,x1,x2,x3,x4,x5,xz⟩:=zcells (((hb4.trans (hb5.mono hb4.size)).block (w.heap.size+1) (by have:=H.out.2.2.2.2.2.2.2.1;omega)).trans H.out.2.2.2.2.2.2.1))
  have hq5:=((hb4.trans (hb5.mono hb4.size)).block (w.heap.size+1) (by have:=H.out.2.2.2.2.2.2.2.1;omega)).trans H.out.2.2.2.2.2.2.1;have hcj:=st6_cell (.int .i64 6) nilS nilS nilS (.int .i64 0) (.int .i64 0) hq5 rfl;have y0:=hcj 0 _ rfl;have y1:=hcj 1 _ rfl;have y2:=hcj 2 _ rfl;have y3:=hcj 3 _ rfl;have y4:=hcj 4 _ rfl;have y5:=hcj 5 _ rfl;have h9:=reply_same H.out.1 (H.out.2.2.1.trans ((hb4.trans (hb5.mono hb4.size)).mono H.out.2.2.1.size)) hq5 (by omega) (RepOK.fail w5 w.heap.size 6);have hF:readF M c=(M,failR 6,0):=by unfold readF;rw[H.out.2.2.2.2.2.1];simp only[HI.out];rfl
  rw[hF];clear x0 x1 x2 x3 x4 x5 xz hcj;change bodyPost _ _ _ _ _ (st6 w5 (w.heap.size+1) (.int .i64 6) nilS nilS nilS (.int .i64 0) (.int .i64 0));exact bodyPost_ret (v:=failV 6) (by simp[results,results38,go_sem,y0,y1,y2,y3,y4,y5]) rfl ⟨_,X,rfl,h9.1,h9.2.1,rfl,nlr,rfl,h9.2.2⟩
 ·have HBD:=hid (within_bounds hwi H.out.2.2.2.1.size);have HI:=hid hwi;rw[hwi] at HW;clear hwi
  go_region_held (fun w'=>Below w2.heap.size w2 w') (first|exact hb3.drew|assumption|exact Below.drew (by assumption)) (first
   | (go_at_call 79;refine(HW.out _).mono ?_;rintro e w5 ⟨rfl,rfl⟩))
  obtain⟨w4,hw4⟩:∃ z,z=w3.drew:=⟨_,rfl⟩
  have hb4:Below w2.heap.size w2 w4:=by rw[hw4];exact hb3.drew
  rw[<-hw4];clear hw4 hb3 HW;have HS:=hid (fun w' (hB:Below w2.heap.size w2 w')=>by
   have hA:=(H.out.2.1.below hB).a;have hok:=H.out.2.2.2.1;have hd:dep M.all 8 x.i.back:=by
    obtain⟨e,h1,h2,_⟩:=dep_min H.out.2.2.2.2.2.1 (H.out.2.2.2.2.2.2.2.2.dp c.name);exact dep_le h2 (by omega)
   have:=sho_all 8 w' base mb X.am M.all X.xs x.i x.ib base x.x.om x.i.size _ x.i.own x.x.ol c.a.toNat c.n.toNat (H.out.2.1.below hB).mod0 hA (hA.i x H.out.2.2.2.2.1).ic (hA.i x H.out.2.2.2.2.1).own hok.own hok.cl hok.nb hd hok.size HBD.out.2.2.1 HBD.out.2.2.2.1;rw[<-HBD.out.1,<-HBD.out.2.1] at this;exact this)
  go_upto_region 4 with(fail)
  have hb4':Below (w.heap.size+1) w2 w4.drew:=hwb _ hb4.drew
  go_region_held (fun w'=>Below (w.heap.size+1) w2 w') (first|with_reducible exact hb4'|with_reducible assumption|with_reducible exact Below.drew (by assumption)|exact below6 (by assumption) _ _ _ _ _ _) (first
   | (go_at_call 27;refine(HS.out _ hb4.drew).mono ?_;rintro e w5 ⟨v5,rfl,ho5,hb5⟩;obtain⟨ya,yn,yc,rfl⟩:=ownB_sh ho5.o;have hb25:=hb4.drew.trans (hb5.mono (show w2.heap.size<=w4.drew.heap.size from hb4.size));have hB5:Below (w.heap.size+1) w2 w5:=hwb _ hb25;obtain⟨x0,x1,x2,x3,x4,x5,xz⟩:=zcells ((hb25.block (w.heap.size+1) (by have:=H.out.2.2.2.2.2.2.2.1;omega)).trans H.out.2.2.2.2.2.2.1)))
  have hq5:=(hb25.block (w.heap.size+1) (by have:=H.out.2.2.2.2.2.2.2.1;omega)).trans H.out.2.2.2.2.2.2.1;have hcj:=st6_cell (.int .i64 0) (.slice ya yn yc) nilS nilS (.int .i64 0) (.int .i64 0) hq5 rfl;have hrep:RepOK w5 w.heap.size (rpV 0 (.slice ya yn yc) nilS nilS 0 0) {data:=secs (secIn M.all 8 x.i x.i.size x.i.own) c.a.toNat c.n.toNat}:=⟨_,_,_,rfl,ho5.o.any_base (Nat.le_trans H.out.2.2.1.size hb4.size),OwnG.nil _ _ _ _,OwnG.nil _ _ _ _⟩
  have h9:=reply_same H.out.1 (H.out.2.2.1.trans (hb25.mono H.out.2.2.1.size)) hq5 (by omega) hrep;have hF:readF M c=(M,{data:=secs (secIn M.all 8 x.i x.i.size x.i.own) c.a.toNat c.n.toNat},0):=by unfold readF;rw[H.out.2.2.2.2.2.1];simp only[HI.out];rfl
  obtain⟨W,hW⟩:∃ W,W=st6 w5 (w.heap.size+1) (.int .i64 0) (.slice ya yn yc) nilS nilS (.int .i64 0) (.int .i64 0):=⟨_,rfl⟩
  change Exit.then _ _ _ _ (st6 w5 (w.heap.size+1) (.int .i64 0) (.slice ya yn yc) nilS nilS (.int .i64 0) (.int .i64 0))
  rw[<-hW] at hcj h9 ⊢;have y0:=hcj 0 _ rfl;have y1:=hcj 1 _ rfl;have y2:=hcj 2 _ rfl;have y3:=hcj 3 _ rfl;have y4:=hcj 4 _ rfl;have y5:=hcj 5 _ rfl;have HZ:=jd2 h9 hF;clear hcj h9 hF hW hrep hq5 x0 x1 x2 x3 x4 x5 xz ho5 hb5 hb25 hB5 hb4' hb4 f0 f1 f3 f4 i1 i3 lk
  go_wp2_with fail
  rw[HZ.out.2];exact bodyPost_ret (v:=rpV 0 (.slice ya yn yc) nilS nilS 0 0) (by simp[results,results38,go_sem,y0,y1,y2,y3,y4,y5]) rfl ⟨_,X,rfl,HZ.out.1.1,HZ.out.1.2.1,rfl,nlr,rfl,HZ.out.1.2.2⟩
theorem MO.setAll {w w':World}{base mb:Nat}{M:MM}{X:MX}{S':IL}{xs':List XI}(h:MO w base mb M X)(hA:AM w' base X.am S' xs')(hk:Kept w w' (·∉fpA X.am X.xs))(hf:∀ b∈fpA X.am xs',b∈fpA X.am X.xs\/w.heap.size<=b)(hn:(fpA X.am xs').Nodup) :
  MO w' base mb {M with all:=S'} {X with xs:=xs'}/\Stp w w' (X.fp mb) (MX.fp mb {X with xs:=xs'}):=by
 have hap:=Ap.of h.nd;have hNI:=ni_of (w:=w) (fpA X.am X.xs) h.a.typ;have hlt:=h.lt;refine⟨⟨(hk.block mb (blk_lt h.ck) fun e=>(hap.a mb e).1 rfl).trans h.ck,hA,h.k.kept hk (fun b hb e=>(hap.a b e).2.2 hb) hNI,h.h.block (hk.block _ h.h.lt fun e=>(hap.a _ e).2.1 rfl),h.ht,h.hc,fun dm e=>(h.d dm e).block (hk.block _ (h.d dm e).lt (hap.d dm e).2.2.2.1),h.f.kept hk fun q e=>(hap.f q e).2.2.1,?_⟩,hk.imp fun b hb e=>hb (MX.mem.2 (.inr (.inr (.inr (.inr (.inl e)))))),fun b hb=>?_⟩
 ·refine Ap.nd ⟨hap.mh,fun q e=>?_,fun q e=>?_,fun b hb=>?_,hap.k,hn,hap.nk⟩
  ·have h1:=hap.d q e;exact⟨h1.1,h1.2.1,h1.2.2.1,fun e2=>(hf q e2).elim h1.2.2.2.1 (fun h2=>by have:=(h.d q e).lt;omega),h1.2.2.2.2⟩
  ·have h1:=hap.f q e;exact⟨h1.1,h1.2.1,fun e2=>(hf q e2).elim h1.2.2.1 (fun h2=>by have:=h.f.lt q e;omega),h1.2.2.2⟩
  ·rcases hf b hb with h1|h1
   ·exact hap.a b h1
   ·refine⟨?_,?_,fun h2=>?_⟩
    ·have:=blk_lt h.ck;omega
    ·have:=h.h.lt;intro e;have e2:b=X.hm:=e;omega
    ·have:=h.k.lt b h2;omega
 ·rw[MX.mem] at hb ⊢;rcases hb with h1|h1|h1|h1|h1|h1
  ·exact .inl (.inl h1)
  ·exact .inl (.inr (.inl h1))
  ·exact .inl (.inr (.inr (.inl h1)))
  ·exact .inl (.inr (.inr (.inr (.inl h1))))
  ·rcases hf b h1 with h2|h2
   ·exact .inl (.inr (.inr (.inr (.inr (.inl h2)))))
   ·exact .inr h2
  ·exact .inl (.inr (.inr (.inr (.inr (.inr h1)))))
theorem reply_ok {w w1:World}{base mb:Nat}{M':MM}{X X':MX}{rb:Nat}(h:MO w1 base mb M' X')(hst:Stp w w1 (X.fp mb) (X'.fp mb))(hq:w1.heap[rb]? = some (.cells zrep 34 (0,0)))(hrb:w.heap.size<=rb)(hrn:rb∉X'.fp mb) :
  RepOK (st6 w1 rb (.int .i64 0) nilS nilS nilS (.int .i64 0) (.int .i64 0)) w.heap.size (failV 0) {}/\MO (st6 w1 rb (.int .i64 0) nilS nilS nilS (.int .i64 0) (.int .i64 0)) base mb M' X'/\Stp w (st6 w1 rb (.int .i64 0) nilS nilS nilS (.int .i64 0) (.int .i64 0)) (X.fp mb) (X'.fp mb):=by
 have hk:=st6_kept w1 rb (.int .i64 0) nilS nilS nilS (.int .i64 0) (.int .i64 0);refine⟨RepOK.fail _ _ 0,h.kept hk (fun b h1 e=>hrn (e▸h1)) fun b c t f h1 ht e=>?_,hst.over hk hrb⟩;rw[e,hq] at h1;cases h1;rcases ht with h|h|h<;>cases h
theorem writes_any:CmdOk 39 HasN writeF:=by
 intro w base mb M X c dv h hM hbase hfr hC hp;obtain⟨da,dn,dc,rfl⟩:=slB_shape hC.d.slB;obtain⟨x,hx,hxn,hfx⟩:∃ x∈X.xs,x.n=c.name/\fnd M.all c.name=some x.i:=by
  rcases h.a.at c.name (Nat.le_trans hC.nl (by unfold maxLen;omega)) with⟨h1,_⟩|⟨x,hx,hxn,h1,_⟩
  ·unfold HasN at hp;rw[h1] at hp;cases hp
  ·exact⟨x,hx,hxn,h1⟩
 have hok:=h.a.ok x hx;obtain⟨w1,hw1⟩:∃ z,z=w.alloc (.cells #[.int .i64 c.kind,str c.name,str c.tt,.int .i64 c.a,.int .i64 c.n,.int .i64 c.m,.slice da dn dc] 25):=⟨_,rfl⟩
 obtain⟨w2,hw2⟩:∃ z,z=w1.alloc (.cells #[.int .i64 0,.slice none 0 0,.slice none 0 0,.slice none 0 0,.int .i64 0,.int .i64 0] 34):=⟨_,rfl⟩
 have hb1:Below w.heap.size w w1:=by rw[hw1];exact brf.alloc nlr _
 have hs1:w1.heap.size=w.heap.size+1:=by rw[hw1];simp
 have hb2:Below w1.heap.size w1 w2:=by rw[hw2];exact brf.alloc nlr _
 have hs2:w2.heap.size=w.heap.size+2:=by rw[hw2];simp[hs1]
 have hb02:Below w.heap.size w w2:=hb1.trans (hb2.mono (by omega));have hq1:w2.heap[w.heap.size]? = some (.cells #[.int .i64 c.kind,str c.name,str c.tt,.int .i64 c.a,.int .i64 c.n,.int .i64 c.m,.slice da dn dc] 25 (0,0)):=(hb2.block _ (by omega)).trans (by rw[hw1];exact alloc_new w _);have hq2:w2.heap[w.heap.size+1]? = some (.cells #[.int .i64 0,.slice none 0 0,.slice none 0 0,.slice none 0 0,.int .i64 0,.int .i64 0] 34 (0,0)):=by rw[hw2,<-hs1];exact alloc_new w1 _
 have h2:=h.below hb02;have bel:∀ w',Below (w.heap.size+1) w2 w'->MO w' base mb M X:=fun w' hB=>h.below (hb02.trans (hB.mono (by omega)));have cb:∀ (j:Nat) v,(#[Value.int .i64 c.kind,str c.name,str c.tt,.int .i64 c.a,.int .i64 c.n,.int .i64 c.m,.slice da dn dc]:Array Value)[j]? = some v->∀ w',Below (w.heap.size+1) w2 w'->w'.cell? ⟨w.heap.size,j,none⟩=some v:=fun j v hv w' hB=>by
  rw[World.cell?_of_block (hB.block w.heap.size (by omega))];simp[World.cell?,hq1,hv]
 have f0:∀ w',Below (w.heap.size+1) w2 w'->w'.cell? ⟨mb,0,none⟩=some (.map (some X.am)):=fun w' hB=>(bel w' hB).cells.1;have f1:=cb 1 _ rfl;have f3:=cb 3 _ rfl;have f4:=cb 4 _ rfl;have lk:∀ w',Below (w.heap.size+1) w2 w'->(Instr.lookup 57 (.map (some X.am)) (str c.name) false).run prog w' = .ok (pt x.ib) w':=fun w' hB=>by rw[<-hxn];exact(bel w' hB).a.atx hx
 have i1:∀ w',Below (w.heap.size+1) w2 w'->w'.cell? ⟨x.ib,1,none⟩=some (.int .i64 x.i.size):=fun w' hB=>((bel w' hB).a.i x hx).cells.2.1;have f6:=cb 6 _ rfl;have i3:∀ w',Below (w.heap.size+1) w2 w'->w'.cell? ⟨x.ib,3,none⟩=some (.map (some x.x.om)):=fun w' hB=>((bel w' hB).a.i x hx).cells.2.2.2.1;obtain⟨fr,hfe⟩:∃ fr,fr=decide (aboveN M.all x.n=0):=⟨_,rfl⟩
 have HT:=hid (turned_any h2.mod0 h2.a (by have:=hM.le;omega) hx);rw[<-hfe,hxn] at HT;have hdl:dn=c.data.length:=by obtain⟨oa,cap,e,_⟩:=hC.d;cases e;rfl
 have hdb:dn<=3000:=by rw[hdl];exact hC.dl
 obtain⟨n,hn⟩:∃ n,n=dn/16:=⟨_,rfl⟩
 have hq:IntKind.i64.wrap ((dn:Int)/16)=(n:Int):=by rw[show(dn:Int)/16=(n:Int) by omega,IntWalk.i64_in _ (by omega)]
 have HW:=hid (fun w'=>within_any x.i.size c.a n (by omega) (by have:=hok.size;omega) w');have hab:aboveN M.all c.name=0↔fr=true:=by rw[hfe,hxn];simp
 have H:=jd9 h h2 hb02 hok hx hfx hq2 hs2 (And.intro hM (And.intro hC (And.intro hab (And.intro hn (And.intro hdl (And.intro hxn hbase))))));have HE:=jd2 hw1 hw2;have hwb:∀ w',Below w2.heap.size w2 w'->Below (w.heap.size+1) w2 w':=fun w' h=>h.mono (by omega);have e1:=f1 w2 (hwb _ brf);clear h h2 hb02 hfx hq2 hw1 hw2 hb1 hb2 hs1 hs2 hq1 cb hC hM hok hp f0 lk hn hdl hfe hxn hab hfr;go_enter func39,ntmps39
 go_upto_region 1 with(fail)
 rw[<-HE.out.1,<-HE.out.2];cases fr
 ·go_wp2_with (first
   | (go_at_call 80;refine HT.out.mono ?_;rintro e w4 ⟨rfl,hb4⟩)
   | (go_at_call 21;refine(failed_any 14 _).mono ?_;rintro e w5 ⟨rfl,hb5⟩;obtain⟨x0,x1,x2,x3,x4,x5,xz⟩:=zcells (((hb4.trans (hb5.mono hb4.size)).block (w.heap.size+1) (by have:=H.out.2.2.2.2.2.2.2.1;omega)).trans H.out.2.2.2.2.2.2.1)))
  have hq5:=((hb4.trans (hb5.mono hb4.size)).block (w.heap.size+1) (by have:=H.out.2.2.2.2.2.2.2.1;omega)).trans H.out.2.2.2.2.2.2.1;have hcj:=st6_cell (.int .i64 14) nilS nilS nilS (.int .i64 0) (.int .i64 0) hq5 rfl;have y0:=hcj 0 _ rfl;have y1:=hcj 1 _ rfl;have y2:=hcj 2 _ rfl;have y3:=hcj 3 _ rfl;have y4:=hcj 4 _ rfl;have y5:=hcj 5 _ rfl;have h9:=reply_same H.out.1 (H.out.2.2.1.trans ((hb4.trans (hb5.mono hb4.size)).mono H.out.2.2.1.size)) hq5 (by omega) (RepOK.fail w5 w.heap.size 14);have hF:writeF M c=(M,failR 14,0):=by unfold writeF;rw[H.out.2.2.2.2.2.1];simp only;rw[if_pos (by have:=H.out.2.2.2.2.2.2.2.2.2.2.1;simp at this;exact this)]
  rw[hF];clear x0 x1 x2 x3 x4 x5 xz hcj;change bodyPost _ _ _ _ _ (st6 w5 (w.heap.size+1) (.int .i64 14) nilS nilS nilS (.int .i64 0) (.int .i64 0));exact bodyPost_ret (v:=failV 14) (by simp[results,results39,go_sem,y0,y1,y2,y3,y4,y5]) rfl ⟨_,X,rfl,h9.1,h9.2.1,rfl,nlr,rfl,h9.2.2⟩
 ·have hab0:aboveN M.all c.name=0:=H.out.2.2.2.2.2.2.2.2.2.2.1.2 rfl;have hnab:¬ aboveN M.all c.name≠0:=by simp[hab0]
  have HAB:=hid hnab;clear hab0 hnab;go_upto_region 4 with(go_at_call 80;refine HT.out.mono ?_;rintro e w4 ⟨rfl,hb4⟩)
  have g6:=f6 w4 (hwb _ hb4);have g3:=f3 w4 (hwb _ hb4);have g1:=i1 w4 (hwb _ hb4);have hlen:∀ w',(Builtin.len_ #[23] 3 #[.slice da dn dc]).run prog w' = .ok (.int .i64 dn) w':=fun w'=>len_sl underlying23 rfl w';by_cases h16:dn%16=0
  ·have e16:((dn:Int)%16==0)=true:=by simp;omega
   have H16:=hid h16;clear h16;go_upto_region 6 with(fail)
   clear g6 g3 g1;cases hwi:withinI x.i.size c.a n
   ·have HI:=hid hwi;rw[hwi] at HW;clear hwi;have hwb4:=hwb _ hb4.drew
    go_region_held (fun w'=>Below (w.heap.size+1) w2 w') (first|with_reducible exact hwb4|with_reducible assumption|exact Below.drew (by assumption)) (first
     | (go_at_call 79;refine(HW.out _).mono ?_;rintro e w5 ⟨rfl,rfl⟩))
    obtain⟨w3,hw3⟩:∃ z,z=w4.drew:=⟨_,rfl⟩
    have hb3:Below w2.heap.size w2 w3:=by rw[hw3];exact hb4.drew
    rw[<-hw3];clear hw3 hb4 hwb4 HW f1 f3 f4 f6 i1 i3
    go_wp2_with (go_at_call 21;refine(failed_any 6 _).mono ?_;rintro e w5 ⟨rfl,hb5⟩;obtain⟨x0,x1,x2,x3,x4,x5,xz⟩:=zcells (((hb3.trans (hb5.mono hb3.size)).block (w.heap.size+1) (by have:=H.out.2.2.2.2.2.2.2.1;omega)).trans H.out.2.2.2.2.2.2.1))
    have hq5:=((hb3.trans (hb5.mono hb3.size)).block (w.heap.size+1) (by have:=H.out.2.2.2.2.2.2.2.1;omega)).trans H.out.2.2.2.2.2.2.1;have hcj:=st6_cell (.int .i64 6) nilS nilS nilS (.int .i64 0) (.int .i64 0) hq5 rfl;have y0:=hcj 0 _ rfl;have y1:=hcj 1 _ rfl;have y2:=hcj 2 _ rfl;have y3:=hcj 3 _ rfl;have y4:=hcj 4 _ rfl;have y5:=hcj 5 _ rfl;have h9:=reply_same H.out.1 (H.out.2.2.1.trans ((hb3.trans (hb5.mono hb3.size)).mono H.out.2.2.1.size)) hq5 (by omega) (RepOK.fail w5 w.heap.size 6);have hF:writeF M c=(M,failR 6,0):=by unfold writeF;rw[H.out.2.2.2.2.2.1];simp only;rw[if_neg HAB.out,if_neg (by have:=H.out.2.2.2.2.2.2.2.2.2.2.2.2.1;have:=H16.out;omega),if_neg (by have:=H.out.2.2.2.2.2.2.2.2.2.2.2.1;have h2:=H.out.2.2.2.2.2.2.2.2.2.2.2.2.1;rw[<-h2,<-this,HI.out];simp)]
    rw[hF];clear x0 x1 x2 x3 x4 x5 xz hcj;change bodyPost _ _ _ _ _ (st6 w5 (w.heap.size+1) (.int .i64 6) nilS nilS nilS (.int .i64 0) (.int .i64 0));exact bodyPost_ret (v:=failV 6) (by simp[results,results39,go_sem,y0,y1,y2,y3,y4,y5]) rfl ⟨_,X,rfl,h9.1,h9.2.1,rfl,nlr,rfl,h9.2.2⟩
   ·have HI:=hid hwi;have HBD:=hid (within_bounds hwi H.out.2.2.2.1.size);rw[hwi] at HW;clear hwi;have hwb4:=hwb _ hb4.drew
    go_region_held (fun w'=>Below (w.heap.size+1) w2 w') (first|with_reducible exact hwb4|with_reducible assumption|exact Below.drew (by assumption)) (first
     | (go_at_call 79;refine(HW.out _).mono ?_;rintro e w5 ⟨rfl,rfl⟩))
    obtain⟨w3,hw3⟩:∃ z,z=w4.drew:=⟨_,rfl⟩
    have hb3:Below w2.heap.size w2 w3:=by rw[hw3];exact hb4.drew
    rw[<-hw3];have g6:=f6 w3 (hwb _ hb3);have g3:=f3 w3 (hwb _ hb3);obtain⟨h,h2,hb02,hok,hx,hfx,hq2,hs2,hM,hC,hab,hn,hdl,hxn,hbase⟩:=H.out;have hb03:Below w.heap.size w w3:=hb02.trans (hb3.mono hb02.size);have h3:=h.below hb03;have hsl:SlN w3 (NW x) (.slice da dn dc) c.data:=((Stp.of_below hb03 (X.fp mb)).sl hC.d).imp fun b _ hb=>⟨fun e=>hb (MX.mem.2 (.inr (.inr (.inr (.inr (.inl (e▸fpA_mem hx _ (by simp[IX.fp])))))))),fun e=>hb (MX.mem.2 (.inr (.inr (.inr (.inr (.inl (e▸fpA_mem hx _ (by simp[IX.fp]))))))))⟩
    have HWR:=hid (write_any 8 h3.a h3.mod0 (Ap.of h.nd).na (Nat.le_trans hbase hb03.size) hx (hM.dp x.n) c.a.toNat n hsl (by have:=H16.out;omega) (by have:=HBD.out.2.2.2.2;simpa using this));rw[<-HBD.out.1] at HWR;have hq3:=(hb3.block (w.heap.size+1) (by omega)).trans hq2;have hnrb:w.heap.size+1∉fpA X.am X.xs:=fun hm=>by have:=h.a.lt _ hm;omega
    have HM3:=jd4 h3 hq3 hnrb hb03;clear hw3 hb4 hwb4 HW f1 f3 f4 f6 i1 i3 h h2 hb02 hok hfx hq2 hs2 hM hC hab hn hdl hxn hbase hb03 h3 hsl hq3 hnrb
    go_wp2_with (go_at_call 81;refine HWR.out.mono ?_;rintro e w5 ⟨rfl,x5,hII5,hok5,ho5,hs5,hv5,hk5⟩;obtain⟨x0,x1,x2,x3,x4,x5',xz⟩:=zcells ((hk5.block (w.heap.size+1) (blk_lt HM3.out.2.1) ⟨fun e=>HM3.out.2.2.1 (e▸fpA_mem hx _ (by simp[IX.fp])),fun e=>HM3.out.2.2.1 (e▸fpA_mem hx _ (by simp[IX.fp]))⟩).trans HM3.out.2.1))
    obtain⟨h3,hq3,hnrb,hb03⟩:=HM3.out;obtain⟨h,h2,hb02,hok,_,hfx,hq2,hs2,hM,hC,hab,hn,hdl,hxn,hbase⟩:=H.out;obtain⟨iZ,hiZ⟩:∃ i,i=writeI M.all 8 x.i c.a.toNat c.data:=⟨_,rfl⟩
    rw[<-hiZ] at hII5 hok5;have hin:∀ b,b=x.ib\/b=x.x.om->b∈fpA X.am X.xs:=fun b hb=>fpA_mem hx b (by rcases hb with rfl|rfl<;>simp[IX.fp])
    have hA5:AM w5 base X.am (setI M.all x.n iZ) (repl X.xs ⟨x.n,iZ,x.ib,x5⟩):=h3.a.set (Ap.of h.nd).na hx hk5 (fun b _ hb=>fp_split _ _ b hb) (h3.a.i x hx).ni hII5 hok5;have hfp:fpA X.am (repl X.xs ⟨x.n,iZ,x.ib,x5⟩)=fpA X.am X.xs:=fpA_repl h.a hx (by unfold IX.fp;rw[ho5,hs5,hv5]);have hS:=h3.setAll hA5 (hk5.imp fun b hb=>⟨fun e=>hb (hin b (.inl e)),fun e=>hb (hin b (.inr e))⟩) (fun b hb => .inl (hfp▸hb)) (by rw[hfp];exact(Ap.of h.nd).na);have hst:=(Stp.of_below hb03 (X.fp mb)).trans hS.2;have hq5:=(hk5.block (w.heap.size+1) (blk_lt hq3) ⟨fun e=>hnrb (hin _ (.inl e)),fun e=>hnrb (hin _ (.inr e))⟩).trans hq3;have hlt:=h.lt;have h9:=reply_ok hS.1 hst hq5 (by omega) (fun hm=>by
     rcases hS.2.n _ hm with h1|h1
     ·have:=hlt _ h1;omega
     ·have:=blk_lt hq3;omega)
    have hcj:=st6_cell (.int .i64 0) nilS nilS nilS (.int .i64 0) (.int .i64 0) hq5 rfl;have hF:writeF M c=({M with all:=setI M.all x.n iZ},{},0):=by
     unfold writeF;rw[hfx];simp only;rw[if_neg HAB.out,if_neg (by have:=H16.out;omega),if_pos (by rw[<-hdl,<-hn];exact HI.out),hxn,hiZ]
    have y0:=hcj 0 _ rfl;have y1:=hcj 1 _ rfl;have y2:=hcj 2 _ rfl;have y3:=hcj 3 _ rfl;have y4:=hcj 4 _ rfl;have y5:=hcj 5 _ rfl;rw[hF];clear x0 x1 x2 x3 x4 x5' xz hcj;change bodyPost _ _ _ _ _ (st6 w5 (w.heap.size+1) (.int .i64 0) nilS nilS nilS (.int .i64 0) (.int .i64 0));exact bodyPost_ret (v:=failV 0) (by simp[results,results39,go_sem,y0,y1,y2,y3,y4,y5]) rfl ⟨_,_,rfl,h9.1,h9.2.1,rfl,nlr,rfl,h9.2.2⟩
  ·have e16:((dn:Int)%16==0)=false:=by simp;omega
   have H16:=hid h16;clear h16
   go_wp2_with (go_at_call 21;refine(failed_any 1 _).mono ?_;rintro e w5 ⟨rfl,hb5⟩;obtain⟨x0,x1,x2,x3,x4,x5,xz⟩:=zcells (((hb4.trans (hb5.mono hb4.size)).block (w.heap.size+1) (by have:=H.out.2.2.2.2.2.2.2.1;omega)).trans H.out.2.2.2.2.2.2.1))
   have hq5:=((hb4.trans (hb5.mono hb4.size)).block (w.heap.size+1) (by have:=H.out.2.2.2.2.2.2.2.1;omega)).trans H.out.2.2.2.2.2.2.1;have hcj:=st6_cell (.int .i64 1) nilS nilS nilS (.int .i64 0) (.int .i64 0) hq5 rfl;have y0:=hcj 0 _ rfl;have y1:=hcj 1 _ rfl;have y2:=hcj 2 _ rfl;have y3:=hcj 3 _ rfl;have y4:=hcj 4 _ rfl;have y5:=hcj 5 _ rfl;have h9:=reply_same H.out.1 (H.out.2.2.1.trans ((hb4.trans (hb5.mono hb4.size)).mono H.out.2.2.1.size)) hq5 (by omega) (RepOK.fail w5 w.heap.size 1);have hF:writeF M c=(M,failR 1,0):=by unfold writeF;rw[H.out.2.2.2.2.2.1];simp only;rw[if_neg HAB.out,if_pos (by have:=H.out.2.2.2.2.2.2.2.2.2.2.2.2.1;have:=H16.out;omega)]
   rw[hF];clear x0 x1 x2 x3 x4 x5 xz hcj;change bodyPost _ _ _ _ _ (st6 w5 (w.heap.size+1) (.int .i64 1) nilS nilS nilS (.int .i64 0) (.int .i64 0));exact bodyPost_ret (v:=failV 1) (by simp[results,results39,go_sem,y0,y1,y2,y3,y4,y5]) rfl ⟨_,X,rfl,h9.1,h9.2.1,rfl,nlr,rfl,h9.2.2⟩
end Go.Proofs.YtgkabcaodnofnaaGreat
namespace Go.Md
def flushedM (M:MM)(n:Bs):MM:=if M.ch n=true then flushM M n else M
def flushedN (M:MM)(n:Bs):Nat:=if M.ch n=true then 1 else 0
end Go.Md
namespace Go.Proofs.YtgkabcaodnofnaaGreat
open Go.RowKit Go.Mx Go.Md
variable {w w':World}{base mb:Nat}{M:MM}{X:MX}
theorem MO.chAt (h:MO w base mb M X)(n:Bs)(hn:n.length<=maxLen):(Instr.lookup 58 (.map (some X.hm)) (str n) false).run prog w = .ok (.bool (M.ch n)) w:=by
 have h1:=h.h.look K9 (t:=58) underlying58 zero4 (zd:=.lit (.bool false)) rfl n hn;have h2:(Mx.look X.cl n).getD (.bool false) = .bool (M.ch n):=by
  rw[h.hc n];cases hl:Mx.look X.cl n with
  | none=>rfl
  | some v=>have:=h.ht _ (look_mem hl);simp only at this;rw[this];rfl
 rw[h2] at h1;exact h1
theorem flushed_any (h:MO w base mb M X)(hbase:base<=w.heap.size){x:XI}(hx:x∈X.xs)(hl:X.ks.length<=100)(hfl:X.fr.length<=1000000) :
  Calls prog 76 #[pt mb,str x.n] w fun e w'=>e = .returned (.tuple #[])/\∃ X',MO w' base mb (flushedM M x.n) X'/\X'.am=X.am/\X'.xs=X.xs/\X'.ks.length<=X.ks.length+1/\X'.fr.length=X.fr.length+flushedN M x.n/\X'.dm=X.dm/\X'.cl.length<=X.cl.length/\Stp w w' (X.fp mb) (X'.fp mb):=by
 have c2:=h.cells.2.2.1;have lk:=h.chAt x.n (Nat.le_trans (h.a.nl x hx) (by unfold maxLen;omega));have HF:=hid (flush_any h hbase hx hl hfl);have H:=hid h;obtain⟨b,hb⟩:∃ b,b=M.ch x.n:=⟨_,rfl⟩
 rw[<-hb] at lk;have HB:=hid hb;clear h hb;go_enter func76,ntmps76
 cases b
 ·have e1:flushedM M x.n=M:=by unfold flushedM;rw[<-HB.out];simp
  have e2:flushedN M x.n=0:=by unfold flushedN;rw[<-HB.out];simp
  rw[e1,e2]
  go_wp2_with fail
  go_end0
  exact⟨rfl,X,H.out,rfl,rfl,Nat.le_succ _,rfl,rfl,nlr,Stp.refl _ _⟩
 ·have e1:flushedM M x.n=flushM M x.n:=by unfold flushedM;rw[<-HB.out];simp
  have e2:flushedN M x.n=1:=by unfold flushedN;rw[<-HB.out];simp
  rw[e1,e2]
  go_wp2_with (go_at_call 77;refine HF.out.mono ?_;rintro e w5 ⟨rfl,hr⟩)
  go_end0
  exact⟨rfl,hr⟩
end Go.Proofs.YtgkabcaodnofnaaGreat
