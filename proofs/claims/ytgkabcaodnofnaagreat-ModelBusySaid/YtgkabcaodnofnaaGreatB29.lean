import Derived.Test.YtgkabcaodnofnaaGreatB15
set_option linter.unusedSimpArgs false
set_option linter.unusedVariables false
set_option maxRecDepth 100000
set_option maxHeartbeats 1000000
open Go.Proofs.Tryz
namespace Go.Md
def backsB (S:IL)(n t:Bs):Bs->Option Bs:=fun k=>if k=n then some t else(fnd S k).map (·.back)
def createF (M:MM)(c:Cm):MM×Rp×Nat :=
 if nameOk c.name=false\/c.n<0\/6<c.n then(M,failR 1,0)
 else if sizeOk c.m c.n=false then(M,failR 1,0)
 else if (fnd M.all c.name).isSome=true then(M,failR 5,0)
 else if 16<=M.all.length then(M,failR 9,0)
 else if c.tt≠[]/\fnd M.all c.tt=none then(M,failR 4,0)
 else if standsM (backsB M.all c.name c.tt) c.name≠0 then(M,failR (standsM (backsB M.all c.name c.tt) c.name),0)
 else
  let M1:=if c.tt=[] then M else flushedM M c.tt
  (flushM {M1 with all:=setI M1.all c.name ⟨c.n.toNat,c.m.toNat,c.tt,fun _=>none,[],[]⟩} c.name,{},(if c.tt=[] then 0 else flushedN M c.tt)+1)
end Go.Md
namespace Go.Proofs.YtgkabcaodnofnaaGreat
open Go.RowKit Go.Mx Go.Md
theorem new_img {w8:World}{base mb:Nat}{M1:MM}{X8:MX}(h:MO w8 base mb M1 X8)(hl:M1.all.length<=100){cn cm:Int}{nm tt:Bs}(hn0:¬ cn<0)(hn6:¬ 6<cn)(hs:sizeOk cm cn=true)(hnl:nm.length<=100)(htl:tt.length<=100) :
  ∃ w9,(Instr.mapUpdate 57 (.map (some X8.am)) (str nm) (pt (w8.heap.size+1))).run prog ((w8.drew.alloc (.map #[] 0)).alloc (.cells #[.int .i64 cn,.int .i64 cm,str tt,.map (some w8.heap.size),nilS,nilS] 87)) = .ok () w9/\Kept w8 w9 (·≠X8.am)/\
   ∃ y:XI,y.n=nm/\y∈putX X8.xs y/\MO w9 base mb {M1 with all:=setI M1.all nm ⟨cn.toNat,cm.toNat,tt,fun _=>none,[],[]⟩} {X8 with xs:=putX X8.xs y}/\Stp w8 w9 (X8.fp mb) (MX.fp mb {X8 with xs:=putX X8.xs y}):=by
 have hap:=Ap.of h.nd;obtain⟨wa,hwa⟩:∃ z,z=w8.drew.alloc (.map #[] 0):=⟨_,rfl⟩
 have hba:Below w8.heap.size w8 wa:=by rw[hwa];exact brf.drew.alloc nlr _
 have hga:GM EI prog 3 wa w8.heap.size []:=by rw[hwa];exact GM.made EI prog 3 w8.drew
 have hsa:wa.heap.size=w8.heap.size+1:=by rw[hwa];simp
 rw[<-hwa];obtain⟨wb,hwb⟩:∃ z,z=wa.alloc (.cells #[.int .i64 cn,.int .i64 cm,str tt,.map (some w8.heap.size),nilS,nilS] 87):=⟨_,rfl⟩
 have hbb:Below wa.heap.size wa wb:=by rw[hwb];exact brf.alloc nlr _
 have hqb:wb.heap[w8.heap.size+1]? = some (.cells #[.int .i64 cn,.int .i64 cm,str tt,.map (some w8.heap.size),nilS,nilS] 87 (0,0)):=by rw[hwb,<-hsa];exact alloc_new wa _
 have hgb:GM EI prog 3 wb w8.heap.size []:=hga.block (hbb.block _ (by omega));have hsb:wb.heap.size=w8.heap.size+2:=by rw[hwb];simp[hsa]
 rw[<-hwb];have hb8:Below w8.heap.size w8 wb:=hba.trans (hbb.mono (by omega));have hM:=h.below hb8;have hxl:(X8.xs.map fun x=>(x.n,pt x.ib)).length<maxLen:=by rw[List.length_map,h.a.len];unfold maxLen;omega
 obtain⟨w9,hrun,hg9,hgr9,hs9,hf9⟩:=hM.a.g.upd K9 (t:=57) underlying57 nm (Nat.le_trans hnl (by unfold maxLen;omega)) (pt (w8.heap.size+1)) rfl hxl;have hk9:Kept wb w9 (·≠X8.am):=Kept.grown hgr9 fun k hk=>by cases hk;simp
 have ham:X8.am<w8.heap.size:=h.a.g.lt;obtain⟨i,hi⟩:∃ i:IM,i=⟨cn.toNat,cm.toNat,tt,fun _=>none,[],[]⟩:=⟨_,rfl⟩
 obtain⟨x,hx⟩:∃ x:IX,x=⟨w8.heap.size,[],nilS,[],nilS,[]⟩:=⟨_,rfl⟩
 have hcn:cn=((cn.toNat:Nat):Int):=by omega
 have hs2:=hs;unfold sizeOk at hs2;simp only[Bool.and_eq_true,decide_eq_true_eq,beq_iff_eq] at hs2;have hcm:cm=((cm.toNat:Nat):Int):=by omega
 have hIIb:II wb base (w8.heap.size+1) i x:=by
  rw[hi,hx];refine⟨?_,⟨hgb,by simp,fun k bs hk=>by cases hk⟩,rfl,OwnG.nil _ _ _ _,by simp,BMS.nil _ _⟩;rw[hqb,<-hcn,<-hcm]
 have hfp:x.fp (w8.heap.size+1)=[w8.heap.size+1,w8.heap.size]:=by rw[hx];simp[IX.fp,Value.ownBlock]
 have hII9:II w9 base (w8.heap.size+1) i x:=hIIb.kept hk9 (fun b hb=>by rw[hfp] at hb;simp at hb;omega) fun b c t f hb _ e=>by
  obtain⟨es,k,h1⟩:=hM.a.g.isMap;rw[e,h1] at hb;cases hb
 have hok:IOk i:=by
  rw[hi];refine⟨?_,?_,?_,fun k bs hk=>(by cases hk),(by simp),(by simp),htl⟩
  ·show cn.toNat<=6;omega
  ·show cm.toNat<=4096;omega
  ·show cm.toNat%2^cn.toNat=0;have h3:=hs2.2;rw[hcm] at h3;have:((cm.toNat%2^cn.toNat:Nat):Int)=0:=by push_cast;exact h3
   exact Int.ofNat.inj this
 have hA9:=AM.put (y:=⟨nm,i,w8.heap.size+1,x⟩) hM.a hap.na hg9 hk9 hII9 hok hnl;have hk89:Kept w8 w9 (·≠X8.am):=((Kept.of_below (N:=fun _=>True) hb8 fun k hk _=>hk).imp fun _ _=>trivial).trans hk9;have hnew:∀ b∈x.fp (w8.heap.size+1),w8.heap.size<=b:=fun b hb=>by rw[hfp] at hb;simp at hb;omega
 have hS:=h.setAll hA9 (hk89.imp fun b hb e=>hb (e▸List.mem_cons_self ..)) (fun b hb=>(fpA_putX hb).imp id fun h1=>hnew b h1) (fpA_putX_nodup h.a.names hap.na (by show(x.fp (w8.heap.size+1)).Nodup;rw[hfp];simp) fun b hb h1=>by
  have:=hnew b hb;have:=h.a.lt b h1;omega)
 rw[hi] at hS;exact⟨w9,hrun,hk89,⟨nm,_,_,x⟩,rfl,mem_putX,hS.1,hS.2⟩
theorem look_backs {w:World}{base am:Nat}{S:IL}{xs:List XI}(h:AM w base am S xs)(n:Bs):Mx.look (xs.map fun x=>(x.n,str x.i.back)) n=((fnd S n).map (·.back)).map fun b=>str b:=by
 cases hf:fnd S n with
 | none =>
  have h1:n∉xs.map (·.n):=fun hm=>by have:=(h.names_S n).2 hm;rw[hf] at this;cases this
  rw[(look_none _ _).2 (by rw[List.map_map];exact h1)];rfl
 | some i =>
  obtain⟨x,hx,hxn⟩:=List.mem_map.1 ((h.names_S n).1 (by rw[hf];rfl));have h2:=h.find hx;rw[hxn,hf] at h2;cases h2
  refine look_of_mem (by rw[List.map_map];exact h.names) (List.mem_map.2 ⟨x,hx,by rw[hxn]⟩)
theorem create_any:CmdOk 36 (fun _ _=>True) createF:=by
 intro w base mb M X c dv h hM hbase hfr hC hp;obtain⟨da,dn,dc,rfl⟩:=slB_shape hC.d.slB;obtain⟨w1,hw1⟩:∃ z,z=w.alloc (.cells #[.int .i64 c.kind,str c.name,str c.tt,.int .i64 c.a,.int .i64 c.n,.int .i64 c.m,.slice da dn dc] 25):=⟨_,rfl⟩
 obtain⟨w2,hw2⟩:∃ z,z=w1.alloc (.cells #[.int .i64 0,.slice none 0 0,.slice none 0 0,.slice none 0 0,.int .i64 0,.int .i64 0] 34):=⟨_,rfl⟩
 have hb1:Below w.heap.size w w1:=by rw[hw1];exact brf.alloc nlr _
 have hs1:w1.heap.size=w.heap.size+1:=by rw[hw1];simp
 have hb2:Below w1.heap.size w1 w2:=by rw[hw2];exact brf.alloc nlr _
 have hs2:w2.heap.size=w.heap.size+2:=by rw[hw2];simp[hs1]
 have hb02:Below w.heap.size w w2:=hb1.trans (hb2.mono (by omega));have hq1:w2.heap[w.heap.size]? = some (.cells #[.int .i64 c.kind,str c.name,str c.tt,.int .i64 c.a,.int .i64 c.n,.int .i64 c.m,.slice da dn dc] 25 (0,0)):=(hb2.block _ (by omega)).trans (by rw[hw1];exact alloc_new w _);have hq2:w2.heap[w.heap.size+1]? = some (.cells #[.int .i64 0,.slice none 0 0,.slice none 0 0,.slice none 0 0,.int .i64 0,.int .i64 0] 34 (0,0)):=by rw[hw2,<-hs1];exact alloc_new w1 _
 have h2:=h.below hb02;have bel:∀ w',Below (w.heap.size+1) w2 w'->MO w' base mb M X:=fun w' hB=>h.below (hb02.trans (hB.mono (by omega)));have cb:∀ (j:Nat) v,(#[Value.int .i64 c.kind,str c.name,str c.tt,.int .i64 c.a,.int .i64 c.n,.int .i64 c.m,.slice da dn dc]:Array Value)[j]? = some v->∀ w',Below (w.heap.size+1) w2 w'->w'.cell? ⟨w.heap.size,j,none⟩=some v:=fun j v hv w' hB=>by
  rw[World.cell?_of_block (hB.block w.heap.size (by omega))];simp[World.cell?,hq1,hv]
 have f0:∀ w',Below (w.heap.size+1) w2 w'->w'.cell? ⟨mb,0,none⟩=some (.map (some X.am)):=fun w' hB=>(bel w' hB).cells.1;have f1:=cb 1 _ rfl;have f2:=cb 2 _ rfl;have f5:=cb 5 _ rfl;have f4:=cb 4 _ rfl;have H:=jd9 h h2 hb02 hM hM hM hq2 hs2 (And.intro hM (And.intro hC (And.intro hbase hfr)));have HE:=jd2 hw1 hw2;have HQ1:=hid hq1;have hwb:∀ w',Below w2.heap.size w2 w'->Below (w.heap.size+1) w2 w':=fun w' h=>h.mono (by omega);have HN:=hid (fun w'=>name_any c.name w');have hcl:c.name.length<=100:=hC.nl;have htl:c.tt.length<=100:=hC.tl;clear h h2 hb02 hq2 hw1 hw2 hb1 hb2 hs1 hs2 hq1 cb hC hM hp hfr;have hb2':Below w2.heap.size w2 w2:=brf;have e0:=f0 w2 (hwb _ hb2');have e1:=f1 w2 (hwb _ hb2');have e2:=f2 w2 (hwb _ hb2');have e4:=f4 w2 (hwb _ hb2');have e5:=f5 w2 (hwb _ hb2');go_enter func36,ntmps36
 go_upto_region 1 with(fail)
 rw[<-HE.out.1,<-HE.out.2];cases hno:nameOk c.name
 ·have HNO:=hid hno;rw[hno] at HN;clear hno
  go_wp2_with (first
   | (go_at_call 72;refine(HN.out _).mono ?_;rintro e w4 ⟨rfl,rfl⟩)
   | (go_at_call 21;refine(failed_any 1 _).mono ?_;rintro e w5 ⟨rfl,hb5⟩;obtain⟨x0,x1,x2,x3,x4,x5,xz⟩:=zcells (((hb2'.trans (hb5.mono hb2'.size)).block (w.heap.size+1) (by have:=H.out.2.2.2.2.2.2.2.1;omega)).trans H.out.2.2.2.2.2.2.1)))
  have hq5:=((hb2'.trans (hb5.mono hb2'.size)).block (w.heap.size+1) (by have:=H.out.2.2.2.2.2.2.2.1;omega)).trans H.out.2.2.2.2.2.2.1;have hcj:=st6_cell (.int .i64 1) nilS nilS nilS (.int .i64 0) (.int .i64 0) hq5 rfl;have y0:=hcj 0 _ rfl;have y1:=hcj 1 _ rfl;have y2:=hcj 2 _ rfl;have y3:=hcj 3 _ rfl;have y4:=hcj 4 _ rfl;have y5:=hcj 5 _ rfl;have h9:=reply_same H.out.1 (H.out.2.2.1.trans ((hb2'.trans (hb5.mono hb2'.size)).mono H.out.2.2.1.size)) hq5 (by omega) (RepOK.fail w5 w.heap.size 1);have hF:createF M c=(M,failR 1,0):=by unfold createF;rw[if_pos (.inl HNO.out)]
  rw[hF];clear x0 x1 x2 x3 x4 x5 xz hcj;change bodyPost _ _ _ _ _ (st6 w5 (w.heap.size+1) (.int .i64 1) nilS nilS nilS (.int .i64 0) (.int .i64 0));exact bodyPost_ret (v:=failV 1) (by simp[results,results36,go_sem,y0,y1,y2,y3,y4,y5]) rfl ⟨_,X,rfl,h9.1,h9.2.1,rfl,nlr,rfl,h9.2.2⟩
 have HNO:=hid hno;rw[hno] at HN;clear hno;by_cases hn0:c.n<0
 ·go_wp2_with (first
   | (go_at_call 72;refine(HN.out _).mono ?_;rintro e w4 ⟨rfl,rfl⟩)
   | (go_at_call 21;refine(failed_any 1 _).mono ?_;rintro e w5 ⟨rfl,hb5⟩;obtain⟨x0,x1,x2,x3,x4,x5,xz⟩:=zcells (((hb2'.trans (hb5.mono hb2'.size)).block (w.heap.size+1) (by have:=H.out.2.2.2.2.2.2.2.1;omega)).trans H.out.2.2.2.2.2.2.1)))
  have hq5:=((hb2'.trans (hb5.mono hb2'.size)).block (w.heap.size+1) (by have:=H.out.2.2.2.2.2.2.2.1;omega)).trans H.out.2.2.2.2.2.2.1;have hcj:=st6_cell (.int .i64 1) nilS nilS nilS (.int .i64 0) (.int .i64 0) hq5 rfl;have y0:=hcj 0 _ rfl;have y1:=hcj 1 _ rfl;have y2:=hcj 2 _ rfl;have y3:=hcj 3 _ rfl;have y4:=hcj 4 _ rfl;have y5:=hcj 5 _ rfl;have h9:=reply_same H.out.1 (H.out.2.2.1.trans ((hb2'.trans (hb5.mono hb2'.size)).mono H.out.2.2.1.size)) hq5 (by omega) (RepOK.fail w5 w.heap.size 1);have hF:createF M c=(M,failR 1,0):=by unfold createF;rw[if_pos (.inr (.inl hn0))]
  rw[hF];clear x0 x1 x2 x3 x4 x5 xz hcj;change bodyPost _ _ _ _ _ (st6 w5 (w.heap.size+1) (.int .i64 1) nilS nilS nilS (.int .i64 0) (.int .i64 0));exact bodyPost_ret (v:=failV 1) (by simp[results,results36,go_sem,y0,y1,y2,y3,y4,y5]) rfl ⟨_,X,rfl,h9.1,h9.2.1,rfl,nlr,rfl,h9.2.2⟩
 by_cases hn6:6<c.n
 ·go_wp2_with (first
   | (go_at_call 72;refine(HN.out _).mono ?_;rintro e w4 ⟨rfl,rfl⟩)
   | (go_at_call 21;refine(failed_any 1 _).mono ?_;rintro e w5 ⟨rfl,hb5⟩;obtain⟨x0,x1,x2,x3,x4,x5,xz⟩:=zcells (((hb2'.trans (hb5.mono hb2'.size)).block (w.heap.size+1) (by have:=H.out.2.2.2.2.2.2.2.1;omega)).trans H.out.2.2.2.2.2.2.1)))
  have hq5:=((hb2'.trans (hb5.mono hb2'.size)).block (w.heap.size+1) (by have:=H.out.2.2.2.2.2.2.2.1;omega)).trans H.out.2.2.2.2.2.2.1;have hcj:=st6_cell (.int .i64 1) nilS nilS nilS (.int .i64 0) (.int .i64 0) hq5 rfl;have y0:=hcj 0 _ rfl;have y1:=hcj 1 _ rfl;have y2:=hcj 2 _ rfl;have y3:=hcj 3 _ rfl;have y4:=hcj 4 _ rfl;have y5:=hcj 5 _ rfl;have h9:=reply_same H.out.1 (H.out.2.2.1.trans ((hb2'.trans (hb5.mono hb2'.size)).mono H.out.2.2.1.size)) hq5 (by omega) (RepOK.fail w5 w.heap.size 1);have hF:createF M c=(M,failR 1,0):=by unfold createF;rw[if_pos (.inr (.inr hn6))]
  rw[hF];clear x0 x1 x2 x3 x4 x5 xz hcj;change bodyPost _ _ _ _ _ (st6 w5 (w.heap.size+1) (.int .i64 1) nilS nilS nilS (.int .i64 0) (.int .i64 0));exact bodyPost_ret (v:=failV 1) (by simp[results,results36,go_sem,y0,y1,y2,y3,y4,y5]) rfl ⟨_,X,rfl,h9.1,h9.2.1,rfl,nlr,rfl,h9.2.2⟩
 have HS:=hid (fun w'=>size_any c.m c.n (by omega) (by omega) w');have hnn:¬ (nameOk c.name=false\/c.n<0\/6<c.n):=by rw[HNO.out];simp;omega
 have HNN:=hid hnn;clear hnn;cases hso:sizeOk c.m c.n
 ·have HSO:=hid hso;rw[hso] at HS;clear hso
  go_wp2_with (first
   | (go_at_call 72;refine(HN.out _).mono ?_;rintro e w4 ⟨rfl,rfl⟩)
   | (go_at_call 73;refine(HS.out _).mono ?_;rintro e w4 ⟨rfl,hw4⟩;obtain rfl:=hw4.symm)
   | (go_at_call 21;refine(failed_any 1 _).mono ?_;rintro e w5 ⟨rfl,hb5⟩;obtain⟨x0,x1,x2,x3,x4,x5,xz⟩:=zcells (((hb2'.trans (hb5.mono hb2'.size)).block (w.heap.size+1) (by have:=H.out.2.2.2.2.2.2.2.1;omega)).trans H.out.2.2.2.2.2.2.1)))
  have hq5:=((hb2'.trans (hb5.mono hb2'.size)).block (w.heap.size+1) (by have:=H.out.2.2.2.2.2.2.2.1;omega)).trans H.out.2.2.2.2.2.2.1;have hcj:=st6_cell (.int .i64 1) nilS nilS nilS (.int .i64 0) (.int .i64 0) hq5 rfl;have y0:=hcj 0 _ rfl;have y1:=hcj 1 _ rfl;have y2:=hcj 2 _ rfl;have y3:=hcj 3 _ rfl;have y4:=hcj 4 _ rfl;have y5:=hcj 5 _ rfl;have h9:=reply_same H.out.1 (H.out.2.2.1.trans ((hb2'.trans (hb5.mono hb2'.size)).mono H.out.2.2.1.size)) hq5 (by omega) (RepOK.fail w5 w.heap.size 1);have hF:createF M c=(M,failR 1,0):=by unfold createF;rw[if_neg HNN.out,if_pos HSO.out]
  rw[hF];clear x0 x1 x2 x3 x4 x5 xz hcj;change bodyPost _ _ _ _ _ (st6 w5 (w.heap.size+1) (.int .i64 1) nilS nilS nilS (.int .i64 0) (.int .i64 0));exact bodyPost_ret (v:=failV 1) (by simp[results,results36,go_sem,y0,y1,y2,y3,y4,y5]) rfl ⟨_,X,rfl,h9.1,h9.2.1,rfl,nlr,rfl,h9.2.2⟩
 have HSO:=hid hso;rw[hso] at HS;clear hso;go_upto_region 7 with(first
  | (go_at_call 72;refine(HN.out _).mono ?_;rintro e w4 ⟨rfl,rfl⟩)
  | (go_at_call 73;refine(HS.out _).mono ?_;rintro e w4 ⟨rfl,hw4⟩;obtain rfl:=hw4.symm))
 have hso':¬ sizeOk c.m c.n=false:=by rw[HSO.out];simp
 have HSO':=hid hso';clear hso' HN HS e0 e1 e2 e4 e5
 -- is there such an image?
 cases hfn:fnd M.all c.name with
 | some i0 =>
  have lk:∃ ib,∀ w',Below (w.heap.size+1) w2 w'->(Instr.lookup 57 (.map (some X.am)) (str c.name) false).run prog w' = .ok (pt ib) w':=by
   rcases H.out.1.a.at c.name (Nat.le_trans hcl (by unfold maxLen;omega)) with⟨h1,_⟩|⟨x,hx,hxn,h1,_⟩
   ·rw[hfn] at h1;cases h1
   ·exact⟨x.ib,fun w' hB=>by rw[<-hxn];exact(bel w' hB).a.atx hx⟩
  obtain⟨ib,lk⟩:=lk;have HFN:=hid hfn;clear hfn
  go_region_held (fun w'=>Below (w.heap.size+1) w2 w') (first|with_reducible exact(hwb _ hb2').drew|with_reducible assumption|exact Below.drew (by assumption)) (fail)
  obtain⟨w3,hw3⟩:∃ z,z=w2.drew:=⟨_,rfl⟩
  have hb3:Below w2.heap.size w2 w3:=by rw[hw3];exact hb2'.drew
  rw[<-hw3];clear hw3 lk
  go_wp2_with (go_at_call 21;refine(failed_any 5 _).mono ?_;rintro e w5 ⟨rfl,hb5⟩;obtain⟨x0,x1,x2,x3,x4,x5,xz⟩:=zcells (((hb3.trans (hb5.mono hb3.size)).block (w.heap.size+1) (by have:=H.out.2.2.2.2.2.2.2.1;omega)).trans H.out.2.2.2.2.2.2.1))
  have hq5:=((hb3.trans (hb5.mono hb3.size)).block (w.heap.size+1) (by have:=H.out.2.2.2.2.2.2.2.1;omega)).trans H.out.2.2.2.2.2.2.1;have hcj:=st6_cell (.int .i64 5) nilS nilS nilS (.int .i64 0) (.int .i64 0) hq5 rfl;have y0:=hcj 0 _ rfl;have y1:=hcj 1 _ rfl;have y2:=hcj 2 _ rfl;have y3:=hcj 3 _ rfl;have y4:=hcj 4 _ rfl;have y5:=hcj 5 _ rfl;have h9:=reply_same H.out.1 (H.out.2.2.1.trans ((hb3.trans (hb5.mono hb3.size)).mono H.out.2.2.1.size)) hq5 (by omega) (RepOK.fail w5 w.heap.size 5);have hF:createF M c=(M,failR 5,0):=by unfold createF;rw[if_neg HNN.out,if_neg HSO'.out,if_pos (by rw[HFN.out];rfl)]
  rw[hF];clear x0 x1 x2 x3 x4 x5 xz hcj;change bodyPost _ _ _ _ _ (st6 w5 (w.heap.size+1) (.int .i64 5) nilS nilS nilS (.int .i64 0) (.int .i64 0));exact bodyPost_ret (v:=failV 5) (by simp[results,results36,go_sem,y0,y1,y2,y3,y4,y5]) rfl ⟨_,X,rfl,h9.1,h9.2.1,rfl,nlr,rfl,h9.2.2⟩
 | none =>
  have lk:∀ w',Below (w.heap.size+1) w2 w'->(Instr.lookup 57 (.map (some X.am)) (str c.name) false).run prog w' = .ok (.pointer none) w':=fun w' hB=>by
   rcases(bel w' hB).a.at c.name (Nat.le_trans hcl (by unfold maxLen;omega)) with⟨_,h1⟩|⟨x,hx,hxn,h1,_⟩
   ·exact h1
   ·rw[hfn] at h1;cases h1
  have HFN:=hid (show ¬ (fnd M.all c.name).isSome=true by rw[hfn];simp);have HFN2:=hid hfn;clear hfn
  go_region_held (fun w'=>Below (w.heap.size+1) w2 w') (first|with_reducible exact(hwb _ hb2').drew|with_reducible assumption|exact Below.drew (by assumption)) (fail)
  obtain⟨w3,hw3⟩:∃ z,z=w2.drew:=⟨_,rfl⟩
  have hb3:Below w2.heap.size w2 w3:=by rw[hw3];exact hb2'.drew
  rw[<-hw3];clear hw3;obtain⟨L,hL⟩:∃ L,L=M.all.length:=⟨_,rfl⟩
  have hlen:(Builtin.len_ #[57] 3 #[.map (some X.am)]).run prog w3 = .ok (.int .i64 (L:Int)) w3:=by
   have hA3:=(bel w3 (hwb _ hb3)).a;have h1:=hA3.g.len (t:=57) underlying57 3;rw[List.length_map,hA3.len,<-hL] at h1;exact h1
  have HL:=hid hL;clear hL;have g0:=f0 w3 (hwb _ hb3);by_cases h16:(16:Int)<=(L:Int)
  ·go_wp2_with (go_at_call 21;refine(failed_any 9 _).mono ?_;rintro e w5 ⟨rfl,hb5⟩;obtain⟨x0,x1,x2,x3,x4,x5,xz⟩:=zcells (((hb3.trans (hb5.mono hb3.size)).block (w.heap.size+1) (by have:=H.out.2.2.2.2.2.2.2.1;omega)).trans H.out.2.2.2.2.2.2.1))
   have hq5:=((hb3.trans (hb5.mono hb3.size)).block (w.heap.size+1) (by have:=H.out.2.2.2.2.2.2.2.1;omega)).trans H.out.2.2.2.2.2.2.1;have hcj:=st6_cell (.int .i64 9) nilS nilS nilS (.int .i64 0) (.int .i64 0) hq5 rfl;have y0:=hcj 0 _ rfl;have y1:=hcj 1 _ rfl;have y2:=hcj 2 _ rfl;have y3:=hcj 3 _ rfl;have y4:=hcj 4 _ rfl;have y5:=hcj 5 _ rfl;have h9:=reply_same H.out.1 (H.out.2.2.1.trans ((hb3.trans (hb5.mono hb3.size)).mono H.out.2.2.1.size)) hq5 (by omega) (RepOK.fail w5 w.heap.size 9);have hF:createF M c=(M,failR 9,0):=by unfold createF;rw[if_neg HNN.out,if_neg HSO'.out,if_neg HFN.out,if_pos (by have:=HL.out;omega)]
   rw[hF];clear x0 x1 x2 x3 x4 x5 xz hcj;change bodyPost _ _ _ _ _ (st6 w5 (w.heap.size+1) (.int .i64 9) nilS nilS nilS (.int .i64 0) (.int .i64 0));exact bodyPost_ret (v:=failV 9) (by simp[results,results36,go_sem,y0,y1,y2,y3,y4,y5]) rfl ⟨_,X,rfl,h9.1,h9.2.1,rfl,nlr,rfl,h9.2.2⟩
  have h16':¬ 16<=M.all.length:=by have:=HL.out;omega
  have H16:=hid h16';clear h16';go_upto_region 11 with(fail)
  clear g0 hlen;obtain⟨R,hR⟩:∃ R,R=(!decide (c.tt=[])&&decide (fnd M.all c.tt=none)):=⟨_,rfl⟩
  have HR:=hid hR;clear hR;have g0:=f0 w3 (hwb _ hb3);have g2:=f2 w3 (hwb _ hb3)
  go_cut [45] from 46 (fun s45 wx=>s45 = .bool R/\Below w2.heap.size w2 wx)
  case first =>
   have HB3:=hid (fun n=>below_drewN hb3 n);by_cases hto:c.tt=[]
   ·have hRf:R=false:=by rw[HR.out];simp[hto]
    have et:(c.tt==[])=true:=by simpa using hto
    rw[hto] at g2;clear hto
    go_quiet (fail)
    go_wp2_with fail
    go_meet
    case rel=>exact⟨by rw[hRf],HB3.out nq⟩
   ·have et:(c.tt==[])=false:=by simpa using hto
    cases hft:fnd M.all c.tt with
    | none =>
     have hRf:R=true:=by rw[HR.out];simp[hto,hft]
     have lk:∀ n,(Instr.lookup 57 (.map (some X.am)) (str c.tt) false).run prog (w3.drewN n) = .ok (.pointer none) (w3.drewN n):=fun n=>by
      rcases(bel _ (hwb _ (HB3.out n))).a.at c.tt (Nat.le_trans htl (by unfold maxLen;omega)) with⟨_,h1⟩|⟨x,hx,hxn,h1,_⟩
      ·exact h1
      ·rw[hft] at h1;cases h1
     clear hto hft
     go_quiet (fail)
     go_wp2_with fail
     go_meet
     case rel=>exact⟨by rw[hRf],HB3.out nq⟩
    | some i0 =>
     have hRf:R=false:=by rw[HR.out];simp[hft]
     have lk:∃ ib,∀ n,(Instr.lookup 57 (.map (some X.am)) (str c.tt) false).run prog (w3.drewN n) = .ok (pt ib) (w3.drewN n):=by
      rcases H.out.1.a.at c.tt (Nat.le_trans htl (by unfold maxLen;omega)) with⟨h1,_⟩|⟨x,hx,hxn,h1,_⟩
      ·rw[hft] at h1;cases h1
      ·exact⟨x.ib,fun n=>by rw[<-hxn];exact(bel _ (hwb _ (HB3.out n))).a.atx hx⟩
     obtain⟨ib,lk⟩:=lk;clear hto hft
     go_quiet (fail)
     go_wp2_with fail
     go_meet
     case rel=>exact⟨by rw[hRf],HB3.out nq⟩
  case rest =>
   obtain⟨rfl,hbc⟩:=hcut;clear g0 g2;cases R
   ·have hnt:¬ (c.tt≠[]/\fnd M.all c.tt=none):=by have:=HR.out;intro h;simp[h.1,h.2] at this
    have HNT:=hid hnt;clear hnt;have HBK:=hid (backs_any (bel wc (hwb _ hbc)).mod0 (bel wc (hwb _ hbc)).a (by rw[(bel wc (hwb _ hbc)).a.len];have:=H16.out;omega));obtain⟨E,hE⟩:∃ E,E=standsM (backsB M.all c.name c.tt) c.name:=⟨_,rfl⟩
    have HEE:=hid hE;clear hE;go_upto_region 14 with(go_at_call 74;refine HBK.out.mono ?_;rintro e w5 ⟨rfl,l5,hg5,hp5,hb5⟩)
    have hb25:Below w2.heap.size w2 w5:=hbc.trans (hb5.mono hbc.size);have hl5:l5.length<maxLen:=by
     have h1:=hp5.length_eq;rw[List.length_map,(bel wc (hwb _ hbc)).a.len] at h1;have:=H16.out;unfold maxLen;omega
    obtain⟨w6,hrun,hg6,hgr6,hs6,hf6⟩:=hg5.upd K9 (t:=127) underlying127 c.name (Nat.le_trans hcl (by unfold maxLen;omega)) (str c.tt) rfl hl5;have hrun':(Instr.mapUpdate 127 (.map (some wc.heap.size)) (str c.name) (str c.tt)).run prog w5 = .ok () w6:=hrun;have hb26:Below w2.heap.size w2 w6:=hb25.grown hgr6 hb25.size fun k hk=>by cases hk;exact hbc.size
    have hlkB:∀ n,Mx.look (Mx.upd l5 c.name (str c.tt)) n=(backsB M.all c.name c.tt n).map fun b=>str b:=fun n=>by
     rw[look_upd];unfold backsB;by_cases e:n=c.name
     ·rw[if_pos e,if_pos e];rfl
     ·rw[if_neg e,if_neg e,look_perm hp5 hg5.nodup];exact look_backs (bel wc (hwb _ hbc)).a n
    have hBb:∀ n b,backsB M.all c.name c.tt n=some b->b.length<=1000:=fun n b hb=>by
     unfold backsB at hb;split at hb
     ·cases hb;omega
     ·cases hf:fnd M.all n with
      | none=>rw[hf] at hb;cases hb
      | some i=>rw[hf] at hb;cases hb;exact Nat.le_trans ((bel wc (hwb _ hbc)).a.oks n i hf).nb (by omega)
    have HST:=hid (stands_any (backsB M.all c.name c.tt) hg6 hlkB hBb c.name (by omega));rw[<-HEE.out] at HST;have g1:=f1 w5 (hwb _ hb25);have g2:=f2 w5 (hwb _ hb25);have g1':=f1 w6 (hwb _ hb26);have HG:=jd2 hb26 hbc;clear hp5 hb5 hb25 hg5 hl5 hrun hg6 hgr6 hs6 hf6 hlkB hBb hbc hb26 HBK;go_upto_region 16 with(go_at_call 75;refine HST.out.mono ?_;rintro e w7 ⟨rfl,hb7⟩)
    have hb27:Below w2.heap.size w2 w7:=HG.out.1.trans (hb7.mono HG.out.1.size);clear g1 g2 g1' hb7 HST;by_cases hE0:E=0
    ·have eE:(E==0)=true:=by simpa using hE0
     have hb07:Below w.heap.size w w7:=H.out.2.2.1.trans (hb27.mono H.out.2.2.1.size);have hMO7:=bel w7 (hwb _ hb27);have hrb7:=(hb27.block (w.heap.size+1) (by have:=H.out.2.2.2.2.2.2.2.1;omega)).trans H.out.2.2.2.2.2.2.1;have hbx7:w7.heap[w.heap.size]? = some (.cells #[.int .i64 c.kind,str c.name,str c.tt,.int .i64 c.a,.int .i64 c.n,.int .i64 c.m,.slice da dn dc] 25 (0,0)):=(hb27.block w.heap.size (by have:=H.out.2.2.2.2.2.2.2.1;omega)).trans HQ1.out;have hlt:=H.out.1.lt;have hnr:w.heap.size∉X.fp mb/\w.heap.size+1∉X.fp mb:=⟨fun hm=>by have:=hlt _ hm;omega,fun hm=>by have:=hlt _ hm;omega⟩
     have hksl:X.ks.length<=16:=by rw[H.out.1.k.len];exact H.out.2.2.2.1.kl
     have hfr0:X.fr.length<=10:=H.out.2.2.2.2.2.2.2.2.2.2.2;have g2:=f2 w7 (hwb _ hb27);by_cases hto:c.tt=[]
     ·have et:(c.tt==[])=true:=by simpa using hto
      have HF9:=hid (show createF M c=(flushM {M with all:=setI M.all c.name ⟨c.n.toNat,c.m.toNat,c.tt,fun _=>none,[],[]⟩} c.name,{},0+1) by
       unfold createF;rw[if_neg HNN.out,if_neg HSO'.out,if_neg HFN.out,if_neg H16.out,if_neg HNT.out,if_neg (by rw[<-HEE.out,hE0];simp)];simp only[if_pos hto])
      obtain⟨w8,hw8⟩:∃ z:World,z=w7:=⟨_,rfl⟩
      subst hw8;obtain⟨X8,hX8⟩:∃ z:MX,z=X:=⟨_,rfl⟩
      have hH8:MO w8 base mb M X8/\Stp w w8 (X.fp mb) (X8.fp mb)/\M.all.length<=100/\w8.heap[w.heap.size]? = some (.cells #[.int .i64 c.kind,str c.name,str c.tt,.int .i64 c.a,.int .i64 c.n,.int .i64 c.m,.slice da dn dc] 25 (0,0))/\w8.heap[w.heap.size+1]? = some (.cells zrep 34 (0,0))/\(X8.fr.length+1=X.fr.length+(0+1)/\X8.fr.length<=100)/\X8.cl.length<=X.cl.length/\X8.dm=X.dm/\X8.ks.length<=50/\(w.heap.size∉X8.fp mb/\w.heap.size+1∉X8.fp mb):=by
       rw[hX8];exact⟨hMO7,Stp.of_below hb07 _,by have:=H.out.2.2.2.1.le;omega,hbx7,hrb7,⟨by omega,by omega⟩,nlr,rfl,by omega,hnr⟩
      have H8:=hid hH8;have HRB:=hid hrb7;clear hb07 hMO7 hrb7 hbx7 hlt hnr hksl hfr0 hX8 hH8 hto;obtain⟨hMO8,hst8,hM1,hbx,hrb,hfr8,hcl8,hdm8,hks8,hnr8⟩:=H8.out;obtain⟨w9,hrun9,hk9,y,hyn,hym,hMO9,hst9⟩:=new_img hMO8 hM1 (cn:=c.n) (cm:=c.m) (by omega) (by omega) HSO.out hcl htl (nm:=c.name) (tt:=c.tt);have hrun9':(Instr.mapUpdate 57 (.map (some X8.am)) (str c.name) (pt (w8.heap.size+1))).run prog (((w8.alloc (.map #[] 0)).alloc (.cells #[.int .i64 c.n,.int .i64 c.m,str c.tt,.map (some w8.heap.size),.slice none 0 0,.slice none 0 0] 87)).drew) = .ok () w9:=hrun9;have hap8:=Ap.of hMO8.nd;have ham8:X8.am<w8.heap.size:=hMO8.a.g.lt;have hamF:X8.am∈X8.fp mb:=MX.mem.2 (.inr (.inr (.inr (.inr (.inl (List.mem_cons_self ..))))));have hbam:w.heap.size≠X8.am:=fun e=>hnr8.1 (e▸hamF);have hram:w.heap.size+1≠X8.am:=fun e=>hnr8.2 (e▸hamF)
      have hmam:mb≠X8.am:=fun e=>(hap8.a mb (e▸List.mem_cons_self ..)).1 rfl;have hblt:w.heap.size<w8.heap.size:=blk_lt hbx;have hcB:∀ (j:Nat) v,(#[Value.int .i64 c.kind,str c.name,str c.tt,.int .i64 c.a,.int .i64 c.n,.int .i64 c.m,.slice da dn dc]:Array Value)[j]? = some v->∀ W,Kept w8 W (·≠X8.am)->W.cell? ⟨w.heap.size,j,none⟩=some v:=fun j v hv W hK=>by
       rw[hK.cell hblt hbam];simp[World.cell?,hbx,hv]
      have q1:=hcB 1 _ rfl;have q2:=hcB 2 _ rfl;have q4:=hcB 4 _ rfl;have q5:=hcB 5 _ rfl;have q0:∀ W,Kept w8 W (·≠X8.am)->W.cell? ⟨mb,0,none⟩=some (.map (some X8.am)):=fun W hK=>(hK.cell (blk_lt hMO8.ck) hmam).trans hMO8.cells.1;have hkr:Kept w8 w8 (·≠X8.am):=Kept.refl _ _;have hmm := @run_makeMap prog;have q1':=q1 w9 hk9;have hq9:w9.heap[w.heap.size+1]? = some (.cells zrep 34 (0,0)):=(hk9.block _ (blk_lt hrb) hram).trans hrb;have hFL:=flush_any hMO9 (Nat.le_trans H.out.2.2.2.2.2.2.2.2.2.2.1 (Nat.le_trans hst8.k.size hk9.size)) hym (Nat.le_trans hks8 (by omega)) (by have:X8.fr.length<=100:=hfr8.2;show X8.fr.length<=1000000;omega);rw[hyn] at hFL;have HFL:=hid hFL;have H9:=jd9 hMO9 hst9 hst8 hq9 hnr8 hblt hfr8.1 hcl8 hdm8;clear hMO8 hst8 hM1 hbx hrb hfr8 hcl8 hdm8 hks8 hnr8 hMO9 hst9 hq9 hFL hap8 ham8 hamF hbam hram hmam hblt hcB hym H8;go_upto_region 20 with(fail)
      go_region_held (fun W=>Kept w8 W (·≠X8.am)) (first|with_reducible exact Kept.drew _ _|with_reducible assumption|with_reducible exact hk9|with_reducible exact Kept.trans (by assumption) (Kept.drew _ _)|with_reducible exact Kept.trans (by assumption) (Kept.alloc _ _ _)) (fail)
      clear q0 q1 q2 q4 q5 hrun9 hrun9'
      go_wp2_with (go_at_call 77;refine HFL.out.mono ?_;rintro e w10 ⟨rfl,X10,hMO10,ha10,hx10,hk10,hf10,hd10,hc10,hst10⟩;obtain⟨x0,x1,x2,x3,x4,x5,xz⟩:=zcells ((hst10.k.block (w.heap.size+1) (blk_lt H9.out.2.2.2.1) (fun hm=>(H9.out.2.1.n _ hm).elim H9.out.2.2.2.2.1.2 (fun h=>by have:=H9.out.2.2.2.2.2.1;have h2:=blk_lt HRB.out;omega))).trans H9.out.2.2.2.1))
      have hnm9:w.heap.size+1∉MX.fp mb {X8 with xs:=putX X8.xs y}:=fun hm=>(H9.out.2.1.n _ hm).elim H9.out.2.2.2.2.1.2 (fun h=>by have h2:=blk_lt HRB.out;omega);have hq10:=(hst10.k.block (w.heap.size+1) (blk_lt H9.out.2.2.2.1) hnm9).trans H9.out.2.2.2.1;have hst:=(H9.out.2.2.1.trans H9.out.2.1).trans hst10;have h9:=reply_ok hMO10 hst hq10 (by omega) (fun hm=>(hst10.n _ hm).elim hnm9 (fun h=>by have h2:=blk_lt H9.out.2.2.2.1;omega));have hcj:=st6_cell (.int .i64 0) nilS nilS nilS (.int .i64 0) (.int .i64 0) hq10 rfl;have y0:=hcj 0 _ rfl;have y1:=hcj 1 _ rfl;have y2:=hcj 2 _ rfl;have y3:=hcj 3 _ rfl;have y4:=hcj 4 _ rfl;have y5:=hcj 5 _ rfl;rw[HF9.out];have hfin1:=H9.out.2.2.2.2.2.2.1;have hfin2:=H9.out.2.2.2.2.2.2.2.1;have hfin3:=H9.out.2.2.2.2.2.2.2.2;clear x0 x1 x2 x3 x4 x5 xz hcj
      change bodyPost _ _ _ _ _ (st6 w10 (w.heap.size+1) (.int .i64 0) nilS nilS nilS (.int .i64 0) (.int .i64 0));exact bodyPost_ret (v:=failV 0) (by simp[results,results36,go_sem,y0,y1,y2,y3,y4,y5]) rfl ⟨_,X10,rfl,h9.1,h9.2.1,hd10.trans hfin3,Nat.le_trans hc10 hfin2,(by rw[hf10];show X8.fr.length+1=_;rw[hfin1]),h9.2.2⟩
     ·have et:(c.tt==[])=false:=by simpa using hto
      have HF9:=hid (show createF M c=(flushM {flushedM M c.tt with all:=setI (flushedM M c.tt).all c.name ⟨c.n.toNat,c.m.toNat,c.tt,fun _=>none,[],[]⟩} c.name,{},flushedN M c.tt+1) by
       unfold createF;rw[if_neg HNN.out,if_neg HSO'.out,if_neg HFN.out,if_neg H16.out,if_neg HNT.out,if_neg (by rw[<-HEE.out,hE0];simp)];simp only[if_neg hto])
      obtain⟨xt,hxt,hxtn⟩:∃ x∈X.xs,x.n=c.tt:=by
       cases hft:fnd M.all c.tt with
       | none=>exact absurd ⟨hto,hft⟩ HNT.out
       | some i0=>exact List.mem_map.1 ((H.out.1.a.names_S c.tt).1 (by rw[hft];rfl))
      have hFD:=flushed_any hMO7 (Nat.le_trans H.out.2.2.2.2.2.2.2.2.2.2.1 hb07.size) hxt (by omega) (by omega);rw[hxtn] at hFD;have HFD:=hid hFD;have hall:(flushedM M c.tt).all.length<=100:=by
       have:(flushedM M c.tt).all=M.all:=by unfold flushedM flushM;split<;>(try split)<;>rfl
       rw[this];have:=H.out.2.2.2.1.le;omega
      have H7:=jd7 hb07 hrb7 hbx7 hnr hksl hfr0 hall;clear hb07 hMO7 hrb7 hbx7 hlt hnr hksl hfr0 hFD hto hall;go_upto_region 20 with(go_at_call 76;refine HFD.out.mono ?_;rintro e w8 ⟨rfl,X8,hMO8,ha8,hx8,hk8,hf8,hd8,hc8,hst78⟩)
      obtain⟨hb07,hrb7,hbx7,hnr,hksl,hfr0,hall⟩:=H7.out;have hb1:=(hst78.k.block w.heap.size (blk_lt hbx7) hnr.1).trans hbx7;have hb2:=(hst78.k.block (w.heap.size+1) (blk_lt hrb7) hnr.2).trans hrb7;have hfn1:flushedN M c.tt<=1:=by unfold flushedN;split<;>omega
      have H8:=hid (show MO w8 base mb (flushedM M c.tt) X8/\Stp w w8 (X.fp mb) (X8.fp mb)/\(flushedM M c.tt).all.length<=100/\w8.heap[w.heap.size]? = some (.cells #[.int .i64 c.kind,str c.name,str c.tt,.int .i64 c.a,.int .i64 c.n,.int .i64 c.m,.slice da dn dc] 25 (0,0))/\w8.heap[w.heap.size+1]? = some (.cells zrep 34 (0,0))/\(X8.fr.length+1=X.fr.length+(flushedN M c.tt+1)/\X8.fr.length<=100)/\X8.cl.length<=X.cl.length/\X8.dm=X.dm/\X8.ks.length<=50/\(w.heap.size∉X8.fp mb/\w.heap.size+1∉X8.fp mb) from
       ⟨hMO8,(Stp.of_below hb07 _).trans hst78,hall,hb1,hb2,⟨by omega,by omega⟩,hc8,hd8,by omega,⟨fun hm=>(hst78.n _ hm).elim hnr.1 (fun h=>by have:=blk_lt hbx7;omega),fun hm=>(hst78.n _ hm).elim hnr.2 (fun h=>by have:=blk_lt hrb7;omega)⟩⟩)
      have HRB:=hid hb2;clear hb07 hrb7 hbx7 hnr hksl hfr0 hall hb1 hb2 hfn1 hMO8 ha8 hx8 hk8 hf8 hd8 hc8 hst78;obtain⟨hMO8,hst8,hM1,hbx,hrb,hfr8,hcl8,hdm8,hks8,hnr8⟩:=H8.out;obtain⟨w9,hrun9,hk9,y,hyn,hym,hMO9,hst9⟩:=new_img hMO8 hM1 (cn:=c.n) (cm:=c.m) (by omega) (by omega) HSO.out hcl htl (nm:=c.name) (tt:=c.tt);have hrun9':(Instr.mapUpdate 57 (.map (some X8.am)) (str c.name) (pt (w8.heap.size+1))).run prog (((w8.alloc (.map #[] 0)).alloc (.cells #[.int .i64 c.n,.int .i64 c.m,str c.tt,.map (some w8.heap.size),.slice none 0 0,.slice none 0 0] 87)).drew) = .ok () w9:=hrun9;have hap8:=Ap.of hMO8.nd;have ham8:X8.am<w8.heap.size:=hMO8.a.g.lt;have hamF:X8.am∈X8.fp mb:=MX.mem.2 (.inr (.inr (.inr (.inr (.inl (List.mem_cons_self ..))))));have hbam:w.heap.size≠X8.am:=fun e=>hnr8.1 (e▸hamF);have hram:w.heap.size+1≠X8.am:=fun e=>hnr8.2 (e▸hamF)
      have hmam:mb≠X8.am:=fun e=>(hap8.a mb (e▸List.mem_cons_self ..)).1 rfl;have hblt:w.heap.size<w8.heap.size:=blk_lt hbx;have hcB:∀ (j:Nat) v,(#[Value.int .i64 c.kind,str c.name,str c.tt,.int .i64 c.a,.int .i64 c.n,.int .i64 c.m,.slice da dn dc]:Array Value)[j]? = some v->∀ W,Kept w8 W (·≠X8.am)->W.cell? ⟨w.heap.size,j,none⟩=some v:=fun j v hv W hK=>by
       rw[hK.cell hblt hbam];simp[World.cell?,hbx,hv]
      have q1:=hcB 1 _ rfl;have q2:=hcB 2 _ rfl;have q4:=hcB 4 _ rfl;have q5:=hcB 5 _ rfl;have q0:∀ W,Kept w8 W (·≠X8.am)->W.cell? ⟨mb,0,none⟩=some (.map (some X8.am)):=fun W hK=>(hK.cell (blk_lt hMO8.ck) hmam).trans hMO8.cells.1;have hkr:Kept w8 w8 (·≠X8.am):=Kept.refl _ _;have hmm := @run_makeMap prog;have q1':=q1 w9 hk9;have hq9:w9.heap[w.heap.size+1]? = some (.cells zrep 34 (0,0)):=(hk9.block _ (blk_lt hrb) hram).trans hrb;have hFL:=flush_any hMO9 (Nat.le_trans H.out.2.2.2.2.2.2.2.2.2.2.1 (Nat.le_trans hst8.k.size hk9.size)) hym (Nat.le_trans hks8 (by omega)) (by have:X8.fr.length<=100:=hfr8.2;show X8.fr.length<=1000000;omega);rw[hyn] at hFL;have HFL:=hid hFL;have H9:=jd9 hMO9 hst9 hst8 hq9 hnr8 hblt hfr8.1 hcl8 hdm8;clear hMO8 hst8 hM1 hbx hrb hfr8 hcl8 hdm8 hks8 hnr8 hMO9 hst9 hq9 hFL hap8 ham8 hamF hbam hram hmam hblt hcB hym H8
      go_region_held (fun W=>Kept w8 W (·≠X8.am)) (first|with_reducible exact Kept.drew _ _|with_reducible assumption|with_reducible exact hk9|with_reducible exact Kept.trans (by assumption) (Kept.drew _ _)|with_reducible exact Kept.trans (by assumption) (Kept.alloc _ _ _)) (fail)
      clear q0 q1 q2 q4 q5 hrun9 hrun9'
      go_wp2_with (go_at_call 77;refine HFL.out.mono ?_;rintro e w10 ⟨rfl,X10,hMO10,ha10,hx10,hk10,hf10,hd10,hc10,hst10⟩;obtain⟨x0,x1,x2,x3,x4,x5,xz⟩:=zcells ((hst10.k.block (w.heap.size+1) (blk_lt H9.out.2.2.2.1) (fun hm=>(H9.out.2.1.n _ hm).elim H9.out.2.2.2.2.1.2 (fun h=>by have:=H9.out.2.2.2.2.2.1;have h2:=blk_lt HRB.out;omega))).trans H9.out.2.2.2.1))
      have hnm9:w.heap.size+1∉MX.fp mb {X8 with xs:=putX X8.xs y}:=fun hm=>(H9.out.2.1.n _ hm).elim H9.out.2.2.2.2.1.2 (fun h=>by have h2:=blk_lt HRB.out;omega);have hq10:=(hst10.k.block (w.heap.size+1) (blk_lt H9.out.2.2.2.1) hnm9).trans H9.out.2.2.2.1;have hst:=(H9.out.2.2.1.trans H9.out.2.1).trans hst10;have h9:=reply_ok hMO10 hst hq10 (by omega) (fun hm=>(hst10.n _ hm).elim hnm9 (fun h=>by have h2:=blk_lt H9.out.2.2.2.1;omega));have hcj:=st6_cell (.int .i64 0) nilS nilS nilS (.int .i64 0) (.int .i64 0) hq10 rfl;have y0:=hcj 0 _ rfl;have y1:=hcj 1 _ rfl;have y2:=hcj 2 _ rfl;have y3:=hcj 3 _ rfl;have y4:=hcj 4 _ rfl;have y5:=hcj 5 _ rfl;rw[HF9.out];have hfin1:=H9.out.2.2.2.2.2.2.1;have hfin2:=H9.out.2.2.2.2.2.2.2.1;have hfin3:=H9.out.2.2.2.2.2.2.2.2;clear x0 x1 x2 x3 x4 x5 xz hcj
      change bodyPost _ _ _ _ _ (st6 w10 (w.heap.size+1) (.int .i64 0) nilS nilS nilS (.int .i64 0) (.int .i64 0));exact bodyPost_ret (v:=failV 0) (by simp[results,results36,go_sem,y0,y1,y2,y3,y4,y5]) rfl ⟨_,X10,rfl,h9.1,h9.2.1,hd10.trans hfin3,Nat.le_trans hc10 hfin2,(by rw[hf10];show X8.fr.length+1=_;rw[hfin1]),h9.2.2⟩
    ·have eE:(E==0)=false:=by simpa using hE0
     go_wp2_with (go_at_call 21;refine(failed_any E _).mono ?_;rintro e w5 ⟨rfl,hb5⟩;obtain⟨x0,x1,x2,x3,x4,x5,xz⟩:=zcells (((hb27.trans (hb5.mono hb27.size)).block (w.heap.size+1) (by have:=H.out.2.2.2.2.2.2.2.1;omega)).trans H.out.2.2.2.2.2.2.1))
     have hq5:=((hb27.trans (hb5.mono hb27.size)).block (w.heap.size+1) (by have:=H.out.2.2.2.2.2.2.2.1;omega)).trans H.out.2.2.2.2.2.2.1;have hcj:=st6_cell (.int .i64 E) nilS nilS nilS (.int .i64 0) (.int .i64 0) hq5 rfl;have y0:=hcj 0 _ rfl;have y1:=hcj 1 _ rfl;have y2:=hcj 2 _ rfl;have y3:=hcj 3 _ rfl;have y4:=hcj 4 _ rfl;have y5:=hcj 5 _ rfl;have h9:=reply_same H.out.1 (H.out.2.2.1.trans ((hb27.trans (hb5.mono hb27.size)).mono H.out.2.2.1.size)) hq5 (by omega) (RepOK.fail w5 w.heap.size E);have hF:createF M c=(M,failR E,0):=by unfold createF;rw[if_neg HNN.out,if_neg HSO'.out,if_neg HFN.out,if_neg H16.out,if_neg HNT.out,if_pos (by rw[<-HEE.out];exact hE0),<-HEE.out]
     rw[hF];clear x0 x1 x2 x3 x4 x5 xz hcj;change bodyPost _ _ _ _ _ (st6 w5 (w.heap.size+1) (.int .i64 E) nilS nilS nilS (.int .i64 0) (.int .i64 0));exact bodyPost_ret (v:=failV E) (by simp[results,results36,go_sem,y0,y1,y2,y3,y4,y5]) rfl ⟨_,X,rfl,h9.1,h9.2.1,rfl,nlr,rfl,h9.2.2⟩
   ·go_wp2_with (go_at_call 21;refine(failed_any 4 _).mono ?_;rintro e w5 ⟨rfl,hb5⟩;obtain⟨x0,x1,x2,x3,x4,x5,xz⟩:=zcells (((hbc.trans (hb5.mono hbc.size)).block (w.heap.size+1) (by have:=H.out.2.2.2.2.2.2.2.1;omega)).trans H.out.2.2.2.2.2.2.1))
    have hq5:=((hbc.trans (hb5.mono hbc.size)).block (w.heap.size+1) (by have:=H.out.2.2.2.2.2.2.2.1;omega)).trans H.out.2.2.2.2.2.2.1;have hcj:=st6_cell (.int .i64 4) nilS nilS nilS (.int .i64 0) (.int .i64 0) hq5 rfl;have y0:=hcj 0 _ rfl;have y1:=hcj 1 _ rfl;have y2:=hcj 2 _ rfl;have y3:=hcj 3 _ rfl;have y4:=hcj 4 _ rfl;have y5:=hcj 5 _ rfl;have h9:=reply_same H.out.1 (H.out.2.2.1.trans ((hbc.trans (hb5.mono hbc.size)).mono H.out.2.2.1.size)) hq5 (by omega) (RepOK.fail w5 w.heap.size 4);have hF:createF M c=(M,failR 4,0):=by unfold createF;rw[if_neg HNN.out,if_neg HSO'.out,if_neg HFN.out,if_neg H16.out,if_pos (by have:=HR.out;simp at this;exact this)]
    rw[hF];clear x0 x1 x2 x3 x4 x5 xz hcj;change bodyPost _ _ _ _ _ (st6 w5 (w.heap.size+1) (.int .i64 4) nilS nilS nilS (.int .i64 0) (.int .i64 0));exact bodyPost_ret (v:=failV 4) (by simp[results,results36,go_sem,y0,y1,y2,y3,y4,y5]) rfl ⟨_,X,rfl,h9.1,h9.2.1,rfl,nlr,rfl,h9.2.2⟩
end Go.Proofs.YtgkabcaodnofnaaGreat
