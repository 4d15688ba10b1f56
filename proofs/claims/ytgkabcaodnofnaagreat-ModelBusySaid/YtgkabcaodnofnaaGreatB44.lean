import Derived.Test.YtgkabcaodnofnaaGreatB02
import Derived.Test.YtgkabcaodnofnaaGreatB43
import Derived.Test.YtgkabcaodnofnaaGreatB10
import Derived.Test.YtgkabcaodnofnaaGreatB16
set_option linter.unusedSimpArgs false
set_option linter.unusedVariables false
set_option maxRecDepth 100000
set_option maxHeartbeats 3000000
open Go.Proofs.Tryz
namespace Go.Proofs.YtgkabcaodnofnaaGreat
open Go.RowKit Go.Mx Go.Md
theorem info92:(prog.info? 92).map (fun i=>(i.zero,i.size,i.bytes))=some (some (.agg #[.string ⟨#[]⟩,.slice none 0 0]),2,40):=by kernel_rfl
theorem info45:(prog.info? 45).map (fun i=>(i.zero,i.size,i.bytes))=some (some (.agg #[.string ⟨#[]⟩,.int .i64 0,.string ⟨#[]⟩,.slice none 0 0,.slice none 0 0,.slice none 0 0]),6,112):=by kernel_rfl
structure BV (w6 wr:World)(bx base:Nat)(g:VG):Prop where
 b:Below w6.heap.size w6 wr
 q:wr.heap[bx]? = some (.cells #[str g.v.name,.int .i64 g.v.cl,str g.v.back,g.dv,g.sv,g.mv] 45 (0,0))
 v:VIn wr w6.heap.size base g
 g:w6.heap.size<=bx
variable {w6 wr w7 w':World}{bx base:Nat}{g:VG}
theorem BV.below (h:BV w6 wr bx base g)(hb:Below wr.heap.size wr w'):BV w6 w' bx base g :=
 ⟨h.b.trans (hb.mono h.b.size),(hb.block bx (blk_lt h.q)).trans h.q,h.v.below hb,h.g⟩
theorem BV.cells (h:BV w6 wr bx base g):wr.cell? ⟨bx,0,none⟩=some (str g.v.name)/\wr.cell? ⟨bx,1,none⟩=some (.int .i64 g.v.cl)/\wr.cell? ⟨bx,2,none⟩=some (str g.v.back)/\wr.cell? ⟨bx,3,none⟩=some g.dv/\wr.cell? ⟨bx,4,none⟩=some g.sv/\wr.cell? ⟨bx,5,none⟩=some g.mv/\wr.frozen? ⟨bx,4,none⟩=false:=by
 have h:=h.q;refine⟨?_,?_,?_,?_,?_,?_,?_⟩<;>simp[World.cell?,World.frozen?,h]
abbrev VG.more (g:VG)(nm dt:Bs)(dv v9:Value):VG:={g with v:={g.v with shots:=g.v.shots++[(nm,dt)]},sv:=v9,sg:=g.sg++[(nm,dt,dv)]}
theorem BV.app (h:BV w6 wr bx base g)(hbA:Below wr.heap.size wr w7)(nm dt:Bs)(dv:Value)(hd:OwnB w7 w6.heap.size 5 dv dt)(hn:g.v.shots.length+1<=8) :
  OwnG (w7.alloc (.cells #[str nm,dv] 92)) w6.heap.size 92 2 g.sv (g.sg.map sgrow)/\(∀ (j:Nat) (u:Value),([str nm,dv]:List Value)[j]? = some u->(w7.alloc (.cells #[str nm,dv] 92)).cell? ⟨w7.heap.size,j,none⟩=some u)/\
  w6.heap.size<=(w7.alloc (.cells #[str nm,dv] 92)).heap.size/\(g.sg.map sgrow).length<=8/\
  ∀ v9 w9,OwnG w9 w6.heap.size 92 2 v9 (g.sg.map sgrow++[[str nm,dv]])->(w7.alloc (.cells #[str nm,dv] 92)).grownBy w9 g.sv.ownBlock->Below w6.heap.size (w7.alloc (.cells #[str nm,dv] 92)) w9->
   w9.frozen? ⟨bx,4,none⟩=false/\w9.cell? ⟨bx,4,none⟩=some g.sv/\BV w6 (w9.setCell ⟨bx,4,none⟩ v9) bx base (g.more nm dt dv v9):=by
 have hb7:Below w7.heap.size w7 (w7.alloc (.cells #[str nm,dv] 92)):=brf.alloc nlr _;have h7:=h.below hbA;have h8:=h7.below hb7;obtain⟨w8,hw8⟩:∃ z,z=w7.alloc (.cells #[str nm,dv] 92):=⟨_,rfl⟩
 have hrow:∀ (j:Nat) (u:Value),([str nm,dv]:List Value)[j]? = some u->w8.cell? ⟨w7.heap.size,j,none⟩=some u:=fun j u hu=>by rw[hw8];exact row_cells w7 [str nm,dv] 92 j u hu
 rw[<-hw8] at h8 hb7 ⊢;have hd8:=hd.below hb7 (fun q hq=>hd.lt q hq);have hsl:g.sg.length<=7:=by have:=congrArg List.length h8.v.se;simp at this;omega
 refine⟨h8.v.s,hrow,h8.b.size,by simp;omega,fun v9 w9 ho hg hb=>?_⟩;have hnb:g.sv.ownBlock≠some bx:=fun e=>by
  obtain⟨c,f,h1⟩:=ownG_type h8.v.s bx e;rw[h8.q] at h1;cases h1
 have hq9:w9.heap[bx]? = some (.cells #[str g.v.name,.int .i64 g.v.cl,str g.v.back,g.dv,g.sv,g.mv] 45 (0,0)):=(hg.block bx (blk_lt h8.q) (Ne.symm hnb)).trans h8.q;have hk:Kept w8 w9 (fun b=>g.sv.ownBlock≠some b):=Kept.grown hg fun k hk=>by rw[hk];simp
 have hk10:Kept w9 (w9.setCell ⟨bx,4,none⟩ v9) (·≠bx):=Kept.set _ _ _ _ (by simp);have hN:∀ b c t f,w8.heap[b]? = some (.cells c t f)->t≠92->g.sv.ownBlock≠some b:=fun b c t f hc ht e=>by
  obtain⟨c2,f2,h2⟩:=ownG_type h8.v.s b e;rw[hc] at h2;cases h2;exact ht rfl
 have hN2:∀ {e:TypeId} {s:Nat} {v:Value} {rows:List (List Value)},OwnG w9 w6.heap.size e s v rows->e≠45->OwnG (w9.setCell ⟨bx,4,none⟩ v9) w6.heap.size e s v rows:=fun{e s v rows} hx he=>hx.kept hk10 fun q hq e2=>by
  obtain⟨c1,f1,h1⟩:=ownG_type hx q hq;rw[e2,hq9] at h1;cases h1;exact he rfl
 have hB2:∀ {v:Value} {l:Bs},OwnB w8 w6.heap.size 5 v l->OwnB (w9.setCell ⟨bx,4,none⟩ v9) w6.heap.size 5 v l:=fun{v l} hx=>by
  have h9:OwnB w9 w6.heap.size 5 v l:=hx.kept hk fun q hq=>by obtain⟨c1,f1,h1⟩:=ownB_type hx q hq;exact hN q _ _ _ h1 (by decide)
  exact h9.kept hk10 fun q hq e2=>by
   obtain⟨c1,f1,h1⟩:=ownB_type h9 q hq;rw[e2,hq9] at h1;cases h1
 have hm9:BMS w9 base g.mv g.v.maps g.ps:=h8.v.m.kept hk fun b c t f hc ht=>hN b c t f hc (by rcases ht with h|h<;>rw[h]<;>decide)
 refine⟨by simp[World.frozen?,hq9],by simp[World.cell?,hq9],⟨(h8.b.trans hb).setCell h8.g _,by rw[heap_setCell_at' w9 bx 4 _ _ 45 _ hq9];rfl,⟨hB2 h8.v.d,?_,fun q hq=>?_,?_,?_,?_⟩,h8.g⟩⟩
 ·show OwnG _ _ 92 2 v9 ((g.sg++[(nm,dt,dv)]).map sgrow);rw[List.map_append];exact hN2 ho (by decide)
 ·rcases List.mem_append.1 hq with h1|h1
  ·exact hB2 (h8.v.sd q h1)
  ·rw[List.mem_singleton.1 h1];exact hB2 hd8
 ·show g.v.shots++[(nm,dt)]=(g.sg++[(nm,dt,dv)]).map _;rw[List.map_append,h8.v.se];rfl
 ·exact hm9.kept hk10 fun b c t f hc ht e=>by rw[e,hq9] at hc;cases hc;rcases ht with h|h<;>cases h
 ·show(g.v.shots++[(nm,dt)]).length<=8;rw[List.length_append];exact hn
theorem VIn.grown {w w9:World}{lo v:Nat}{ov:Value}{rows:List (List Value)}(h:VIn w lo base g)(ho:OwnG w v 45 6 ov rows)(hg:w.grownBy w9 ov.ownBlock):VIn w9 lo base g:=by
 refine h.kept (N:=fun b=>ov.ownBlock≠some b) (Kept.grown hg fun k hk=>by rw[hk];simp) fun b c t f hc ht e=>?_;obtain⟨c2,f2,h2⟩:=ownG_type ho b e;rw[hc] at h2;cases h2;rcases ht with h|h|h|h<;>cases h
theorem size9 (w:World):(sizeOf 9).run prog w = .ok 1 w:=by kernel_rfl
theorem st6_heap {w:World}{rb:Nat}{a0 a1 a2 a3 a4 a5:Value}{t:TypeId}(v0 v1 v2 v3 v4 v5:Value)(h:w.heap[rb]? = some (.cells #[a0,a1,a2,a3,a4,a5] t (0,0))):(st6 w rb v0 v1 v2 v3 v4 v5).heap[rb]? = some (.cells #[v0,v1,v2,v3,v4,v5] t (0,0)):=by
 have h0:=heap_setCell_at' w rb 0 v0 _ t _ h;have h1:=heap_setCell_at' _ rb 1 v1 _ t _ h0;have h2:=heap_setCell_at' _ rb 2 v2 _ t _ h1;have h3:=heap_setCell_at' _ rb 3 v3 _ t _ h2;have h4:=heap_setCell_at' _ rb 4 v4 _ t _ h3;have h5:=heap_setCell_at' _ rb 5 v5 _ t _ h4;exact h5
theorem zcells45 {w:World}{rb:Nat}(h:w.heap[rb]? = some (.cells #[.string ⟨#[]⟩,.int .i64 0,.string ⟨#[]⟩,.slice none 0 0,.slice none 0 0,.slice none 0 0] 45 (0,0))):w.cell? ⟨rb,0,none⟩=some (.string ⟨#[]⟩)/\w.cell? ⟨rb,1,none⟩=some (.int .i64 0)/\w.cell? ⟨rb,2,none⟩=some (.string ⟨#[]⟩)/\w.cell? ⟨rb,3,none⟩=some (.slice none 0 0)/\w.cell? ⟨rb,4,none⟩=some (.slice none 0 0)/\w.cell? ⟨rb,5,none⟩=some (.slice none 0 0)/\∀ j,w.frozen? ⟨rb,j,none⟩=false:=by
 refine⟨?_,?_,?_,?_,?_,?_,fun j=>?_⟩<;>simp[World.cell?,World.frozen?,h]
theorem names_at {S:IL}{xs:List XI}{w:World}{am:Nat}(hA:AM w base am S xs){k:Nat}(hk:k<(namesM S).length):∃ x∈xs,(namesM S)[k]? = some x.n/\fnd S x.n=some x.i:=by
 have hmem:(namesM S)[k]∈S.map (·.1):=(List.mergeSort_perm _ _).mem_iff.1 (List.getElem_mem _);have hp:(xs.map (·.n)).Perm (S.map (·.1)):=by
  have:=hA.p.map (·.1);rwa[List.map_map] at this
 obtain⟨x,hx,hxn⟩:=List.mem_map.1 (hp.mem_iff.2 hmem);refine⟨x,hx,by rw[List.getElem?_eq_getElem hk,hxn],?_⟩;exact hA.find hx
theorem views_any {w:World}{mb am:Nat}{S:IL}{xs:List XI}(hm:Mod0 w mb am)(hA:AM w base am S xs)(hd:∀ n,dep S 8 n)(hl:S.length<=16)(hbase:base<=w.heap.size) :
  Calls prog 15 #[pt mb] w fun e w'=>∃ v,e = .returned v/\VS w' w.heap.size base v (viewsM S)/\Below w.heap.size w w':=by
 have c0:∀ w',Below w.heap.size w w'->w'.cell? ⟨mb,0,none⟩=some (.map (some am)):=fun w' hB=>(hm.below hB).cell;have HS:=hid (names24 hA (by rw[hA.len];omega));have hq:∀ w',(binOp .eql 28 (pt mb) (.pointer none)).run prog w' = .ok (.bool false) w':=fun w'=>by simp[go_sem]
 have H:=jd5 hm hA hd hl hbase;have cw:=c0 w brf;clear hm hA hd hl hbase;go_enter func15,ntmps15
 go_upto_region 5 with(first
  | (go_at_call 25;refine(keysS_c _ _).mono ?_;rintro e w3 ⟨rfl,rfl⟩)
  | (go_at_call 24;refine HS.out.mono ?_;rintro e w4 ⟨v4,rfl,ho4,hb4⟩;obtain⟨ya,yn,yc,rfl⟩:=ownG_sh ho4))
 have hlen:∀ w',(Builtin.len_ #[31] 3 #[.slice ya yn yc]).run prog w' = .ok (.int .i64 yn) w':=fun w'=>len_sl underlying31 rfl w';obtain⟨ns,hns⟩:∃ ns,ns=namesM S:=⟨_,rfl⟩
 have hyn:yn=ns.length:=by
  rw[hns];rcases ho4.shape with⟨h2,h3⟩|⟨g,cc,h2,_⟩
  ·cases h2;have:=congrArg List.length h3;unfold namesM;simpa using this.symm
  ·cases h2;unfold namesM;rw[List.length_map]
 have hnl:yn<=16:=by
  rw[hyn,hns];unfold namesM sortN;rw[List.length_mergeSort,List.length_map];exact H.out.2.2.2.1
 have ho4':OwnG w4 w.heap.size 9 1 (.slice ya yn yc) (strR ns):=by rw[hns];exact ho4
 have H4:=jd4 ho4' hb4 hns hyn;clear ho4 ho4' hb4 hns hyn cw
 go_loopw [3,19] (fun s3 s19 wr=>∃ (k:Nat) (gs:List VG),s19 = .int .i64 k/\k<=yn/\Hid (Below w4.heap.size w4 wr/\OwnG wr w4.heap.size 45 6 s3 (gs.map vrow)/\(∀ g∈gs,VIn wr w.heap.size base g)/\gs.map (·.v)=(viewsM S).take k)) (fun _ s19 _=>yn-(intOf s19).toNat)
 case atStart=>exact⟨0,[],rfl,Nat.zero_le _,hid ⟨brf,OwnG.nil _ _ _ _,by simp,by simp⟩⟩
 case round =>
  obtain⟨k,gs,rfl,hk,hR⟩:=hrel;obtain⟨wO,hwO⟩:∃ x,x=wr:=⟨_,rfl⟩
  subst hwO;obtain⟨va,vn,vc,rfl⟩:=ownG_sh hR.out.2.1;by_cases hlt:k<yn
  ·have hbw:Below w.heap.size w wO:=H4.out.2.1.trans (hR.out.1.mono H4.out.2.1.size);have hAO:=H.out.2.1.below hbw;obtain⟨x,hx,hxn,hfx⟩:=names_at H.out.2.1 (k:=k) (by rw[<-H4.out.2.2.1,<-H4.out.2.2.2];exact hlt);have hok:=H.out.2.1.ok x hx;have hII:=hAO.i x hx;have hAMi:=fun w' (hB:Below wO.heap.size wO w')=>hAO.below hB;have hvk:(viewsM S).take (k+1)=(viewsM S).take k++[viewI S x.n x.i]:=by
    unfold viewsM;rw[List.take_add_one,List.getElem?_map,hxn];simp only[Option.map_some,Option.toList_some,viewN,hfx]
   obtain⟨bb,bo,ia,ca⟩:=slG_addrs H4.out.1.slG (t:=31) underlying31 size9 k (by rw[List.length_map,<-H4.out.2.2.2];exact hlt);rw[show(strR ns).getD k []=[str x.n] by rw[List.getD_eq_getElem?_getD,List.getElem?_map,H4.out.2.2.1,hxn];rfl] at ca;have d0:wO.cell? ⟨bb,bo,none⟩=some (str x.n):=by have:=ca wO hR.out.1 0 _ rfl;simpa using this
   have cO:=c0 wO hbw;have lk:=hAO.atx hx;have HCL:=hid (clone_any hII (Nat.le_trans H.out.2.2.2.2 hbw.size) hok.ns);have HX:=jd5 hbw hx hfx hok hvk;clear hbw hx hfx hok hII hAMi hvk ca hxn hAO;go_upto_region 8 with(go_at_call 26;refine HCL.out.mono ?_;rintro e w6 ⟨rfl,x6,hII6,hnd6,hge6,hb6⟩)
   clear d0 cO lk;obtain⟨cb,hcb⟩:∃ cb,cb=wO.heap.size:=⟨_,rfl⟩
   rw[<-hcb] at hII6 hge6 ⊢;have hbw6:Below w.heap.size w w6:=HX.out.1.trans (hb6.mono HX.out.1.size);have hII7:=fun w' (hB:Below w6.heap.size w6 w')=>hII6.below hB;obtain⟨sa,sn,sc,hsv⟩:=ownG_sh hII6.so;obtain⟨ma,mn,mc,hmv⟩:=ownG_sh hII6.maps.o;have j0:∀ w',Below w6.heap.size w6 w'->w'.cell? ⟨cb,0,none⟩=some (.int .i64 x.i.cl):=fun w' hB=>(hII7 w' hB).cells.1;have j1:∀ w',Below w6.heap.size w6 w'->w'.cell? ⟨cb,1,none⟩=some (.int .i64 x.i.size):=fun w' hB=>(hII7 w' hB).cells.2.1;have j2:∀ w',Below w6.heap.size w6 w'->w'.cell? ⟨cb,2,none⟩=some (str x.i.back):=fun w' hB=>(hII7 w' hB).cells.2.2.1;have j3:∀ w',Below w6.heap.size w6 w'->w'.cell? ⟨cb,3,none⟩=some (.map (some x6.om)):=fun w' hB=>(hII7 w' hB).cells.2.2.2.1;have j4:∀ w',Below w6.heap.size w6 w'->w'.cell? ⟨cb,4,none⟩=some (.slice sa sn sc):=fun w' hB=>by rw[(hII7 w' hB).cells.2.2.2.2.1,hsv]
   have j5:∀ w',Below w6.heap.size w6 w'->w'.cell? ⟨cb,5,none⟩=some (.slice ma mn mc):=fun w' hB=>by rw[(hII7 w' hB).cells.2.2.2.2.2.1,hmv]
   have hfn:=HX.out.2.2.1;have hSHO:=fun(own:Nat->Option Bs) (om nc size:Nat) (ol:ML Int) w' (hB:Below w6.heap.size w6 w') (hom:OM w' base om own ol) (how:OwnOk x.i.cl nc own) (hsz:size<=4096)=>sho_all 8 w' base mb am S xs x.i cb base om size nc own ol 0 size (H.out.1.below (hbw6.trans (hB.mono hbw6.size))) (H.out.2.1.below (hbw6.trans (hB.mono hbw6.size))) (hII7 w' hB).ic hom how HX.out.2.2.2.1.cl HX.out.2.2.2.1.nb (H.out.2.2.1 x.i.back) hsz (by omega) hsz;obtain⟨DT,hDT⟩:∃ d,d=secs (secIn S 8 x.i x.i.size x.i.own) 0 x.i.size:=⟨_,rfl⟩
   have HSH:Hid (∀ w',Below w6.heap.size w6 w'->Calls prog 27 #[pt mb,pt cb,.int .i64 x.i.size,.map (some x6.om),.int .i64 0,.int .i64 x.i.size] w' fun e w''=>∃ v,e = .returned v/\FullB w'' w'.heap.size v (secs (secIn S 8 x.i x.i.size x.i.own) 0 x.i.size)/\Below w'.heap.size w' w''):=hid (fun w' hB=>hSHO x.i.own x6.om _ x.i.size x6.ol w' hB (hII7 w' hB).own HX.out.2.2.2.1.own HX.out.2.2.2.1.size);rw[<-hDT] at HSH;have HSO:=hid hSHO;have hsn:sn=x.i.shots.length:=by
    have h1:=hII6.so;rw[hsv] at h1;rw[hII6.se,List.length_map];rcases h1.shape with⟨h2,h3⟩|⟨g,cc,h2,_⟩
    ·cases h2;have:=congrArg List.length h3;simpa using this.symm
    ·cases h2;rw[List.length_map]
   have hsn8:sn<=8:=by rw[hsn];exact HX.out.2.2.2.1.ns
   have hlen2:∀ w',(Builtin.len_ #[85] 3 #[.slice sa sn sc]).run prog w' = .ok (.int .i64 sn) w':=fun w'=>len_sl underlying85 rfl w';have H6:=jd7 hII6 hb6 hbw6 hsv hmv hDT hsn;have hB0:Below w6.heap.size w6 w6.drew:=brf.drew;clear hII6 hnd6 hge6 hb6 hbw6 hII7 hsv hmv hSHO hDT hcb hfn hsn
   go_cut [7] from 20 to 90 (fun s7 wx=>∃ (bx:Nat) (dv:Value),s7 = .pointer (some ⟨bx,0,none⟩)/\Hid (BV w6 wx bx base ⟨⟨x.n,x.i.cl,x.i.back,DT,[],x.i.maps⟩,dv,.slice none 0 0,.slice ma mn mc,[],x6.ps⟩))
   case first =>
    have hBVn:=fun(W:World) (hB:Below w6.heap.size w6 W) (dv:Value) (hd:OwnB W w6.heap.size 5 dv DT) (bx:Nat) (hg:w6.heap.size<=bx) (hq:W.heap[bx]? = some (.cells #[str x.n,.int .i64 x.i.cl,str x.i.back,dv,.slice none 0 0,.slice ma mn mc] 45 (0,0)))=>(show BV w6 W bx base ⟨⟨x.n,x.i.cl,x.i.back,DT,[],x.i.maps⟩,dv,.slice none 0 0,.slice ma mn mc,[],x6.ps⟩ from⟨hB,hq,⟨hd,OwnG.nil _ _ _ _,by simp,rfl,(by have h9:=H6.out.1.maps.below hB;rw[H6.out.2.2.2.2.1] at h9;exact h9),by simp⟩,hg⟩)
    have HBVN:=hid hBVn;clear hBVn
    go_region_held (fun w'=>Below w6.heap.size w6 w') (first|with_reducible assumption|(solve|(repeat (first|with_reducible exact Below.refl _ _|with_reducible assumption|with_reducible apply Below.drew|with_reducible refine Below.alloc ?_ ?_ _|with_reducible refine Below.setCell ?_ ?_ _|with_reducible exact Nat.le_refl _|(simp;done)|exact Below.size (by assumption))))) (first
     | (go_at_call 27;refine(HSH.out _ (by first|assumption|(solve|(repeat (first|with_reducible exact Below.refl _ _|with_reducible assumption|with_reducible apply Below.drew|with_reducible refine Below.alloc ?_ ?_ _|with_reducible refine Below.setCell ?_ ?_ _|with_reducible exact Nat.le_refl _|(simp;done)|exact Below.size (by assumption)))))).mono ?_;rintro e w7 ⟨v7,rfl,hf7,hb7⟩;have hb7':Below w6.heap.size w6 w7:=Below.trans (by first|assumption|(solve|(repeat (first|with_reducible exact Below.refl _ _|with_reducible assumption|with_reducible apply Below.drew|with_reducible refine Below.alloc ?_ ?_ _|with_reducible refine Below.setCell ?_ ?_ _|with_reducible exact Nat.le_refl _|(simp;done)|exact Below.size (by assumption))))) (Below.mono hb7 (by first|exact Nat.le_refl _|(simp;done)));obtain⟨fa,fn,fc,rfl⟩:=ownB_sh hf7.o;have ho7:=hf7.o.any_base (base':=w6.heap.size) (by first|exact Nat.le_refl _|(simp;done));(first|(obtain⟨x0,x1,x2,x3,x4,x5,xz⟩:=zcells45 ((hb7.block w6.heap.size (by simp)).trans (alloc_new w6 _));have hq7:=(hb7.block w6.heap.size (by simp)).trans (alloc_new w6 _))|skip)))
    ·go_wp2_with fail
     go_meet
     case rel=>exact⟨_,_,rfl,hid (HBVN.out _ (hb7'.alloc hb7'.size _) _ (ho7.alloc _) _ hb7'.size (alloc_new _ _))⟩
    ·go_wp2_with fail
     go_meet
     case rel =>
      refine⟨_,_,rfl,hid (HBVN.out _ ?_ _ ?_ _ nlr (st6_heap _ _ _ _ _ _ hq7))⟩
      ·repeat (first|with_reducible exact hb7'|with_reducible refine Below.setCell ?_ ?_ _|exact nlr)
      ·exact ho7.kept (st6_kept _ _ _ _ _ _ _ _) fun q hq e=>by
        obtain⟨c1,f1,h1⟩:=ownB_type ho7 q hq;rw[e,hq7] at h1;cases h1
   case rest =>
    obtain⟨bx,dv,rfl,hC⟩:=hcut;obtain⟨wV,hwV⟩:∃ x,x=wc:=⟨_,rfl⟩
    subst hwV;have j4V:=j4 wV hC.out.b;obtain⟨SVS,hSVS⟩:∃ q,q=(viewI S x.n x.i).shots:=⟨_,rfl⟩
    have HSVS:=hid hSVS;clear hSVS
    go_wp2_with fail
    clear j4V
    go_loopw [64] (fun s64 wr=>∃ j:Nat,s64 = .int .i64 j/\j<=sn/\Hid (∃ g,BV w6 wr bx base g/\g.v=⟨x.n,x.i.cl,x.i.back,DT,SVS.take j,x.i.maps⟩)) (fun s64 _=>sn-(intOf s64).toNat)
    case atStart=>exact⟨0,rfl,Nat.zero_le _,hid ⟨_,hC.out,rfl⟩⟩
    case round =>
     obtain⟨j,rfl,hj,hRj⟩:=hrel;obtain⟨wJ,hwJ⟩:∃ x,x=wr:=⟨_,rfl⟩
     subst hwJ;obtain⟨g,hBV,hgv⟩:=hRj.out;by_cases hltj:j<sn
     ·have hII:=H6.out.1.below hBV.b;have hjs:j<x6.ss.length:=by have:=congrArg List.length hII.se;rw[List.length_map] at this;rw[<-this,<-H6.out.2.2.2.2.2.2];exact hltj
      obtain⟨sh,hs⟩:∃ s,x6.ss[j]? = some s:=⟨_,List.getElem?_eq_getElem hjs⟩
      have hshm:sh∈x6.ss:=List.mem_of_getElem? hs;have hsh:x.i.shots[j]? = some sh.s:=by rw[hII.se,List.getElem?_map,hs];rfl
      have hso:=hII.so.slG;rw[H6.out.2.2.2.1] at hso;obtain⟨bb2,bo2,hia,hrow⟩:=slG_addrs hso (t:=85) underlying85 size90 j (by rw[List.length_map];exact hjs);rw[show(x6.ss.map sxrow).getD j []=sxrow sh by rw[List.getD_eq_getElem?_getD,List.getElem?_map,hs];rfl] at hrow;have d0:wJ.cell? ⟨bb2,bo2,none⟩=some (str sh.s.name):=by have:=hrow wJ brf 0 _ rfl;simpa using this
      have d1:wJ.cell? ⟨bb2,bo2+1,none⟩=some (.int .i64 sh.s.size):=hrow wJ brf 1 _ rfl;have d2:wJ.cell? ⟨bb2,bo2+2,none⟩=some (.map (some sh.m)):=hrow wJ brf 2 _ rfl;have HJ:Hid (SVS.take (j+1)=SVS.take j++[(sh.s.name,secs (secIn S 8 x.i sh.s.size sh.s.own) 0 sh.s.size)]):=hid (by rw[List.take_add_one,HSVS.out];unfold viewI;simp only;rw[List.getElem?_map,hsh];rfl);have hshok:=HX.out.2.2.2.1.shots sh.s (List.mem_of_getElem? hsh);obtain⟨ta,tn,tc,hsv⟩:=ownG_sh hBV.v.s;have HN8:Hid (g.v.shots.length+1<=8):=hid (by rw[hgv];simp only[List.length_take];omega);have HGV:=hid hgv;have HSV:=hid hsv;have HBJ:=hid hBV;have HSHK:=jd2 hshm hshok;clear hII hjs hs hshm hsh hso hrow hshok hgv hBV hsv;go_upto_region 12 with(fail)
      obtain⟨wA,hwA⟩:∃ z,z=wJ.alloc (.cells #[str sh.s.name,.int .i64 sh.s.size,.map (some sh.m)] 90):=⟨_,rfl⟩
      rw[<-hwA];have hbA:Below wJ.heap.size wJ wA:=by rw[hwA];exact brf.alloc nlr _
      have hqA:wA.heap[wJ.heap.size]? = some (.cells #[str sh.s.name,.int .i64 sh.s.size,.map (some sh.m)] 90 (0,0)):=by rw[hwA];exact alloc_new wJ _
      obtain⟨sb,hsb⟩:∃ sb,sb=wJ.heap.size:=⟨_,rfl⟩
      have hlA:sb<wA.heap.size:=by rw[hsb];exact blk_lt hqA
      rw[<-hsb] at hqA ⊢;have hBVA:=HBJ.out.below hbA;have e0:∀ w',Below wA.heap.size wA w'->w'.cell? ⟨sb,0,none⟩=some (str sh.s.name):=fun w' hB=>by have:=(hB.block sb hlA).trans hqA;simp[World.cell?,this]
      have e1:∀ w',Below wA.heap.size wA w'->w'.cell? ⟨sb,1,none⟩=some (.int .i64 sh.s.size):=fun w' hB=>by have:=(hB.block sb hlA).trans hqA;simp[World.cell?,this]
      have e2:∀ w',Below wA.heap.size wA w'->w'.cell? ⟨sb,2,none⟩=some (.map (some sh.m)):=fun w' hB=>by have:=(hB.block sb hlA).trans hqA;simp[World.cell?,this]
      have e4:∀ w',Below wA.heap.size wA w'->w'.cell? ⟨bx,4,none⟩=some (.slice ta tn tc):=fun w' hB=>by rw[<-HSV.out];exact(hBVA.below hB).cells.2.2.2.2.1
      have HBVA:=hid hBVA;have HS2:Hid (∀ w',Below wA.heap.size wA w'->Calls prog 27 #[pt mb,pt cb,.int .i64 sh.s.size,.map (some sh.m),.int .i64 0,.int .i64 sh.s.size] w' fun e w''=>∃ v,e = .returned v/\FullB w'' w'.heap.size v (secs (secIn S 8 x.i sh.s.size sh.s.own) 0 sh.s.size)/\Below w'.heap.size w' w''):=hid (fun w' hB=>by
       have hB6:=hBVA.b.trans (hB.mono hBVA.b.size);exact HSO.out sh.s.own sh.m _ sh.s.size sh.l w' hB6 ((H6.out.1.below hB6).sm sh HSHK.out.1) HSHK.out.2.2.2 HSHK.out.2.1)
      have HBA:=hid hbA;have hB0:Below wA.heap.size wA wA.drew:=brf.drew;clear hwA hbA hqA hlA hsb hBVA d0 d1 d2;refine wp_region_K 15 (fun w'=>Below wA.heap.size wA w') (by kernel_rfl) ?_;refine qk 0 ?_;try simp only[nk]
      refine rq 1 ?_;try simp only[nk]
      refine qk 2 ?_;try simp only[nk]
      refine rq 3 ?_;try simp only[nk]
      refine qk 4 ?_;try simp only[nk]
      refine qk 5 ?_;try simp only[nk]
      refine qk 6 ?_;try simp only[nk]
      refine rq 7 ?_;try simp only[nk]
      refine qk 8 ?_;try simp only[nk]
      refine rq 9 ?_;try simp only[nk]
      refine qk 10 ?_;try simp only[nk]
      refine rq 11 ?_;try simp only[nk]
      refine wpAnyK_ready (rs:=[12]) (by kernel_rfl) (by simp) (AllReadyK.cons rfl (fun K hK=>?_) AllReadyK.nil);go_simp
      go_wp2_with (go_at_call 27;refine(HS2.out _ (by assumption)).mono ?_;rintro e w7 ⟨v7,rfl,hf7,hb7⟩;have hb7':Below wA.heap.size wA w7:=Below.trans (by assumption) (Below.mono hb7 (Below.size (by assumption)));obtain⟨ga,gn,gc,rfl⟩:=ownB_sh hf7.o;obtain⟨hoA,hrowA,hsA,hlA,hpA⟩:=HBVA.out.app hb7' sh.s.name _ _ (hf7.o.any_base HBVA.out.b.size) HN8.out;rw[HSV.out] at hoA hpA;have HPA:=hid hpA;have hlA2:(List.length (List.map sgrow g.sg)+1)*40<=140737488355328:=(by omega);have hlA3:List.length (List.map sgrow g.sg)+1<=140737488355328:=(by omega);clear hpA hf7 hb7)
      refine hK.out _ _ (fun _=>hb7') ?_;clear hK K
      try simp only[nk]
      refine qk 13 ?_;try simp only[nk]
      refine wpAnyK_ready (rs:=[14]) (by kernel_rfl) (by simp) (AllReadyK.cons rfl (fun K hK=>?_) AllReadyK.nil);go_simp
      refine hK.out _ _ (fun _=>Below.alloc (by assumption) (Below.size (by assumption)) _) ?_;clear hK K
      try simp only[nk]
      refine wpAnyK_ready (rs:=[15]) (by kernel_rfl) (by simp) (AllReadyK.cons rfl (fun K hK=>?_) AllReadyK.nil);refine step_append_gn _ (by rfl) (.tmp 69) (.tmp 82) 42 92 _ 2 40 (by rfl) underlying42 info92 rfl (by decide) w6.heap.size _ _ (by rfl) hoA w7.heap.size 1 [str sh.s.name,.slice ga gn gc] (by rfl) rfl hrowA (by simp[Value.oneCell']) hlA2 hlA3 hsA ?_;intro v9 w9 ho9 hg9 hb9 hq9;obtain⟨ka,kn,kc,rfl⟩:=ownG_sh ho9;obtain⟨z9,c9,hBV9⟩:=HPA.out _ _ ho9 hg9 hb9;refine hK.out _ _ (fun h=>by cases h) ?_;clear hK K
      try simp only[nk]
      refine qk 16 ?_;try simp only[nk]
      refine wpAnyK_ready (rs:=[17]) (by kernel_rfl) (by simp) (AllReadyK.cons rfl (fun K hK=>?_) AllReadyK.nil);go_simp
      refine hK.out _ _ (fun h=>by cases h) ?_;clear hK K
      try simp only[nk]
      refine wpAnyK_done (by kernel_rfl) ?_ _
      go_wp2_with fail
      have HB9:=hid hBV9
      go_roundw
      case measure=>simp only[intOf];omega
      case rel=>exact⟨j+1,by go_num,by omega,hid ⟨_,HB9.out,by show VW.mk g.v.name g.v.cl g.v.back g.v.data (g.v.shots++[_]) g.v.maps=_;rw[HGV.out,HJ.out]⟩⟩
     ·obtain rfl:j=sn:=by omega
      have hgv2:g.v=viewI S x.n x.i:=by
       rw[hgv,HSVS.out,List.take_of_length_le (by unfold viewI;simp only[List.length_map];rw[H6.out.2.2.2.2.2.2];exact nlr),H6.out.2.2.2.2.2.1];rfl
      obtain⟨fa,fn,fc,hdv⟩:=ownB_sh hBV.v.d;obtain⟨ta,tn,tc,hsv⟩:=ownG_sh hBV.v.s;obtain⟨qa,qn,qc,hmv⟩:=ownG_sh hBV.v.m.o;have k0:wJ.cell? ⟨bx,0,none⟩=some (str x.n):=by have:=hBV.cells.1;rw[hgv] at this;exact this
      have k1:wJ.cell? ⟨bx,1,none⟩=some (.int .i64 x.i.cl):=by have:=hBV.cells.2.1;rw[hgv] at this;exact this
      have k2:wJ.cell? ⟨bx,2,none⟩=some (str x.i.back):=by have:=hBV.cells.2.2.1;rw[hgv] at this;exact this
      have k3:wJ.cell? ⟨bx,3,none⟩=some (.slice fa fn fc):=by rw[<-hdv];exact hBV.cells.2.2.2.1
      have k4:wJ.cell? ⟨bx,4,none⟩=some (.slice ta tn tc):=by rw[<-hsv];exact hBV.cells.2.2.2.2.1
      have k5:wJ.cell? ⟨bx,5,none⟩=some (.slice qa qn qc):=by rw[<-hmv];exact hBV.cells.2.2.2.2.2.1
      obtain⟨row,hrow⟩:∃ r,r=([str x.n,.int .i64 x.i.cl,str x.i.back,.slice fa fn fc,.slice ta tn tc,.slice qa qn qc]:List Value):=⟨_,rfl⟩
      have hvr:vrow g=row:=by rw[hrow];show[_,_,_,_,_,_]=_;rw[hdv,hsv,hmv,hgv]
      have hbOJ:Below wO.heap.size wO wJ:=H6.out.2.1.trans (hBV.b.mono H6.out.2.1.size);have hbB:Below wJ.heap.size wJ (wJ.alloc (.cells row.toArray 45)):=brf.alloc nlr _;have hoB:=(hR.out.2.1.below hbOJ nlr).below hbB nlr;have hgl:(gs.map vrow).length<=16:=by
       have:=congrArg List.length hR.out.2.2.2;rw[List.length_map,List.length_take] at this;rw[List.length_map];omega
      have hszB:w4.heap.size<=(wJ.alloc (.cells row.toArray 45)).heap.size:=Nat.le_trans (Nat.le_trans hR.out.1.size hbOJ.size) hbB.size;have HQ:=jd5 hBV hgv2 hvr hbOJ hbB;rw[hrow] at hoB hszB;have hrc:∀ (j:Nat) (u:Value),([str x.n,.int .i64 x.i.cl,str x.i.back,.slice fa fn fc,.slice ta tn tc,.slice qa qn qc]:List Value)[j]? = some u->(wJ.alloc (.cells #[str x.n,.int .i64 x.i.cl,str x.i.back,.slice fa fn fc,.slice ta tn tc,.slice qa qn qc] 45)).cell? ⟨wJ.heap.size,j,none⟩=some u:=fun j u hu=>row_cells wJ _ 45 j u hu;have HRW:=hid hrow;clear hBV hgv hgv2 hdv hsv hmv hvr hbOJ hbB hrow
      go_wp2_with (at_builtin;refine append_g _ rfl _ _ 38 45 _ 6 112 rfl underlying38 info45 rfl (by decide) w4.heap.size _ (gs.map vrow) rfl hoB wJ.heap.size 1 [str x.n,.int .i64 x.i.cl,str x.i.back,.slice fa fn fc,.slice ta tn tc,.slice qa qn qc] rfl rfl hrc (by simp[Value.oneCell']) (by omega) (by omega) hszB ?_;intro v9 w9 ho9 hg9 hb9;obtain⟨ka,kn,kc,rfl⟩:=ownG_sh ho9;have H9:=jd4 ho9 hg9 hb9 hoB;clear ho9 hg9 hb9 hoB)
      go_roundw
      case measure=>simp only[intOf];omega
      case rel =>
       obtain⟨hBV,hgv2,hvr,hbOJ,hbB⟩:=HQ.out;obtain⟨ho9,hg9,hb9,hoB⟩:=H9.out;rw[HRW.out] at hbB hvr;refine⟨k+1,gs++[g],by go_num,by omega,hid ⟨?_,?_,fun y hy=>?_,?_⟩⟩
       ·exact(hR.out.1.trans (hbOJ.mono hR.out.1.size)).trans ((hbB.mono (Nat.le_trans hR.out.1.size hbOJ.size)).trans hb9)
       ·rw[List.map_append,List.map_cons,List.map_nil,hvr];exact ho9
       ·rcases List.mem_append.1 hy with h1|h1
        ·exact(((hR.out.2.2.1 y h1).below hbOJ).below hbB).grown hoB hg9
        ·rw[List.mem_singleton.1 h1];exact((hBV.v.below hbB).grown hoB hg9).any H6.out.2.2.1.size
       ·rw[List.map_append,hR.out.2.2.2,HX.out.2.2.2.2];show _++[g.v]=_;rw[hgv2]
  ·have:k=yn:=by omega
   subst this;have hres:(viewsM S).take k=viewsM S:=by
    refine List.take_of_length_le ?_;unfold viewsM;rw[List.length_map,<-H4.out.2.2.1,<-H4.out.2.2.2];exact nlr
   go_wp2_with fail
   go_ret
   exact⟨_,rfl,⟨gs,by rw[hR.out.2.2.2,hres],hR.out.2.1.any_base H4.out.2.1.size,hR.out.2.2.1⟩,H4.out.2.1.trans (hR.out.1.mono H4.out.2.1.size)⟩
end Go.Proofs.YtgkabcaodnofnaaGreat
