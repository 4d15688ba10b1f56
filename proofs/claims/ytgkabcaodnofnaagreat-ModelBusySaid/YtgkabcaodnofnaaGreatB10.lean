import Derived.Test.YtgkabcaodnofnaaGreatB09
set_option linter.unusedSimpArgs false
set_option linter.unusedVariables false
set_option maxRecDepth 100000
set_option maxHeartbeats 1000000
open Go.Proofs.Tryz
namespace Go.Proofs.YtgkabcaodnofnaaGreat
open Go.RowKit Go.Mx Go.Md
theorem OM.move {w w':World}{base m m':Nat}{own:Nat->Option Bs}{l:ML Int}(h:OM w base m own l)(hg:GM EI prog 3 w' m' l)(hb:Below w.heap.size w w'):OM w' base m' own l:=⟨hg,(h.below hb).f,h.b⟩
variable {w w':World}{base ib:Nat}{i:IM}{x:IX}
theorem clone_any (h:II w base ib i x)(hbase:base<=w.heap.size)(hn:i.shots.length<=8) :
  Calls prog 26 #[pt ib] w fun e w'=>e = .returned (pt w.heap.size)/\∃ x',II w' base w.heap.size i x'/\(x'.fp w.heap.size).Nodup/\(∀ b∈x'.fp w.heap.size,w.heap.size<=b)/\Below w.heap.size w w':=by
 obtain⟨c0,c1,c2,c3,c4,c5,cf⟩:=h.cells;have hsn:x.ss.length<=8:=by have:=congrArg List.length h.se;simp at this;omega
 obtain⟨sa,sn,sc,hsv⟩:=ownG_sh h.so;obtain⟨ma,mn,mc,hmv⟩:=ownG_sh h.maps.o;have HX:=hid (fun w' (hB:Below w.heap.size w w')=>And.intro (mclone60 ((h.below hB).own.g)) (And.intro (clone90 x.sv (x.ss.map sxrow) w'.heap.size w' (h.below hB).so.slG nlr (sxrow_len _) (sxrow_one _) (by rw[List.length_map];omega)) (clone108 x.mv (x.ps.map pbrow) w'.heap.size w' (h.below hB).maps.o.slG nlr (pbrow_len x.ps) (h.below hB).maps.ones (by rw[List.length_map,h.maps.pl];have:=h.maps.n;omega))));rw[hsv] at c4;rw[hmv] at c5;rw[hsv,hmv] at HX;have H:=hid h;have HS:=hid hsv;have HM:=hid hmv;clear h hsv hmv;go_enter func26,ntmps26
 obtain⟨w1,hw1⟩:∃ w1,w1=w.alloc (.cells #[.int .i64 i.cl,.int .i64 i.size,.string ⟨i.back.toArray⟩,.map (some x.om),.slice sa sn sc,.slice ma mn mc] 87):=⟨_,rfl⟩
 have hb1:Below w.heap.size w w1:=by rw[hw1];exact brf.alloc nlr _
 have hq1:w1.heap[w.heap.size]? = some (.cells #[.int .i64 i.cl,.int .i64 i.size,.string ⟨i.back.toArray⟩,.map (some x.om),.slice sa sn sc,.slice ma mn mc] 87 (0,0)):=by rw[hw1];exact alloc_new w _
 have hs1:w1.heap.size=w.heap.size+1:=by rw[hw1];simp
 have hlt:ib<w.heap.size:=blk_lt H.out.ck;have HW:=jd4 hw1 hb1 hq1 hs1;have g3:∀ w',Below w1.heap.size w1 w'->w'.cell? ⟨ib,3,none⟩=some (.map (some x.om)):=fun w' hB=>(World.cell?_of_block ((hb1.trans (hB.mono hb1.size)).block ib hlt)).trans c3;clear hw1 hb1 hq1 hs1;go_upto_region 2 with(fail)
 rw[<-HW.out.1];have f3:=g3 w1 brf;clear g3;go_upto_region 3 with(go_at_call 60;refine(HX.out w1 HW.out.2.1).1.mono ?_;rintro e w2 ⟨rfl,hg2,hb2,hs2⟩;have q2:=(hb2.block w.heap.size (blk_lt HW.out.2.2.1)).trans HW.out.2.2.1;have k2:w2.cell? ⟨w.heap.size,3,none⟩=some (.map (some x.om)):=(by simp[World.cell?,q2]);have z2:w2.frozen? ⟨w.heap.size,3,none⟩=false:=(by simp[World.frozen?,q2]))
 obtain⟨om',hom'⟩:∃ z,z=w1.heap.size:=⟨_,rfl⟩
 have hom'':=HW.out.2.2.2;rw[<-hom'] at hg2 hom'' ⊢;obtain⟨w3,hw3⟩:∃ w3,w3=w2.setCell ⟨w.heap.size,3,none⟩ (.map (some om')):=⟨_,rfl⟩
 rw[<-hw3];have hb3:Below w.heap.size w w3:=by rw[hw3];exact(HW.out.2.1.trans (hb2.mono HW.out.2.1.size)).setCell nlr _
 have q3:w3.heap[w.heap.size]? = some (.cells #[.int .i64 i.cl,.int .i64 i.size,.string ⟨i.back.toArray⟩,.map (some om'),.slice sa sn sc,.slice ma mn mc] 87 (0,0)):=by
  rw[hw3,heap_setCell_at' w2 _ 3 _ _ 87 _ q2];rfl
 have hg3:GM EI prog 3 w3 om' x.ol:=hg2.block (by rw[hw3];exact Below.heap_setCell _ _ _ _ (by show om'≠w.heap.size;omega));have hs3:w3.heap.size=w.heap.size+2:=by rw[hw3,World.size_setCell,hs2];omega
 have f4:w3.cell? ⟨ib,4,none⟩=some (.slice sa sn sc):=(World.cell?_of_block (hb3.block ib hlt)).trans c4;have HW3:=jd5 hb3 q3 hg3 hs3 hom'';clear hw3 hb3 q3 hg3 hs3 hg2 hb2 hs2 q2 k2 z2 f3 hom' hom'';go_upto_region 4 with(go_at_call 61;refine(HX.out w3 HW3.out.1).2.1.mono ?_;rintro e w4 ⟨v4,rfl,ho4,hb4⟩;obtain⟨ya,yn,yc,rfl⟩:=ownG_sh ho4;have q4:=(hb4.block w.heap.size (blk_lt HW3.out.2.1)).trans HW3.out.2.1;have k4:w4.cell? ⟨w.heap.size,4,none⟩=some (.slice sa sn sc):=(by simp[World.cell?,q4]);have z4:w4.frozen? ⟨w.heap.size,4,none⟩=false:=(by simp[World.frozen?,q4]))
 have hge4:∀ k,(Value.slice ya yn yc).ownBlock=some k->w3.heap.size<=k:=ho4.ge;obtain⟨w5,hw5⟩:∃ w5,w5=w4.setCell ⟨w.heap.size,4,none⟩ (.slice ya yn yc):=⟨_,rfl⟩
 rw[<-hw5];have hb5:Below w.heap.size w w5:=by rw[hw5];exact(HW3.out.1.trans (hb4.mono HW3.out.1.size)).setCell nlr _
 have q5:w5.heap[w.heap.size]? = some (.cells #[.int .i64 i.cl,.int .i64 i.size,.string ⟨i.back.toArray⟩,.map (some om'),.slice ya yn yc,.slice ma mn mc] 87 (0,0)):=by
  rw[hw5,heap_setCell_at' w4 _ 4 _ _ 87 _ q4];rfl
 have hg5:GM EI prog 3 w5 om' x.ol:=(HW3.out.2.2.1.block (hb4.block _ HW3.out.2.2.1.lt)).block (by rw[hw5];exact Below.heap_setCell _ _ _ _ (by show om'≠w.heap.size;have:=HW3.out.2.2.2.2;omega));have ho5:OwnG w5 (w.heap.size+2) 90 3 (.slice ya yn yc) (x.ss.map sxrow):=by
  rw[hw5];refine(ho4.any_base (by rw[HW3.out.2.2.2.1];exact nlr)).kept (Kept.set _ _ _ _ (N:=(·≠w.heap.size)) (by simp)) fun q hq=>?_;have:=hge4 q hq;rw[HW3.out.2.2.2.1] at this;omega
 have hs5:w.heap.size+2<=w5.heap.size:=by rw[hw5,World.size_setCell];have:=hb4.size;rw[HW3.out.2.2.2.1] at this;exact this
 have hlen5:=SlG.len (P:=prog) (ty:=3) ho5.slG underlying85;rw[List.length_map] at hlen5;have f5:w5.cell? ⟨w.heap.size,4,none⟩=some (.slice ya yn yc):=by simp[World.cell?,q5]
 have hom0:=HW3.out.2.2.2.2;have hw1s:=HW.out.2.2.2;have hyn:yn=x.ss.length:=by rcases ho5.shape with⟨he,e2⟩|⟨g,c,he,_⟩<;>(cases he;first|(have:=congrArg List.length e2;simp at this;simp[this])|simp)
 have hsv5:∀ s∈x.ss,OM w5 base s.m s.s.own s.l:=fun s hs=>(H.out.sm s hs).below hb5;have H5:=jd7 hb5 q5 hg5 ho5 hs5 hsv5 hom0;have HY:=hid hyn;clear hw5 hb5 q5 hg5 ho5 hs5 ho4 hge4 q4 k4 z4 hb4 HW3 HW hom0 hw1s hsv5 f4 hyn c3 c4 hlt
 go_wp2_with fail
 go_loopw [24] (fun s24 wr=>∃ (j:Nat) (ssj:List SX),s24 = .int .i64 j/\j<=x.ss.length/\Hid ((ssj.map (fun s=>(s.s,s.l))=x.ss.map (fun s=>(s.s,s.l))/\ssj.drop j=x.ss.drop j)/\OwnG wr (w.heap.size+2) 90 3 (.slice ya yn yc) (ssj.map sxrow)/\(∀ s∈ssj,OM wr base s.m s.s.own s.l)/\((ssj.take j).map (·.m)).Nodup/\(∀ s∈ssj.take j,w.heap.size+2<=s.m/\s.m<wr.heap.size)/\Below w.heap.size w wr/\
  wr.heap[w.heap.size]? = some (.cells #[.int .i64 i.cl,.int .i64 i.size,.string ⟨i.back.toArray⟩,.map (some om'),.slice ya yn yc,.slice ma mn mc] 87 (0,0))/\GM EI prog 3 wr om' x.ol)) (fun s24 _=>x.ss.length-(intOf s24).toNat)
 case atStart=>exact⟨0,x.ss,rfl,by omega,hid ⟨⟨rfl,rfl⟩,H5.out.2.2.2.1,H5.out.2.2.2.2.2.1,by simp,by simp,H5.out.1,H5.out.2.1,H5.out.2.2.1⟩⟩
 case round =>
  obtain⟨j,ssj,rfl,hj,hR⟩:=hrel;obtain⟨hss,ho,hOM,hnd,hms,hb,hq,hg⟩:=hR.out;clear hR;have hsl:ssj.length=x.ss.length:=by have:=congrArg List.length hss.1;simpa using this
  by_cases hlt:j<x.ss.length
  ·obtain⟨s,hs⟩:∃ s,ssj[j]? = some s:=⟨ssj[j],List.getElem?_eq_getElem (by omega)⟩
   have hjl:j<(ssj.map sxrow).length:=by rw[List.length_map];omega
   have hgd:(ssj.map sxrow).getD j []=sxrow s:=by rw[List.getD_eq_getElem?_getD,List.getElem?_map,hs];rfl
   rcases ho.shape with⟨_,he⟩|⟨g,cc,he,hgg,_⟩
   ·rw[he] at hjl;simp at hjl
   simp only[Value.slice.injEq] at he;obtain⟨rfl,hn9,rfl⟩:=he;clear hn9;have hia:=ho.addr (P:=prog) underlying85 size90 j hjl;have hra:=ho.rangeAt j hjl;rw[hgd] at hra;have c2:wr.cell? ⟨g,j*3+2,none⟩=some (.map (some s.m)):=hra 2 _ rfl;obtain⟨gc,hgc⟩:∃ c,wr.heap[g]? = some (.cells c 90 (0,0)):=by obtain⟨_,_,_,_,cur,h1,_⟩:=ho.parts;exact⟨cur,h1⟩
   have hne:g≠w.heap.size:=by omega
   have hop:OM wr base s.m s.s.own s.l:=hOM s (List.mem_of_getElem? hs);have f4:∀ w',Below wr.heap.size wr w'->w'.cell? ⟨w.heap.size,4,none⟩=some (.slice (some ⟨g,0,none⟩) yn yc):=fun w' hB=>by rw[World.cell?_of_block (hB.block _ (blk_lt hq))];simp[World.cell?,hq]
   have f2:∀ w',Below wr.heap.size wr w'->w'.cell? ⟨g,j*3+2,none⟩=some (.map (some s.m)):=fun w' hB=>by rw[World.cell?_of_block (hB.block _ (blk_lt hgc))];exact c2
   have fz:∀ w',Below wr.heap.size wr w'->w'.frozen? ⟨g,j*3+2,none⟩=false:=fun w' hB=>by
    have:=(hB.block _ (blk_lt hgc)).trans hgc;simp[World.frozen?,this]
   have HC:=hid (fun w' (hB:Below wr.heap.size wr w')=>mclone60 (hop.below hB).g);have hgle:wr.heap.size<=wr.drew.heap.size:=nlr;have HP:=jd9 hss ho hOM hnd hms hb hq hg (And.intro hs (And.intro hgc (And.intro hsl (And.intro hgg hgd))));clear hss ho hOM hnd hms hb hq hg hs hgc hra hgd hop hsl hlen5;have e4:=f4 wr brf;have e2:=f2 wr brf;obtain⟨o,hoo⟩:∃ o,o=j*3:=⟨_,rfl⟩
   rw[<-hoo] at hia c2 f2 fz e2;have HO:=hid (hoo);clear hoo;go_upto_region 7 with(fail)
   go_region_with (go_at_call 60;refine(HC.out wr.drew brf.drew).mono ?_;rintro e w6 ⟨rfl,hg6,hb6c,hs6⟩;have hb6:Below wr.heap.size wr w6:=brf.drew.trans hb6c;have d4:=f4 w6 hb6;have d2:=f2 w6 hb6;have z2:=fz w6 hb6)
   all_goals
    obtain⟨hss,ho,hOM,hnd,hms,hb,hq,hg,hs,hgc,hsl,hgg,hgd⟩:=HP.out;have hoo:=HO.out;have hg6':GM EI prog 3 w6 wr.heap.size s.l:=hg6;have hs6':w6.heap.size=wr.heap.size+1:=hs6;have hk7:Kept w6 (w6.setCell ⟨g,o+2,none⟩ (.map (some wr.heap.size))) (·≠g):=Kept.set _ _ _ _ (by simp);have hglt:g<wr.heap.size:=blk_lt hgc;have hmap:∀ b,b<wr.heap.size->(∃ es c,wr.heap[b]? = some (.map es c))->b≠g:=fun b _ ⟨es,c,h1⟩ e=>by rw[e,hgc] at h1;cases h1
    have hg7:∀ {m l},GM EI prog 3 w6 m l->m≠g->GM EI prog 3 (w6.setCell ⟨g,o+2,none⟩ (.map (some wr.heap.size))) m l:=fun h hne=>h.block (Below.heap_setCell _ _ _ _ hne);have hOM7:∀ s∈ssj,OM (w6.setCell ⟨g,o+2,none⟩ (.map (some wr.heap.size))) base s.m s.s.own s.l:=fun s hs=>by
     refine((hOM s hs).below hb6).kept hk7 (hmap s.m (hOM s hs).g.lt (hOM s hs).g.isMap) fun b c f h1 e=>?_;have h2:=(hb6.block g hglt).trans hgc;rw[e,h2] at h1;cases h1
    have hsj:j<ssj.length:=by omega
    have hgetj:ssj[j]? = some s:=hs;have hset:ssj.set j {s with m:=wr.heap.size}=ssj.take j++{s with m:=wr.heap.size} :: ssj.drop (j+1):=by
     rw[List.set_eq_take_append_cons_drop,if_pos hsj]
    have ho7:OwnG (w6.setCell ⟨g,o+2,none⟩ (.map (some wr.heap.size))) (w.heap.size+2) 90 3 (.slice (some ⟨g,0,none⟩) yn yc) ((ssj.set j {s with m:=wr.heap.size}).map sxrow):=by
     have h1:=(ho.below hb6 nlr).setOne j 2 (.map (some wr.heap.size)) (by rw[List.length_map];exact hsj) (by decide);rw[hgd,<-hoo] at h1;have:(ssj.map sxrow).set j ((sxrow s).set 2 (.map (some wr.heap.size)))=(ssj.set j {s with m:=wr.heap.size}).map sxrow:=by rw[List.map_set];rfl
     rw[this] at h1;exact h1
    have htk:(ssj.set j {s with m:=wr.heap.size}).take (j+1)=ssj.take j++[{s with m:=wr.heap.size}]:=by
     rw[hset,List.take_append,List.length_take,Nat.min_eq_left (by omega),Nat.add_sub_cancel_left,List.take_of_length_le (by rw[List.length_take];omega)];rfl
    have hdr:(ssj.set j {s with m:=wr.heap.size}).drop (j+1)=x.ss.drop (j+1):=by
     rw[List.drop_set_of_lt (by omega)];have:=congrArg (List.drop 1) hss.2;rw[List.drop_drop,List.drop_drop] at this;exact this
    have hmp:(ssj.set j {s with m:=wr.heap.size}).map (fun s=>(s.s,s.l))=x.ss.map (fun s=>(s.s,s.l)):=by
     rw[List.map_set,<-hss.1];refine set_self ?_;rw[List.getElem?_map,hs];rfl
    have hb7:Below w.heap.size w (w6.setCell ⟨g,o+2,none⟩ (.map (some wr.heap.size))):=(hb.trans (hb6.mono hb.size)).setCell (by show w.heap.size<=g;omega) _;have hq7:=(Below.heap_setCell w6 ⟨g,o+2,none⟩ (.map (some wr.heap.size)) w.heap.size (by show w.heap.size≠g;omega)).trans ((hb6.block _ (blk_lt hq)).trans hq);have hg8:=hg7 (hg.block (hb6.block _ hg.lt)) (hmap om' hg.lt hg.isMap);have hOM8:∀ s'∈ssj.set j {s with m:=wr.heap.size},OM (w6.setCell ⟨g,o+2,none⟩ (.map (some wr.heap.size))) base s'.m s'.s.own s'.l:=fun s' hs'=>by
     rcases List.mem_or_eq_of_mem_set hs' with h1|h1
     ·exact hOM7 s' h1
     ·subst h1;exact⟨hg7 hg6' (show wr.heap.size≠g by omega),(hOM7 s (List.mem_of_getElem? hs)).f,(hOM s (List.mem_of_getElem? hs)).b⟩
    have hnd8:(((ssj.set j {s with m:=wr.heap.size}).take (j+1)).map (·.m)).Nodup:=by
     rw[htk,List.map_append,List.nodup_append];refine⟨hnd,by simp,fun a ha b hb'=>?_⟩;simp at hb';obtain⟨y,hy,rfl⟩:=List.mem_map.1 ha;have:=(hms y hy).2;omega
    have hms8:∀ s'∈(ssj.set j {s with m:=wr.heap.size}).take (j+1),w.heap.size+2<=s'.m/\s'.m<(w6.setCell ⟨g,o+2,none⟩ (.map (some wr.heap.size))).heap.size:=fun s' hs'=>by
     rw[World.size_setCell,hs6'];rw[htk] at hs';rcases List.mem_append.1 hs' with h1|h1
     ·have:=hms s' h1;omega
     ·simp at h1;subst h1;exact⟨by have h2:=hg.lt;have h3:=H5.out.2.2.2.2.2.2;have h4:({s with m:=wr.heap.size}:SX).m=wr.heap.size:=rfl;rw[h4];omega,Nat.lt_succ_self _⟩
    have HZ:=jd9 ho7 hOM8 hnd8 hms8 hb7 hq7 hg8 hmp hdr;clear hss ho hOM hnd hms hb hq hg hs hgc hsl hgg hgd hoo hg6' hs6' hk7 hglt hmap hg7 hOM7 hsj hgetj hset ho7 htk hdr hmp hb7 hq7 hg8 hOM8 hnd8 hms8 hg6 hb6c hs6 hb6 f4 f2 fz e4 e2 d4 d2 z2 c2
    go_wp2_with fail
    obtain⟨ho7,hOM8,hnd8,hms8,hb7,hq7,hg8,hmp,hdr⟩:=HZ.out;exact⟨⟨j+1,_,by go_num,by omega,hid ⟨⟨hmp,hdr⟩,ho7,hOM8,hnd8,hms8,hb7,hq7,hg8⟩⟩,by simp[intOf];omega⟩
  ·obtain rfl:j=x.ss.length:=by omega
   have f5':wr.cell? ⟨ib,5,none⟩=some (.slice ma mn mc):=(World.cell?_of_block (hb.block ib (blk_lt H.out.ck))).trans c5;have HP:=jd8 hss ho hOM hnd hms hb hq hg;clear hss ho hOM hnd hms hb hq hg hlen5;go_upto_region 10 with(go_at_call 62;refine(HX.out wr HP.out.2.2.2.2.2.1).2.2.mono ?_;rintro e w6 ⟨v6,rfl,ho6,hb6⟩;obtain⟨za,zn,zc,rfl⟩:=ownG_sh ho6;have q6:=(hb6.block w.heap.size (blk_lt HP.out.2.2.2.2.2.2.1)).trans HP.out.2.2.2.2.2.2.1;have k6:w6.cell? ⟨w.heap.size,5,none⟩=some (.slice ma mn mc):=(by simp[World.cell?,q6]);have z6:w6.frozen? ⟨w.heap.size,5,none⟩=false:=(by simp[World.frozen?,q6]))
   obtain⟨w7,hw7⟩:∃ z,z=w6.setCell ⟨w.heap.size,5,none⟩ (.slice za zn zc):=⟨_,rfl⟩
   rw[<-hw7];obtain⟨hss,ho,hOM,hnd,hms,hb,hq,hg⟩:=HP.out;have hltb:w.heap.size<wr.heap.size:=blk_lt hq;have hk7:Kept wr w7 (·≠w.heap.size):=by rw[hw7];exact(Kept.of_below hb6 fun k hk _=>hk).trans (Kept.set _ _ _ _ (by simp))
   have hb7:Below w.heap.size w w7:=by rw[hw7];exact(hb.trans (hb6.mono hb.size)).setCell nlr _
   have q7:w7.heap[w.heap.size]? = some (.cells #[.int .i64 i.cl,.int .i64 i.size,.string ⟨i.back.toArray⟩,.map (some om'),.slice ya yn yc,.slice za zn zc] 87 (0,0)):=by
    rw[hw7,heap_setCell_at' w6 _ 5 _ _ 87 _ q6];rfl
   have hz:∀ k,(Value.slice za zn zc).ownBlock=some k->wr.heap.size<=k:=ho6.ge;have hB7:BMS w7 base (.slice za zn zc) i.maps x.ps:=by
    have h1:BMS w6 base (.slice za zn zc) i.maps x.ps:={(H.out.maps.below (hb.trans (hb6.mono hb.size))) with o:=ho6.any_base (Nat.le_trans hbase hb.size)}
    rw[hw7];refine h1.kept (Kept.set _ _ _ _ (N:=(·≠w.heap.size)) (by simp)) fun b c t f h2 ht e=>?_;rw[e,q6] at h2;cases h2;rcases ht with h|h<;>cases h
   have hg7:GM EI prog 3 w7 om' x.ol:=hg.block (hk7.block _ hg.lt (by have:=H5.out.2.2.2.2.2.2;omega));have ho7:OwnG w7 (w.heap.size+2) 90 3 (.slice ya yn yc) (ssj.map sxrow):=ho.kept hk7 fun q hq'=>by have:=ho.ge q hq';omega
   have hOM7:∀ s∈ssj,OM w7 base s.m s.s.own s.l:=fun s hs=>by
    refine(hOM s hs).kept hk7 (by
     have h1:=hms s (by rw[List.take_of_length_le (by have:=congrArg List.length hss.1;simp at this;omega)];exact hs);omega) fun b c f h1 e=>by rw[e,hq] at h1;cases h1
   have hss1:i.shots=ssj.map (·.s):=by have:=congrArg (List.map Prod.fst) hss.1;rw[List.map_map,List.map_map] at this;exact H.out.se.trans this.symm
   have hsl1:=hss.1;have hms':∀ s∈ssj,w.heap.size+2<=s.m/\s.m<wr.heap.size:=fun s hs=>hms s (by rw[List.take_of_length_le (by have:=congrArg List.length hss.1;simp at this;omega)];exact hs);have hnd':(ssj.map (·.m)).Nodup:=by rw[List.take_of_length_le (by have:=congrArg List.length hss.1;simp at this;omega)] at hnd;exact hnd
   have hwr7:wr.heap.size<=w7.heap.size:=hk7.size;have f7:∀ w',Below wr.heap.size w7 w'->w'.cell? ⟨w.heap.size,5,none⟩=some (.slice za zn zc):=fun w' hB=>by rw[World.cell?_of_block (hB.block _ hltb)];simp[World.cell?,q7]
   have e7:=f7 w7 brf;have hlen7:=hB7.len w7;obtain⟨B,hBe⟩:∃ B,B=wr.heap.size:=⟨_,rfl⟩
   rw[<-hBe] at hms' hwr7 f7 hz hltb;have hB0:=Below.refl B w7;have HOB:=hid (show om'<B by rw[hBe];exact hg.lt);have HYB:=hid (fun q (hq':(Value.slice ya yn yc).ownBlock=some q)=>(show q<B by rw[hBe];exact(ho.lt q hq')));have HQ:=jd9 (And.intro hss1 hsl1) ho7 hOM7 hnd' hms' hb7 q7 hg7 (And.intro hB7 (And.intro hz (And.intro hltb (And.intro hwr7 (And.intro H5.out.2.2.2.2.2.2 hB0)))));have HF:=hid f7;clear hss ho hOM hnd hms hb hq hg hw7 hk7 hb7 q7 hz hB7 hg7 ho7 hOM7 hss1 hsl1 hms' hnd' hwr7 f7 HP hb6 ho6 q6 k6 z6 f5' hltb hBe hB0
   go_wp2_with fail
   rename_i _ _;obtain⟨W1,hW1⟩:∃ z:World,z=wr:=⟨_,rfl⟩
   subst hW1
   go_loopw [49] (fun s49 wq=>∃ (k:Nat) (ps':List PB),s49 = .int .i64 k/\k<=i.maps.length/\Hid (BMS wq base (.slice za zn zc) i.maps ps'/\Below B w7 wq)) (fun s49 _=>i.maps.length-(intOf s49).toNat)
   case atStart=>exact⟨0,x.ps,rfl,by omega,hid ⟨HQ.out.2.2.2.2.2.2.2.2.1,HQ.out.2.2.2.2.2.2.2.2.2.2.2.2.2⟩⟩
   case round =>
    obtain⟨k,ps',rfl,hk,hR⟩:=hrel;obtain⟨hB,hbl⟩:=hR.out;clear hR;have hn100:=hB.n;by_cases hlt:k<i.maps.length
    ·obtain⟨p,hp,hlp⟩:=hB.get hlt;obtain⟨g,n',c',hv,hg,⟨cc,hgc⟩,hia⟩:=hB.place hp;simp only[Value.slice.injEq] at hv;obtain⟨rfl,rfl,rfl⟩:=hv;obtain⟨b,lv⟩:=p;have hc2:=hB.cellAt hp 2 _ rfl;have hpm:=List.mem_of_getElem? hp;have hlk:b.l.length<=3000000000:=hB.k b (List.mem_of_getElem? hlp);obtain⟨la,ln,lc,rfl⟩:∃ a n c,lv = .slice a n c:=ownG_sh (hB.s _ hpm);have HCL:=hid (clone111 (.slice la ln lc) (b.l.map spC) wr.heap.size wr.drew ((hB.s _ hpm).below brf.drew nlr).slG nlr (spC_len _) (spC_one _) (by rw[List.length_map];omega));obtain⟨o,ho⟩:∃ o,o=k*3:=⟨_,rfl⟩
     rw[<-ho] at hia hc2;have hgB:B<=g:=HQ.out.2.2.2.2.2.2.2.2.2.1 g rfl;have g5:∀ w',Below wr.heap.size wr w'->w'.cell? ⟨w.heap.size,5,none⟩=some (.slice (some ⟨g,0,none⟩) zn zc):=fun w' hB9=>HF.out w' (hbl.trans (hB9.mono (Nat.le_trans HQ.out.2.2.2.2.2.2.2.2.2.2.2.1 hbl.size)));have e5:=g5 wr brf;have HX:=jd8 hB hbl hp hlp hlk ho hgc hgB;clear hB hbl hp hlp hlk hpm ho hg hgc hgB e7 hlen7;go_upto_region 13 with(fail)
     go_region_with (go_at_call 63;refine HCL.out.mono ?_;rintro e w8 ⟨v8,rfl,ho8,hb8c⟩;obtain⟨xa,xn,xc,rfl⟩:=ownG_sh ho8;have hb8:Below wr.heap.size wr w8:=brf.drew.trans hb8c;have d5:=g5 w8 hb8;have z8:w8.frozen? ⟨g,o+2,none⟩=false:=(HX.out.1.below hb8).fz _;have d2:w8.cell? ⟨g,o+2,none⟩=some (.slice la ln lc):=(by rw[HX.out.2.2.2.2.2.1];exact(HX.out.1.below hb8).cellAt HX.out.2.2.1 2 _ rfl))
     all_goals
      obtain⟨hB,hbl,hp,hlp,hlk,ho,hgc,hgB⟩:=HX.out;have hB9:=(hB.below hb8).setL hp (ho8.any_base (Nat.le_trans hbase (Nat.le_trans HQ.out.2.2.2.2.2.1.size (Nat.le_trans hbl.size nlr)))) hlk;have hl9:i.maps.set k {b with l:=b.l}=i.maps:=set_self hlp;rw[hl9,<-ho] at hB9;have hb9:Below B w7 (w8.setCell ⟨g,o+2,none⟩ (.slice xa xn xc)):=(hbl.trans (hb8.mono (Nat.le_trans HQ.out.2.2.2.2.2.2.2.2.2.2.2.1 hbl.size))).setCell hgB _;have HZ:=jd2 hB9 hb9;clear hB hbl hp hlp hlk ho hgc hgB hB9 hb9 hl9 ho8 hb8 hb8c d5 z8 d2 g5 e5
      go_wp2_with fail
      exact⟨⟨k+1,_,by go_num,by omega,hid ⟨HZ.out.1,HZ.out.2⟩⟩,by simp[intOf];omega⟩
    ·obtain rfl:k=i.maps.length:=by omega
     have HZ:=jd2 hB hbl;clear hB hbl
     go_wp2_with fail
     go_ret
     obtain⟨⟨hss1,hsl1⟩,ho7,hOM7,hnd',hms',hb7,q7,hg7,hB7,hz,hltb,hwr7,hom0,_⟩:=HQ.out;obtain⟨hB,hbl⟩:=HZ.out;have hbA:Below w.heap.size w wr:=hb7.trans (hbl.mono (by omega));have hk9:Kept w7 wr (· < B):=⟨hbl.size,fun k h1 h2=>hbl.block k h2,hbl.os,hbl.tape,hbl.output⟩
     have hss9:∀ s∈ssj,OM wr base s.m s.s.own s.l:=fun s hs=>by
      obtain⟨t,ht,he⟩:∃ t∈x.ss,(t.s,t.l)=(s.s,s.l):=by
       have h1:(s.s,s.l)∈ssj.map (fun s=>(s.s,s.l)):=List.mem_map.2 ⟨s,hs,rfl⟩;rw[hsl1] at h1;obtain⟨t,ht,he⟩:=List.mem_map.1 h1;exact⟨t,ht,he⟩
      simp only[Prod.mk.injEq] at he;have h2:=(H.out.sm t ht).below hbA;rw[he.1,he.2] at h2;exact⟨(hOM7 s hs).g.block (hbl.block _ (hms' s hs).2),h2.f,h2.b⟩
     have hya:∀ q,(Value.slice ya yn yc).ownBlock=some q->w.heap.size+2<=q:=ho7.ge;have hyB:∀ q,(Value.slice ya yn yc).ownBlock=some q->q<B:=HYB.out;refine⟨rfl,⟨om',x.ol,.slice ya yn yc,ssj,.slice za zn zc,ps'⟩,⟨?_,⟨hg7.block (hbl.block _ HOB.out),(H.out.own.below hbA).f,H.out.own.b⟩,hss1,(ho7.kept hk9 hyB).any_base (by omega),hss9,hB⟩,?_,?_,hbA⟩
     ·exact(hbl.block _ hltb).trans q7
     ·unfold IX.fp;simp only[List.nodup_cons,List.mem_cons,List.mem_append,List.mem_map,Option.mem_toList,not_or];refine⟨⟨by omega,?_,?_⟩,⟨?_,?_⟩,?_⟩
      ·rintro⟨s,hs,e⟩;have:=(hms' s hs).1;omega
      ·intro e;have:=hya _ e;omega
      ·rintro⟨s,hs,e⟩;have:=(hms' s hs).1;omega
      ·intro e;have:=hya _ e;omega
      ·rw[List.nodup_append];refine⟨hnd',by cases (Value.slice ya yn yc).ownBlock<;>simp,fun a ha b hb e=>?_⟩
       subst e;obtain⟨s,hs,rfl⟩:=List.mem_map.1 ha;obtain⟨c9,f9,h9⟩:=ownG_type ho7 s.m (Option.mem_toList.1 hb);obtain⟨es9,k9,h10⟩:=(hOM7 s hs).g.isMap;rw[h10] at h9;cases h9
     ·intro b hb;unfold IX.fp at hb;simp only[List.mem_cons,List.mem_append,List.mem_map,Option.mem_toList] at hb;rcases hb with rfl|rfl|⟨s,hs,rfl⟩|e
      ·exact nlr
      ·omega
      ·have:=(hms' s hs).1;omega
      ·have:=hya _ e;omega
theorem filt_step {α:Type}[DecidableEq α](f:XI->α)(left:α->Bool):∀ (xs:List XI),(xs.map f).Nodup->∀ x∈xs,left (f x)=true->(xs.filter fun t => !(left (f t)&&!decide (f t=f x))).Perm (xs.filter (fun t => !left (f t))++[x])
 | [],_,x,hx,_=>by cases hx
 | a :: r,hn,x,hx,hl=>by
  rw[List.map_cons,List.nodup_cons] at hn;rcases List.mem_cons.1 hx with rfl|hx'
  ·have e:r.filter (fun t => !(left (f t)&&!decide (f t=f x)))=r.filter (fun t => !left (f t)):=by
    apply List.filter_congr;intro t ht;have:f t≠f x:=fun e=>hn.1 (e▸List.mem_map.2 ⟨t,ht,rfl⟩);simp[this]
   rw[List.filter_cons,List.filter_cons,if_pos (by simp),e,if_neg (by simp[hl])];exact(List.perm_append_singleton x _).symm
  ·have hne:f a≠f x:=fun e=>hn.1 (e▸List.mem_map.2 ⟨x,hx',rfl⟩);have ih:=filt_step f left r hn.2 x hx' hl;rw[List.filter_cons,List.filter_cons];cases hla:left (f a)
   ·simp only[Bool.false_and,Bool.not_false,if_true,List.cons_append];exact ih.cons a
   ·simp only[Bool.true_and,Bool.not_true,Bool.not_not,Bool.false_eq_true,if_false,hne,decide_false];exact ih
theorem look_xi {xs:List XI}{s:Bs}{b:Value}(h:Mx.look (xs.map fun x=>(x.n,pt x.ib)) s=some b):∃ x∈xs,x.n=s/\b=pt x.ib:=by
 have h1:=look_mem h;obtain⟨x,hx,he⟩:=List.mem_map.1 h1;simp only[Prod.mk.injEq] at he;exact⟨x,hx,he.1,he.2.symm⟩
theorem look_xi_some {xs:List XI}{x:XI}(hx:x∈xs):(Mx.look (xs.map fun x=>(x.n,pt x.ib)) x.n).isSome=true:=by
 cases h:Mx.look (xs.map fun x=>(x.n,pt x.ib)) x.n with
 | some b=>rfl
 | none=>rw[look_none,List.map_map] at h;exact absurd (List.mem_map.2 ⟨x,hx,rfl⟩) h
theorem II.lt {w:World}{base ib:Nat}{i:IM}{x:IX}(h:II w base ib i x):∀ b∈x.fp ib,b<w.heap.size:=by
 intro b hb;unfold IX.fp at hb;simp only[List.mem_cons,List.mem_append,List.mem_map,Option.mem_toList] at hb;rcases hb with rfl|rfl|⟨s,hs,rfl⟩|e
 ·exact blk_lt h.ck
 ·exact h.own.g.lt
 ·exact(h.sm s hs).g.lt
 ·exact h.so.lt _ e
structure CLs (w wr:World)(base nm:Nat)(xs ys:List XI)(q:Bs->Bool):Prop where
 g:GM ES prog 9 wr nm (ys.map fun x=>(x.n,pt x.ib))
 p:(ys.map fun x=>(x.n,x.i)).Perm ((xs.filter fun x=>q x.n).map fun x=>(x.n,x.i))
 i:∀ y∈ys,II wr base y.ib y.i y.x
 nd:(ys.flatMap fun y=>y.x.fp y.ib).Nodup
 ge:∀ b∈ys.flatMap (fun y=>y.x.fp y.ib),nm+1<b/\b<wr.heap.size
 b:Below nm w wr
variable {w w':World}{base am:Nat}{S:IL}{xs:List XI}
theorem cloned_any (hA:AM w base am S xs)(hbase:base<=w.heap.size)(hl:xs.length<=1000) :
  Calls prog 28 #[.map (some am)] w fun e w'=>e = .returned (.map (some w.heap.size))/\∃ ys,AM w' base w.heap.size S ys/\(fpA w.heap.size ys).Nodup/\(∀ b∈fpA w.heap.size ys,w.heap.size<=b)/\Below w.heap.size w w':=by
 obtain⟨w1,hw1⟩:∃ w1,w1=w.alloc (.map #[] 0):=⟨_,rfl⟩
 have hb1:Below w.heap.size w w1:=by rw[hw1];exact brf.alloc nlr _
 have hg1:GM ES prog 9 w1 w.heap.size []:=by rw[hw1];exact GM.made ES prog 9 w
 have hs1:w1.heap.size=w.heap.size+1:=by rw[hw1];simp
 have hmp:=(hA.below hb1).g;have H:=jd4 hA hb1 hg1 hs1;have HW:=hid hw1;have hmm := @run_makeMap prog;clear hA hb1 hg1 hw1;go_enter func28,ntmps28
 go_upto_region 2 with(fail)
 rw[<-HW.out]
 go_wp2_with (first
  | (at_range;refine range_gm _ rfl _ rfl K9 underlying57 rfl hmp ?_;intro w0 hrg0 hg0 hs0)
  | go_in)
 rw[hs1] at hrg0 ⊢
 go_frame
 go_loopw [4] (fun _ wr=>∃ (left:Bs->Bool) (cnt:Nat) (ys:List XI),RG ES prog 9 wr am (w.heap.size+1) (xs.map fun x=>(x.n,pt x.ib)) left cnt/\CLs w wr base w.heap.size xs ys (fun s => !left s)) (fun _ wr=>wr.rangeLeft am (w.heap.size+1))
 case atStart =>
  have hb0:Below (w.heap.size+1) w1 w0:=brf.grown hg0 (by omega) (by simp);refine⟨_,_,[],hrg0,?_,?_,by simp,by simp,by simp,H.out.2.1.trans (hb0.mono (by omega))⟩
  ·exact H.out.2.2.1.block (hb0.block _ (by omega))
  ·have e:xs.filter (fun x => !(Mx.look (xs.map fun x=>(x.n,pt x.ib)) x.n).isSome)=[]:=by
    rw[List.filter_eq_nil_iff];intro x hx;rw[look_xi_some hx];simp
   rw[e]
 case round =>
  obtain⟨left,cnt,ys,hrg,hC⟩:=hrel;clear hrg0 hg0 hs0 hmp;obtain⟨wO,hwO⟩:∃ x,x=wr:=⟨_,rfl⟩
  subst hwO
  go_wp2_with (first
   | (at_next;refine next_gm _ rfl _ rfl K9 (w.heap.size+1) _ _ rfl hrg ?_ ?_)
   | go_in)
  ·intro hl0;have HD:=hid hC;clear hC hrg
   go_wp2_with fail
   go_ret
   have hC:=HD.out;have e:xs.filter (fun x => !left x.n)=xs:=List.filter_eq_self.2 fun x _=>by rw[hl0];rfl
   have hp:=hC.p;rw[e] at hp;refine⟨rfl,ys,⟨hC.g,hp.trans H.out.1.p,hC.i,fun y hy=>?_,fun y hy=>?_,H.out.1.nd⟩,?_,?_,hC.b⟩
   ·have h1:=hp.mem_iff.1 (List.mem_map.2 ⟨y,hy,rfl⟩);obtain⟨x,hx,he⟩:=List.mem_map.1 h1;simp only[Prod.mk.injEq] at he;rw[<-he.2];exact H.out.1.ok x hx
   ·have h1:=hp.mem_iff.1 (List.mem_map.2 ⟨y,hy,rfl⟩);obtain⟨x,hx,he⟩:=List.mem_map.1 h1;simp only[Prod.mk.injEq] at he;rw[<-he.1];exact H.out.1.nl x hx
   ·unfold fpA;rw[List.nodup_cons];exact⟨fun h=>by have:=(hC.ge _ h).1;omega,hC.nd⟩
   ·intro b hb;unfold fpA at hb;rcases List.mem_cons.1 hb with rfl|h
    ·exact nlr
    ·have:=(hC.ge b h).1;omega
  ·intro s b w3 cnt1 hlk hls hrg1 hlt hg1 hs1 hen;obtain⟨x,hx,rfl,rfl⟩:=look_xi hlk;have hb3:Below (w.heap.size+1) wO w3:=(Below.refl (w.heap.size+1) wO).grown hg1 (by have:=hC.g.lt;have:=hrg.lt;omega) (fun k hk=>by cases hk;exact nlr);have hnm3:GM ES prog 9 w3 w.heap.size (ys.map fun x=>(x.n,pt x.ib)):=hC.g.block (hb3.block _ (by omega));have hbw3:Below w.heap.size w w3:=hC.b.trans (hb3.mono (by omega));have hII:=(H.out.1.i x hx).below hbw3;have hok:=H.out.1.ok x hx;have HL:=hid (show ys.length<maxLen by
    have h1:=hC.p.length_eq;simp only[List.length_map] at h1;have h2:=List.length_filter_le (fun x:XI => !left x.n) xs;rw[h1];unfold maxLen;omega)
   have HC:=hid (clone_any hII (Nat.le_trans hbase hbw3.size) hok.ns);have HP:=jd9 hC hrg hrg1 hlt hg1 hs1 hb3 hnm3 (And.intro hbw3 (And.intro hx hls));clear hC hrg hrg1 hlt hg1 hs1 hb3 hnm3 hbw3 hII hok hlk hls
   go_wp2_with (go_at_call 26;refine HC.out.mono ?_;rintro e w5 ⟨rfl,x',hII',hnd',hge',hb5⟩;obtain⟨w6,hrun,hg6,hgr6,hs6,hf6⟩:=(HP.out.2.2.2.2.2.2.2.1.block (hb5.block _ HP.out.2.2.2.2.2.2.2.1.lt)).upd K9 underlying57 x.n (Nat.le_trans (H.out.1.nl x HP.out.2.2.2.2.2.2.2.2.2.1) (by unfold maxLen;omega)) (pt w3.heap.size) rfl (by rw[List.length_map];exact HL.out))
   obtain⟨hC,hrg,hrg1,hlt,hg1,hs1,hb3,hnm3,hbw3,hx,hls⟩:=HP.out;have hk6:Kept w5 w6 (·≠w.heap.size):=Kept.grown hgr6 fun k hk=>by cases hk;simp
   have hb6:Below w.heap.size w5 w6:=brf.grown hgr6 (by have:=hb5.size;have:=hC.g.lt;have:=hb3.size;omega) fun k hk=>by cases hk;exact nlr
   have ham:am<w.heap.size:=H.out.1.g.lt;have hbig:w.heap.size<w3.heap.size:=hnm3.lt;have hNI6:NI w5 (·≠w.heap.size):=fun b c t f hb _ e=>by
    obtain⟨es,k,h1⟩:=(hnm3.block (hb5.block _ hnm3.lt)).isMap;rw[e,h1] at hb;cases hb
   have hnot:x.n∉ys.map (·.n):=fun hm=>by
    obtain⟨y,hy,e⟩:=List.mem_map.1 hm;have h1:=hC.p.mem_iff.1 (List.mem_map.2 ⟨y,hy,rfl⟩);obtain⟨z,hz,he⟩:=List.mem_map.1 h1;simp only[Prod.mk.injEq] at he;have h2:(!left z.n)=true:=(List.mem_filter.1 hz).2;rw[he.1,e,hls] at h2;cases h2
   have hup:Mx.upd (ys.map fun x=>(x.n,pt x.ib)) x.n (pt w3.heap.size)=(ys++[(⟨x.n,x.i,w3.heap.size,x'⟩:XI)]).map fun x=>(x.n,pt x.ib):=by
    have h1:Mx.look (ys.map fun x=>(x.n,pt x.ib)) x.n=none:=by
     rw[look_none,List.map_map];exact hnot
    unfold Mx.upd;rw[h1];simp
   rw[hup] at hg6;have hne1:am≠w.heap.size:=by omega
   have hrg6:=(hrg1.blocks (hb5.block _ hrg1.gm.lt) (hb5.block _ hrg1.lt)).blocks (hgr6.block _ (Nat.lt_of_lt_of_le hrg1.gm.lt hb5.size) (fun e=>hne1 (Option.some.inj e))) (hgr6.block _ (Nat.lt_of_lt_of_le hrg1.lt hb5.size) (fun e=>by have:=Option.some.inj e;omega));refine⟨⟨_,cnt1,ys++[⟨x.n,x.i,w3.heap.size,x'⟩],hrg6,⟨hg6,?_,?_,?_,?_,(hbw3.trans (hb5.mono (by omega))).trans hb6⟩⟩,?_⟩
   ·rw[List.map_append];have h1:=(filt_step (·.n) left xs H.out.1.names x hx hls).map (fun x:XI=>(x.n,x.i));rw[List.map_append] at h1;exact(hC.p.append_right _).trans h1.symm
   ·intro y hy;rcases List.mem_append.1 hy with h1|h1
    ·obtain⟨ia,ib',ic,hit⟩:=hrg.iter;refine(((hC.i y h1).kept (N:=(·≠w.heap.size+1)) (Kept.grown hg1 fun k hk=>by cases hk;simp) (fun b hb=>?_) (fun b c t f hb _ e=>by rw[e,hit] at hb;cases hb)).below hb5).kept hk6 (fun b hb=>?_) hNI6
     ·have:=(hC.ge b (List.mem_flatMap.2 ⟨y,h1,hb⟩)).1;omega
     ·have:=(hC.ge b (List.mem_flatMap.2 ⟨y,h1,hb⟩)).1;omega
    ·simp at h1;subst h1;exact hII'.kept hk6 (fun b hb=>by have:=hge' b hb;omega) hNI6
   ·rw[List.flatMap_append,List.nodup_append];refine⟨hC.nd,by simpa using hnd',fun a ha b hb e=>?_⟩;subst e;simp at hb;have h1:=(hC.ge a ha).2;have h2:=hge' a hb;have:=hb3.size;have h3:wO.heap.size<=w3.heap.size:=hb3.size;omega
   ·intro b hb;rw[List.flatMap_append] at hb;rcases List.mem_append.1 hb with h1|h1
    ·have h2:=hC.ge b h1;have h3:wO.heap.size<=w3.heap.size:=hb3.size;have:=hb5.size;omega
    ·simp at h1;have h2:=hge' b h1;have h4:=hII'.lt b h1;have h5:=hrg1.lt;omega
   ·rw[hrg6.left_eq,hrg.left_eq];exact hlt
def fnV (f mb:Nat):Value:=.func (.func f) #[pt mb] #[]
def tabL (mb:Nat):ML Int :=
 [(1,fnV 36 mb),(2,fnV 37 mb),(3,fnV 38 mb),(4,fnV 39 mb),(5,fnV 40 mb),(6,fnV 41 mb),(7,fnV 42 mb),(8,fnV 43 mb),(9,fnV 44 mb),(10,fnV 45 mb),(11,fnV 46 mb),(12,fnV 47 mb),(13,fnV 47 mb),(14,fnV 47 mb),(15,fnV 47 mb),(16,fnV 47 mb),(17,fnV 47 mb),(18,fnV 48 mb),(19,fnV 49 mb),(20,fnV 50 mb),(21,fnV 51 mb),(22,fnV 52 mb),(23,fnV 53 mb),(24,fnV 54 mb),(25,fnV 55 mb),(26,fnV 56 mb)]
structure MX where
 am:Nat
 xs:List XI
 km:Nat
 ks:List XI
 hm:Nat
 cl:ML (List UInt8)
 dm:Option Nat
 fv:Value
 fr:List Value
def MX.fp (mb:Nat)(X:MX):List Nat:=mb :: X.hm :: (X.dm.toList++(X.fv.ownBlock.toList++(fpA X.am X.xs++fpA X.km X.ks)))
abbrev mcells (X:MX):Array Value := #[.map (some X.am),.map (some X.km),.map (some X.hm),.int .u32 (if X.dm.isSome then 1 else 0),.int .i32 0,.int .u32 0,.map X.dm,X.fv]
structure MO (w:World)(base mb:Nat)(M:MM)(X:MX):Prop where
 ck:w.heap[mb]? = some (.cells (mcells X) 73 (0,0))
 a:AM w base X.am M.all X.xs
 k:AM w base X.km M.kept X.ks
 h:GM ES prog 9 w X.hm X.cl
 ht:∀ p∈X.cl,p.2 = .bool true
 hc:∀ n,M.ch n=(Mx.look X.cl n).isSome
 d:∀ dm,X.dm=some dm->GM EI prog 3 w dm (tabL mb)
 f:OwnG w base 28 1 X.fv (X.fr.map fun v=>[v])
 nd:(X.fp mb).Nodup
variable {w w':World}{base mb:Nat}{M:MM}{X:MX}
theorem MO.kept {N:Nat->Prop}(h:MO w base mb M X)(hk:Kept w w' N)(hf:∀ b∈X.fp mb,N b)(hN:NI w N):MO w' base mb M X:=by
 have hm:∀ b,b∈fpA X.am X.xs->N b:=fun b hb=>hf b (by unfold MX.fp;simp[hb]);have hm2:∀ b,b∈fpA X.km X.ks->N b:=fun b hb=>hf b (by unfold MX.fp;simp[hb]);refine⟨(hk.block mb (blk_lt h.ck) (hf mb (by simp[MX.fp]))).trans h.ck,h.a.kept hk hm hN,h.k.kept hk hm2 hN,h.h.block (hk.block _ h.h.lt (hf _ (by simp[MX.fp]))),h.ht,h.hc,fun dm e=>(h.d dm e).block (hk.block _ (h.d dm e).lt (hf _ (by simp[MX.fp,e]))),h.f.kept hk fun q hq=>hf q (by simp[MX.fp,hq]),h.nd⟩
theorem MO.below (h:MO w base mb M X)(hb:Below w.heap.size w w'):MO w' base mb M X :=
 h.kept (Kept.of_below (N:=fun _=>True) hb fun k hk _=>hk) (fun _ _=>trivial) fun _ _ _ _ _ _=>trivial
theorem MO.mod0 (h:MO w base mb M X):Mod0 w mb X.am:=⟨_,h.ck,rfl⟩
theorem MO.cells (h:MO w base mb M X):w.cell? ⟨mb,0,none⟩=some (.map (some X.am))/\w.cell? ⟨mb,1,none⟩=some (.map (some X.km))/\w.cell? ⟨mb,2,none⟩=some (.map (some X.hm))/\w.cell? ⟨mb,3,none⟩=some (.int .u32 (if X.dm.isSome then 1 else 0))/\w.cell? ⟨mb,4,none⟩=some (.int .i32 0)/\w.cell? ⟨mb,5,none⟩=some (.int .u32 0)/\w.cell? ⟨mb,6,none⟩=some (.map X.dm)/\w.cell? ⟨mb,7,none⟩=some X.fv/\(∀ j,w.frozen? ⟨mb,j,none⟩=false):=by
 have:=h.ck;refine⟨?_,?_,?_,?_,?_,?_,?_,?_,fun j=>?_⟩<;>simp[World.cell?,World.frozen?,this]
theorem AM.lt {am:Nat}{S:IL}{xs:List XI}(h:AM w base am S xs):∀ b∈fpA am xs,b<w.heap.size:=by
 intro b hb;unfold fpA at hb;rcases List.mem_cons.1 hb with rfl|h1
 ·exact h.g.lt
 ·obtain⟨x,hx,h2⟩:=List.mem_flatMap.1 h1;exact(h.i x hx).lt b h2
theorem MO.lt (h:MO w base mb M X):∀ b∈X.fp mb,b<w.heap.size:=by
 intro b hb;unfold MX.fp at hb;simp only[List.mem_cons,List.mem_append,Option.mem_toList] at hb;rcases hb with rfl|rfl|e|e|e|e
 ·exact blk_lt h.ck
 ·exact h.h.lt
 ·exact(h.d b e).lt
 ·exact h.f.lt _ e
 ·exact h.a.lt b e
 ·exact h.k.lt b e
theorem II.typ {w:World}{base ib:Nat}{i:IM}{x:IX}(h:II w base ib i x):∀ b∈x.fp ib,∀ c t f,w.heap[b]? = some (.cells c t f)->t≠5/\t≠108/\t≠111:=by
 intro b hb c t f hc;unfold IX.fp at hb;simp only[List.mem_cons,List.mem_append,List.mem_map,Option.mem_toList] at hb;rcases hb with rfl|rfl|⟨s,hs,rfl⟩|e
 ·rw[h.ck] at hc;cases hc;decide
 ·obtain⟨es,k,h1⟩:=h.own.g.isMap;rw[h1] at hc;cases hc
 ·obtain⟨es,k,h1⟩:=(h.sm s hs).g.isMap;rw[h1] at hc;cases hc
 ·obtain⟨c9,f9,h9⟩:=ownG_type h.so b e;rw[h9] at hc;cases hc;decide
theorem AM.typ {am:Nat}{S:IL}{xs:List XI}(h:AM w base am S xs):∀ b∈fpA am xs,∀ c t f,w.heap[b]? = some (.cells c t f)->t≠5/\t≠108/\t≠111:=by
 intro b hb c t f hc;unfold fpA at hb;rcases List.mem_cons.1 hb with rfl|h1
 ·obtain⟨es,k,h1⟩:=h.g.isMap;rw[h1] at hc;cases hc
 ·obtain⟨x,hx,h2⟩:=List.mem_flatMap.1 h1;exact(h.i x hx).typ b h2 c t f hc
theorem MO.typ (h:MO w base mb M X):∀ b∈X.fp mb,∀ c t f,w.heap[b]? = some (.cells c t f)->t≠5/\t≠108/\t≠111:=by
 intro b hb c t f hc;unfold MX.fp at hb;simp only[List.mem_cons,List.mem_append,Option.mem_toList] at hb;rcases hb with rfl|rfl|e|e|e|e
 ·rw[h.ck] at hc;cases hc;decide
 ·obtain⟨es,k,h1⟩:=h.h.isMap;rw[h1] at hc;cases hc
 ·obtain⟨es,k,h1⟩:=(h.d b e).isMap;rw[h1] at hc;cases hc
 ·obtain⟨c9,f9,h9⟩:=ownG_type h.f b e;rw[h9] at hc;cases hc;decide
 ·exact h.a.typ b e c t f hc
 ·exact h.k.typ b e c t f hc
theorem ni_of (F:List Nat)(ht:∀ b∈F,∀ c t f,w.heap[b]? = some (.cells c t f)->t≠5/\t≠108/\t≠111):NI w (·∉F):=by
 intro b c t f hb h3 hm;have:=ht b hm c t f hb;rcases h3 with h|h|h<;>simp[h] at this
structure Stp (w w':World)(F F':List Nat):Prop where
 k:Kept w w' (·∉F)
 n:∀ b∈F',b∈F\/w.heap.size<=b
theorem Stp.trans {a b c:World}{F G H:List Nat}(h:Stp a b F G)(h2:Stp b c G H):Stp a c F H:=by
 refine⟨⟨Nat.le_trans h.k.size h2.k.size,fun k hk hn=>?_,h2.k.st.1.trans h.k.st.1,h2.k.st.2.1.trans h.k.st.2.1,h2.k.st.2.2.trans h.k.st.2.2⟩,fun x hx=>?_⟩
 ·refine(h2.k.block k (Nat.lt_of_lt_of_le hk h.k.size) fun hm=>?_).trans (h.k.block k hk hn);rcases h.n k hm with h3|h3
  ·exact hn h3
  ·omega
 ·rcases h2.n x hx with h3|h3
  ·exact h.n x h3
  ·exact .inr (Nat.le_trans h.k.size h3)
theorem Stp.refl (a:World)(F:List Nat):Stp a a F F:=⟨Kept.refl _ _,fun _ h => .inl h⟩
theorem Stp.below {a b:World}{F G:List Nat}{B:Nat}(h:Stp a b F G)(hF:∀ x∈F,B<=x)(hB:B<=a.heap.size):Below B a b :=
 ⟨h.k.st.1,h.k.st.2.1,h.k.st.2.2,h.k.size,fun k hk=>h.k.block k (by omega) (fun hm=>by have:=hF k hm;omega)⟩
theorem Stp.of_below {a b:World}(h:Below a.heap.size a b)(F:List Nat):Stp a b F F:=⟨Kept.of_below h fun k hk _=>hk,fun _ h => .inl h⟩
structure Ap (mb:Nat)(X:MX):Prop where
 mh:mb≠X.hm
 d:∀ q,X.dm=some q->q≠mb/\q≠X.hm/\X.fv.ownBlock≠some q/\q∉fpA X.am X.xs/\q∉fpA X.km X.ks
 f:∀ q,X.fv.ownBlock=some q->q≠mb/\q≠X.hm/\q∉fpA X.am X.xs/\q∉fpA X.km X.ks
 a:∀ b∈fpA X.am X.xs,b≠mb/\b≠X.hm/\b∉fpA X.km X.ks
 k:∀ b∈fpA X.km X.ks,b≠mb/\b≠X.hm
 na:(fpA X.am X.xs).Nodup
 nk:(fpA X.km X.ks).Nodup
theorem Ap.of (h:(X.fp mb).Nodup):Ap mb X:=by
 unfold MX.fp at h;simp only[List.nodup_cons,List.nodup_append,List.mem_cons,List.mem_append,not_or,Option.mem_toList] at h;obtain⟨⟨n1,n2,n3,n4,n5⟩,⟨m2,m3,m4,m5⟩,_,⟨_,⟨hnA,hnK,hAK⟩,hfA⟩,hdA⟩:=h;exact⟨n1,fun q e=>⟨fun e2=>n2 (e2▸e),fun e2=>m2 (e2▸e),fun e2=>hdA q e q (.inl e2) rfl,fun e2=>hdA q e q (.inr (.inl e2)) rfl,fun e2=>hdA q e q (.inr (.inr e2)) rfl⟩,
  fun q e=>⟨fun e2=>n3 (e2▸e),fun e2=>m3 (e2▸e),fun e2=>hfA q e q (.inl e2) rfl,fun e2=>hfA q e q (.inr e2) rfl⟩,
  fun b e=>⟨fun e2=>n4 (e2▸e),fun e2=>m4 (e2▸e),fun e2=>hAK b e b e2 rfl⟩,fun b e=>⟨fun e2=>n5 (e2▸e),fun e2=>m5 (e2▸e)⟩,hnA,hnK⟩
theorem Ap.nd (h:Ap mb X):(X.fp mb).Nodup:=by
 unfold MX.fp;simp only[List.nodup_cons,List.nodup_append,List.mem_cons,List.mem_append,not_or,Option.mem_toList];refine⟨⟨h.mh,fun e=>(h.d _ e).1 rfl,fun e=>(h.f _ e).1 rfl,fun e=>(h.a _ e).1 rfl,fun e=>(h.k _ e).1 rfl⟩,⟨fun e=>(h.d _ e).2.1 rfl,fun e=>(h.f _ e).2.1 rfl,fun e=>(h.a _ e).2.1 rfl,fun e=>(h.k _ e).2 rfl⟩,
  by cases X.dm<;>simp,⟨by cases X.fv.ownBlock<;>simp,⟨h.na,h.nk,fun a ha b hb e=>(h.a a ha).2.2 (e▸hb)⟩,fun a ha b hb e=>?_⟩,fun a ha b hb e=>?_⟩
 ·subst e;rcases hb with h1|h1
  ·exact(h.f a ha).2.2.1 h1
  ·exact(h.f a ha).2.2.2 h1
 ·subst e;rcases hb with h1|h1|h1
  ·exact(h.d a ha).2.2.1 h1
  ·exact(h.d a ha).2.2.2.1 h1
  ·exact(h.d a ha).2.2.2.2 h1
theorem MX.mem {b:Nat}:b∈X.fp mb↔b=mb\/b=X.hm\/X.dm=some b\/X.fv.ownBlock=some b\/b∈fpA X.am X.xs\/b∈fpA X.km X.ks:=by
 unfold MX.fp;simp only[List.mem_cons,List.mem_append,Option.mem_toList]
end Go.Proofs.YtgkabcaodnofnaaGreat
