import Derived.Test.YtgkabcaodnofnaaGreatB02
import Derived.Test.YtgkabcaodnofnaaGreatB06
import Derived.Test.YtgkabcaodnofnaaGreatB09
import Derived.Test.YtgkabcaodnofnaaGreatB17
import Derived.Deep.OwnRows
set_option linter.unusedSimpArgs false
set_option linter.unusedVariables false
set_option maxRecDepth 100000
set_option maxHeartbeats 2000000
open Go.Proofs.Tryz
namespace Go.Md
def ownR (i:IM)(nw k:Nat):Nat->Option Bs:=fun j=>if j<nw then(if i.size/2^i.cl<=j/\j<k/\i.back≠[] then some (zer (16*2^i.cl)) else i.own j) else none
def resizeI (i:IM)(n:Nat):IM:={i with size:=n,own:=ownR i (n/2^i.cl) (n/2^i.cl),maps:=sizes i.maps (i.size/2^i.cl:Nat) (n/2^i.cl:Nat)}
theorem ownR_start (i:IM)(nw:Nat):ownR i nw (i.size/2^i.cl)=fun j=>if j<nw then i.own j else none:=by
 funext j;unfold ownR;split
 ·rw[if_neg (by omega)]
 ·rfl
theorem ownR_step (i:IM)(nw k:Nat)(hk:i.size/2^i.cl<=k)(hn:k<nw)(hb:i.back≠[]):(fun j=>if j=k then some (zer (16*2^i.cl)) else ownR i nw k j)=ownR i nw (k+1):=by
 funext j;unfold ownR;by_cases e:j=k
 ·subst e;rw[if_pos rfl,if_pos hn,if_pos ⟨hk,by omega,hb⟩]
 ·rw[if_neg e];split
  ·by_cases h:i.size/2^i.cl<=j/\j<k/\i.back≠[]
   ·rw[if_pos h,if_pos ⟨h.1,by omega,h.2.2⟩]
   ·rw[if_neg h,if_neg (fun h2=>h ⟨h2.1,by omega,h2.2.2⟩)]
  ·rfl
theorem ownR_end (i:IM)(nw k:Nat)(h:nw<=k\/i.back=[]):ownR i nw k=ownR i nw nw:=by
 funext j;unfold ownR;split
 ·rcases h with h|h
  ·by_cases e:i.size/2^i.cl<=j/\j<k/\i.back≠[]
   ·rw[if_pos e,if_pos ⟨e.1,by omega,e.2.2⟩]
   ·rw[if_neg e,if_neg (fun h2=>e ⟨h2.1,by omega,h2.2.2⟩)]
  ·rw[if_neg (fun h2=>h2.2.2 h),if_neg (fun h2=>h2.2.2 h)]
 ·rfl
end Go.Md
namespace Go.Proofs.YtgkabcaodnofnaaGreat
open Go.RowKit Go.Mx Go.Md
theorem resizeI_ok {i:IM}(h:IOk i){n:Nat}(hn:n<=4096)(hw:n%2^i.cl=0):IOk (resizeI i n) where
 cl:=h.cl
 size:=hn
 whole:=hw
 own:=fun k b hk=>by
  have hk:ownR i (n/2^i.cl) (n/2^i.cl) k=some b:=hk;unfold ownR at hk;by_cases h1:k<n/2^i.cl
  ·rw[if_pos h1] at hk;refine⟨h1,?_⟩;split at hk
   ·cases hk;show(zer (16*2^i.cl)).length=16*2^i.cl;simp[zer]
   ·exact(h.own k b hk).2
  ·rw[if_neg h1] at hk;cases hk
 shots:=h.shots
 ns:=h.ns
 nb:=h.nb
theorem OM.filt {w w':World}{base m:Nat}{own:Nat->Option Bs}{l:ML Int}(h:OM w base m own l)(nw:Nat)(hg:GM EI prog 3 w' m (l.filter fun p => !decide ((nw:Int)<=p.1)))(hgr:w.grownBy w' (some m)) :
  OM w' base m (fun j=>if j<nw then own j else none) (l.filter fun p => !decide ((nw:Int)<=p.1)):=by
 obtain⟨es,mc,hmap⟩:=h.g.isMap;refine⟨hg,fun p hp=>?_,fun k bs hk=>?_⟩
 ·obtain⟨hp1,hp2⟩:=List.mem_filter.1 hp;obtain⟨k,bs,h1,h2,h3⟩:=h.f p hp1;refine⟨k,bs,h1,?_,h3.kept (Kept.grown hgr (N:=(·≠m)) fun q hq=>by cases hq;simp) fun q hq e=>?_⟩
  ·rw[h1] at hp2;simp at hp2;rw[if_pos hp2];exact h2
  ·obtain⟨c,f,hc⟩:=ownB_type h3 q hq;rw[e,hmap] at hc;cases hc
 ·by_cases hkn:k<nw
  ·simp only[if_pos hkn] at hk;obtain⟨v,hv⟩:=h.b k bs hk;exact⟨v,List.mem_filter.2 ⟨hv,by simp;omega⟩⟩
  ·simp only[if_neg hkn] at hk;cases hk
theorem zeros_own (w:World)(base n:Nat)(hb:base<=w.heap.size)(hn:n<=1000000):OwnB (w.alloc (.cells (madeCells #[.int .u8 0] n) 5)) base 5 (.slice (some ⟨w.heap.size,0,none⟩) n n) (zer n):=by
 have e1:(madeCells #[Value.int .u8 0] n).toList=(List.replicate n (0:UInt8)).map u8:=by
  rw[toList_madeCells_one];simp
 have hs:(madeCells #[Value.int .u8 0] n).size=n:=by
  have:=congrArg List.length e1;simpa using this
 refine⟨by simp[zer],.inr ⟨w.heap.size,n,_,by simp[zer],hb,alloc_new w _,by simp[zer],by unfold maxLen;omega,by rw[hs,Nat.mul_one],?_⟩⟩;rw[e1];simp[zer]
theorem resize_any {w:World}{base ib:Nat}{i:IM}{x:IX}(h:II w base ib i x)(hnd:(x.fp ib).Nodup)(hok:IOk i)(hbase:base<=w.heap.size)(n:Nat)(hn:n<=4096) :
  Calls prog 83 #[pt ib,.int .i64 n] w fun e w'=>e = .returned (.tuple #[])/\∃ x',II w' base ib (resizeI i n) x'/\x'.om=x.om/\x'.ss=x.ss/\x'.sv=x.sv/\Kept w w' (fun b=>b≠ib/\b≠x.om):=by
 have hfn:=IX.fp_ib hnd;obtain⟨was,hwas⟩:∃ q,q=i.size/2^i.cl:=⟨_,rfl⟩
 obtain⟨nw,hnw⟩:∃ q,q=n/2^i.cl:=⟨_,rfl⟩
 have hcl:=hok.cl;have hwl:was<=4096:=by rw[hwas];exact Nat.le_trans (Nat.div_le_self _ _) hok.size
 have hnl:nw<=4096:=by rw[hnw];exact Nat.le_trans (Nat.div_le_self _ _) hn
 have hmin:min i.cl 64=i.cl:=Nat.min_eq_left (by omega);have hsh1:((i.size:Int)/2^min i.cl 64)=(was:Int):=by rw[hmin,hwas];push_cast;rfl
 have hsh2:((n:Int)/2^min i.cl 64)=(nw:Int):=by rw[hmin,hnw];push_cast;rfl
 have f0:∀ w',Below w.heap.size w w'->w'.cell? ⟨ib,0,none⟩=some (.int .i64 i.cl):=fun w' hB=>(h.below hB).cells.1;have f1:∀ w',Below w.heap.size w w'->w'.cell? ⟨ib,1,none⟩=some (.int .i64 i.size):=fun w' hB=>(h.below hB).cells.2.1;have HS:=jd2 hsh1 hsh2;have H:=jd8 h hfn hok hbase hn hwas hnw hcl;have e0:=f0 w brf;have e1:=f1 w brf;clear h hfn hok hbase hwas hnw hnd hmin hcl;go_enter func83,ntmps83
 go_upto_region 0 with(fail)
 go_region_held (fun w'=>Below w.heap.size w w') (first|with_reducible exact brf.drew|with_reducible assumption|with_reducible exact Below.drew (by assumption)|exact(brf.alloc nlr _).drew|exact Below.alloc (by assumption) (Below.size (by assumption)) _|exact Below.setCell (by assumption) (by simp) _) (fail)
 obtain⟨w3,hw3⟩:∃ z,z=(w.alloc (.cells #[.int .i64 nw] 3)).drew:=⟨_,rfl⟩
 rw[<-hw3];have hb3:Below w.heap.size w w3:=by rw[hw3];exact(brf.alloc nlr _).drew
 have hq3:w3.heap[w.heap.size]? = some (.cells #[.int .i64 nw] 3 (0,0)):=by rw[hw3];exact alloc_new w _
 have g3:w3.cell? ⟨ib,3,none⟩=some (.map (some x.om)):=(H.out.1.below hb3).cells.2.2.2.1;have hlb:∀ p∈x.ol,0<=p.1/\p.1<=1000000:=fun p hp=>by
  obtain⟨k,bs,h1,h2,_⟩:=H.out.1.own.f p hp;have:=(H.out.2.2.1.own k bs h2).1;have h4:=H.out.2.2.2.2.2.1;rw[<-h4] at this;omega
 have HD:=hid (delf_any nw w.heap.size w3 (H.out.1.below hb3).own.g hq3 hlb);have HB3:=jd3 hb3 hq3 hlb;clear hw3 hb3 hq3 hlb e0 e1 f0 f1;go_upto_region 2 with(go_at_call 111;refine HD.out.mono ?_;rintro e w5 ⟨rfl,hg5,hgr5⟩)
 obtain⟨hb3,hq3,hlb⟩:=HB3.out;obtain⟨h,hfn,hok,hbase,hn,hwas,hnw,hcl⟩:=H.out;have hom5:=(h.below hb3).own.filt nw hg5 hgr5;rw[<-ownR_start i nw,<-hwas] at hom5;have hk5:Kept w w5 (·≠x.om):=(Kept.of_below (N:=fun _=>True) hb3 fun _ h _=>h).imp (fun _ _=>trivial) |>.trans (Kept.grown hgr5 fun q hq=>by cases hq;simp);have hne3:w.heap.size≠x.om:=fun e=>by have:=h.own.g.lt;omega
 have hq5:w5.heap[w.heap.size]? = some (.cells #[.int .i64 nw] 3 (0,0)):=(hgr5.block _ (blk_lt hq3) (by simpa using hne3)).trans hq3;have hl5:x.ol.length<=4096:=Nat.le_trans (h.own.len hok.own) (Nat.le_trans (Nat.div_le_self _ _) hok.size);have hlf:(x.ol.filter fun p => !decide ((nw:Int)<=p.1)).length<=4096:=Nat.le_trans (List.length_filter_le _ _) hl5;have HR0:=jd4 hom5 hk5 hq5 (show(x.ol.filter fun p => !decide ((nw:Int)<=p.1)).length<=4096+was by omega);have hib:=blk_lt h.ck;have HN:=jd2 hne3 hib;have HHH:=jd2 hib hib;clear hb3 hq3 hlb h hfn hok hbase hn hwas hnw hcl hom5 hk5 hq5 hl5 hlf hne3 g3 hg5 hgr5 hib HD
 go_wp2_with fail
 go_loopw [6] (fun s6 wr=>∃ (k:Nat) (ol:ML Int),s6 = .int .i64 k/\was<=k/\(k<=nw\/k=was)/\Hid (OM wr base x.om (ownR i nw k) ol/\Kept w wr (·≠x.om)/\wr.heap[w.heap.size]? = some (.cells #[.int .i64 nw] 3 (0,0))/\ol.length<=4096+k)) (fun s6 _=>nw-(intOf s6).toNat)
 case atStart=>exact⟨was,_,rfl,nlr,.inr rfl,hid HR0.out⟩
 case round =>
  obtain⟨k,ol,rfl,hwk,hkn,hR⟩:=hrel;obtain⟨wO,hwO⟩:∃ x,x=wr:=⟨_,rfl⟩
  subst hwO;have q0:wO.cell? ⟨w.heap.size,0,none⟩=some (.int .i64 nw):=by have:=hR.out.2.2.1;simp[World.cell?,this]
  have hq1:wO.heap[ib]? = some (.cells #[.int .i64 i.cl,.int .i64 i.size,str i.back,.map (some x.om),x.sv,x.mv] 87 (0,0)):=(hR.out.2.1.block ib (blk_lt H.out.1.ck) H.out.2.1.1).trans H.out.1.ck;have hck:=hid hq1;have q2:wO.cell? ⟨ib,2,none⟩=some (str i.back):=by simp[World.cell?,hq1]
  clear hq1;by_cases hgo:k<nw/\i.back≠[]
  ·obtain⟨hlt,hbne⟩:=hgo;have eb:(i.back==[])=false:=by simpa using hbne
   have HBN:=hid hbne;clear hbne;go_upto_region 5 with(fail)
   have bel:∀ w',Below wO.heap.size wO w'->w'.heap[ib]? = some (.cells #[.int .i64 i.cl,.int .i64 i.size,str i.back,.map (some x.om),x.sv,x.mv] 87 (0,0)):=fun w' hB=>(hB.block ib (blk_lt hck.out)).trans hck.out;have k0:∀ w',Below wO.heap.size wO w'->w'.cell? ⟨ib,0,none⟩=some (.int .i64 i.cl):=fun w' hB=>by simp[World.cell?,bel w' hB]
   have k3:∀ w',Below wO.heap.size wO w'->w'.cell? ⟨ib,3,none⟩=some (.map (some x.om)):=fun w' hB=>by simp[World.cell?,bel w' hB]
   obtain⟨N,hN⟩:∃ q,q=16*2^i.cl:=⟨_,rfl⟩
   have hNl:N<=1024:=by rw[hN];have:=Nat.pow_le_pow_right (n:=2) (by omega) H.out.2.2.2.2.2.2.2;omega
   have hmin:min i.cl 64=i.cl:=Nat.min_eq_left (by have:=H.out.2.2.2.2.2.2.2;omega);have hshl:IntKind.i64.wrap ((16:Int)*2^min i.cl 64)=(N:Int):=by
    rw[hmin,show((16:Int)*2^i.cl)=((16*2^i.cl:Nat):Int) by push_cast;rfl,<-hN,IntWalk.i64_in _ (by omega)]
   have hmk:∀ w',(Instr.makeSlice 23 (.int .i64 (N:Int)) (.int .i64 (N:Int))).run prog w' = .ok (.slice (some ⟨w'.heap.size,0,none⟩) N N) (w'.alloc (.cells (madeCells #[.int .u8 0] N) 5)):=fun w'=>run_make_row' (P:=prog) 23 5 (.int .u8 0) 1 underlying23 info5 rfl .i64 .i64 N (by omega) (by omega) w';obtain⟨wA,hwA⟩:∃ z,z=(wO.alloc (.cells (madeCells #[.int .u8 0] N) 5)).drew:=⟨_,rfl⟩
   have hbA:Below wO.heap.size wO wA:=by rw[hwA];exact(brf.alloc nlr _).drew
   have hoA:OwnB wA base 5 (.slice (some ⟨wO.heap.size,0,none⟩) N N) (zer N):=by
    rw[hwA];exact(zeros_own wO base N (Nat.le_trans H.out.2.2.2.1 hR.out.2.1.size) (by omega)).below (B:=(wO.alloc (.cells (madeCells #[.int .u8 0] N) 5)).heap.size) brf.drew fun q hq=>by cases hq;simp
   have hlk:k<=4096:=Nat.le_trans (Nat.le_of_lt hlt) (by rw[H.out.2.2.2.2.2.2.1];exact Nat.le_trans (Nat.div_le_self _ _) H.out.2.2.2.2.1);obtain⟨w6,hrun,hom6,hk6,hs6,hfz6,hgr6⟩:=(hR.out.1.below hbA).upd (k:=k) (by omega) (by have:=hR.out.2.2.2;unfold maxLen;omega) hoA;have hzz:zer N=zer (16*2^i.cl):=by rw[hN]
   rw[hzz,ownR_step i nw k (by rw[<-H.out.2.2.2.2.2.1];exact hwk) hlt HBN.out] at hom6;have hkA:Kept w w6 (·≠x.om):=(hR.out.2.1.trans ((Kept.of_below (N:=fun _=>True) hbA fun _ h _=>h).imp fun _ _=>trivial)).trans hk6;have hq6:w6.heap[w.heap.size]? = some (.cells #[.int .i64 nw] 3 (0,0)):=(hk6.block _ (Nat.lt_of_lt_of_le (blk_lt hR.out.2.2.1) hbA.size) HN.out.1).trans ((hbA.block _ (blk_lt hR.out.2.2.1)).trans hR.out.2.2.1);have hB0:Below wO.heap.size wO wO.drew:=brf.drew;have HU:=jd4 hom6 hkA hq6 (show(Mx.upd ol (k:Int) (.slice (some ⟨wO.heap.size,0,none⟩) N N)).length<=4096+(k+1) by rw[upd_len];have:=hR.out.2.2.2;split<;>omega)
   have hrun':(Instr.mapUpdate 84 (.map (some x.om)) (.int .i64 k) (.slice (some ⟨wO.heap.size,0,none⟩) N N)).run prog wA = .ok () w6:=hrun;have HWA:=hid hwA;clear hzz hom6 hkA hq6 hrun hk6 hs6 hfz6 hgr6 hN hNl hmin hoA bel q0 q2 hwA;refine wp_region_K 11 (fun w'=>Below wO.heap.size wO w') (by kernel_rfl) ?_;refine qk 0 ?_;try simp only[nk]
   refine qk 1 ?_;try simp only[nk]
   refine qk 2 ?_;try simp only[nk]
   refine rq 3 ?_;try simp only[nk]
   refine qk 4 ?_;try simp only[nk]
   refine qk 5 ?_;try simp only[nk]
   refine qk 6 ?_;try simp only[nk]
   refine qk 7 ?_;try simp only[nk]
   refine rq 8 ?_;try simp only[nk]
   refine rq 9 ?_;try simp only[nk]
   refine wpAnyK_ready (rs:=[10]) (by kernel_rfl) (by simp) (AllReadyK.cons rfl (fun K hK=>?_) AllReadyK.nil);go_simp
   try rw[<-HWA.out]
   refine hK.out _ _ (fun _=>hbA) ?_;clear hK K
   try simp only[nk]
   try rw[<-HWA.out]
   refine wpAnyK_ready (rs:=[11]) (by kernel_rfl) (by simp) (AllReadyK.cons rfl (fun K hK=>?_) AllReadyK.nil);go_simp
   refine hK.out _ _ (fun h=>by cases h) ?_;clear hK K
   try simp only[nk]
   refine wpAnyK_done (by kernel_rfl) ?_ _;clear hrun' hmk k0 k3 hbA hB0
   go_wp2_with fail
   go_roundw
   case rel=>exact⟨k+1,_,by go_num,by omega,.inl (by omega),hid HU.out⟩
   case measure=>simp[intOf];omega
  ·have hend:nw<=k\/i.back=[]:=by
    by_cases h1:k<nw
    ·exact .inr (Classical.byContradiction fun h2=>hgo ⟨h1,h2⟩)
    ·exact .inl (by omega)
   have HEN:=hid (ownR_end i nw k hend);clear hgo;have hxx:(k<nw/\(i.back==[])=true)\/¬ k<nw:=by
    rcases hend with h1|h1
    ·exact .inr (by omega)
    ·by_cases h2:k<nw
     ·exact .inl ⟨h2,by simpa using h1⟩
     ·exact .inr h2
   clear hend;rcases hxx with⟨hlt,eb⟩|hlt
   all_goals
    go_upto_region 6 with(fail)
    have hq1:=hck.out;have c1:wO.cell? ⟨ib,1,none⟩=some (.int .i64 i.size):=by simp[World.cell?,hq1]
    have z1:wO.frozen? ⟨ib,1,none⟩=false:=by simp[World.frozen?,hq1]
    clear hq1 q0 q2
    try clear eb
    try clear hlt
    go_upto_region 7 with(fail)
    obtain⟨w7,hw7⟩:∃ z,z=wO.setCell ⟨ib,1,none⟩ (.int .i64 n):=⟨_,rfl⟩
    rw[<-hw7];obtain⟨h,hfn,hok,hbase,hn,hwas,hnw,hcl⟩:=H.out;obtain⟨hom,hkO,hqb,holl⟩:=hR.out;have hib:=blk_lt hck.out;have hk17:Kept wO w7 (·≠ib):=by rw[hw7];exact Kept.set _ _ _ _ (by simp)
    have hk7:Kept w w7 (fun b=>b≠ib/\b≠x.om):=(hkO.imp fun b hb=>hb.2).trans (hk17.imp fun b hb=>hb.1);have hq7:w7.heap[ib]? = some (.cells #[.int .i64 i.cl,.int .i64 n,str i.back,.map (some x.om),x.sv,x.mv] 87 (0,0)):=by
     rw[hw7,heap_setCell_at' wO ib 1 _ _ 87 _ hck.out];rfl
    have hNI:NI w (fun b=>b≠ib/\b≠x.om):=fun b c t f hb h3=>by
     refine⟨fun e=>?_,fun e=>?_⟩
     ·rw[e,h.ck] at hb;cases hb;rcases h3 with h|h|h<;>cases h
     ·obtain⟨es,mc,hmap⟩:=h.own.g.isMap;rw[e,hmap] at hb;cases hb
    have hm7:BMS w7 base x.mv i.maps x.ps:=h.maps.kept hk7 fun b c t f hb ht=>hNI b c t f hb (by rcases ht with h|h<;>simp[h])
    have hb7:base<=w7.heap.size:=Nat.le_trans hbase hk7.size;have hqb7:w7.heap[w.heap.size]? = some (.cells #[.int .i64 nw] 3 (0,0)):=(hk17.block _ (blk_lt hqb) (by have:=HHH.out.1;omega)).trans hqb;have hom7:OM w7 base x.om (ownR i nw nw) ol:=by
     rw[<-HEN.out];exact hom.kept hk17 (Ne.symm hfn.1) fun b c f hb e=>by rw[e,hck.out] at hb;cases hb
    obtain⟨ma,mn,mc,hmv⟩:=ownG_sh hm7.o;have k5:∀ w',Below w7.heap.size w7 w'->w'.cell? ⟨ib,5,none⟩=some (.slice ma mn mc):=fun w' hB=>by rw[World.cell?_of_block (hB.block ib (blk_lt hq7))];simp[World.cell?,hq7,hmv]
    have kz:∀ w',Below w7.heap.size w7 w'->w'.frozen? ⟨ib,5,none⟩=false:=fun w' hB=>by have:=(hB.block ib (blk_lt hq7)).trans hq7;simp[World.frozen?,this]
    have kb:∀ w',Below w7.heap.size w7 w'->w'.cell? ⟨w.heap.size,0,none⟩=some (.int .i64 nw):=fun w' hB=>by rw[World.cell?_of_block (hB.block _ (blk_lt hqb7))];simp[World.cell?,hqb7]
    have hwl2:was<=100000:=by omega
    have hnl2:nw<=100000:=by omega
    have HZ:=hid (fun w' (hB:Below w7.heap.size w7 w')=>sizes_any (hm7.below hB) (Nat.le_trans hb7 hB.size) was nw hwl2 hnl2);rw[hmv] at HZ;have HY:=jd8 h hfn hk7 hq7 hNI hom7 hwas hnw;have hB0:Below w7.heap.size w7 w7.drew:=brf.drew;clear h hfn hok hbase hn hwas hnw hcl hom hkO hqb holl hib hk17 hk7 hq7 hNI hm7 hb7 hqb7 hom7 hw7 hmv c1 z1;refine wp_region_K 10 (fun w'=>Below w7.heap.size w7 w') (by kernel_rfl) ?_;refine qk 0 ?_;try simp only[nk]
    refine qk 1 ?_;try simp only[nk]
    refine qk 2 ?_;try simp only[nk]
    refine qk 3 ?_;try simp only[nk]
    refine rq 4 ?_;try simp only[nk]
    refine qk 5 ?_;try simp only[nk]
    refine rq 6 ?_;try simp only[nk]
    refine wpAnyK_ready (rs:=[7]) (by kernel_rfl) (by simp) (AllReadyK.cons rfl (fun K hK=>?_) AllReadyK.nil);go_simp
    go_wp2_with (go_at_call 86;refine(HZ.out _ (by assumption)).mono ?_;rintro e w8 ⟨v8,ps8,rfl,hB8,hnew8,hb8c⟩;obtain⟨ya,yn,yc,rfl⟩:=ownG_sh hB8.o;have hb8:Below w7.heap.size w7 w8:=brf.drew.trans hb8c;have c85:=k5 w8 hb8;have z85:=kz w8 hb8)
    refine hK.out _ _ (fun _=>hb8) ?_;clear hK K
    try simp only[nk]
    refine qk 8 ?_;try simp only[nk]
    refine qk 9 ?_;try simp only[nk]
    refine wpAnyK_ready (rs:=[10]) (by kernel_rfl) (by simp) (AllReadyK.cons rfl (fun K hK=>?_) AllReadyK.nil);go_simp
    refine hK.out _ _ (fun h=>by cases h) ?_;clear hK K
    try simp only[nk]
    refine wpAnyK_done (by kernel_rfl) ?_ _;obtain⟨h,hfn,hk7,hq7,hNI,hom7,hwas,hnw⟩:=HY.out;obtain⟨w9,hw9⟩:∃ z,z=w8.setCell ⟨ib,5,none⟩ (.slice ya yn yc):=⟨_,rfl⟩
    have hq8:=(hb8.block ib (blk_lt hq7)).trans hq7;have hk89:Kept w8 w9 (·≠ib):=by rw[hw9];exact Kept.set _ _ _ _ (by simp)
    have hk79:Kept w7 w9 (·≠ib):=((Kept.of_below (N:=fun _=>True) hb8 fun _ h _=>h).imp fun _ _=>trivial).trans hk89;have hk9:Kept w w9 (fun b=>b≠ib/\b≠x.om):=hk7.trans (hk79.imp fun b hb=>hb.1);have hi7:∀ (b:Nat) (c:Array Value) (t:TypeId) (f:Nat×Nat),w7.heap[b]? = some (.cells c t f)->t≠87->b≠ib:=fun b c t f hb ht e=>by rw[e,hq7] at hb;cases hb;exact ht rfl
    have hi8:∀ (b:Nat) (c:Array Value) (t:TypeId) (f:Nat×Nat),w8.heap[b]? = some (.cells c t f)->t≠87->b≠ib:=fun b c t f hb ht e=>by rw[e,hq8] at hb;cases hb;exact ht rfl
    have hFIN:II w9 base ib (resizeI i n) {x with ol:=ol,mv:=.slice ya yn yc,ps:=ps8}:=by
     refine⟨?_,?_,h.se,?_,fun s hs=>?_,?_⟩
     ·rw[hw9,heap_setCell_at' w8 ib 5 _ _ 87 _ hq8];rfl
     ·show OM w9 base x.om (ownR i (n/2^i.cl) (n/2^i.cl)) ol;rw[<-hnw];exact hom7.kept hk79 (Ne.symm hfn.1) fun b c f hb=>hi7 b c 5 f hb (by decide)
     ·exact h.so.kept hk9 fun q hq=>⟨Ne.symm (hfn.2.2 q hq).1,Ne.symm (hfn.2.2 q hq).2.1⟩
     ·exact(h.sm s hs).kept hk9 ⟨Ne.symm (hfn.2.1 s hs).1,Ne.symm (hfn.2.1 s hs).2⟩ fun b c f hb=>hNI b c 5 f hb (.inl rfl)
     ·show BMS w9 base _ (sizes i.maps _ _) ps8;rw[<-hwas,<-hnw];exact hB8.kept hk89 fun b c t f hb ht=>hi8 b c t f hb (by rcases ht with h|h<;>simp[h])
    have HFN:=jd2 hFIN hk9;have HW9:=hid hw9;clear h hfn hk7 hq7 hNI hom7 hwas hnw hw9 hq8 hk89 hk79 hk9 hi7 hi8 hFIN hB8 hnew8 hb8c hb8 c85 z85 k5 kz kb hB0
    go_wp2_with fail
    go_end0
    rw[<-HW9.out];exact⟨rfl,_,HFN.out.1,rfl,rfl,rfl,HFN.out.2⟩
end Go.Proofs.YtgkabcaodnofnaaGreat
namespace Go.Md
def resizeF (M:MM)(c:Cm):MM×Rp×Nat:=match fnd M.all c.name with
 | none=>(M,failR 4,0)
 | some i=>if Go.Proofs.YtgkabcaodnofnaaGreat.aboveN M.all c.name≠0 then(M,failR 14,0) else if sizeOk c.n i.cl=false then(M,failR 1,0)
  else({M with all:=setI M.all c.name (resizeI i c.n.toNat)},{},0)
end Go.Md
namespace Go.Proofs.YtgkabcaodnofnaaGreat
open Go.RowKit Go.Mx Go.Md
theorem MO.same {w w':World}{base mb:Nat}{M:MM}{X:MX}(h:MO w base mb M X){x:XI}(hx:x∈X.xs)(hk:Kept w w' (fun b=>b≠x.ib/\b≠x.x.om)){i':IM}{x':IX}(hII:II w' base x.ib i' x')(hok:IOk i')(e1:x'.om=x.x.om)(e2:x'.ss=x.x.ss)(e3:x'.sv=x.x.sv) :
  MO w' base mb {M with all:=setI M.all x.n i'} {X with xs:=repl X.xs ⟨x.n,i',x.ib,x'⟩}/\Stp w w' (X.fp mb) (MX.fp mb {X with xs:=repl X.xs ⟨x.n,i',x.ib,x'⟩}):=by
 have hf:x'.fp x.ib=x.x.fp x.ib:=by unfold IX.fp;rw[e1,e2,e3]
 exact h.img hx (hk.imp fun b hb=>⟨fun e=>hb (by rw[e];unfold IX.fp;simp),fun e=>hb (by rw[e];unfold IX.fp;simp)⟩) hII hok (fun b hb => .inl (hf▸hb)) (hf▸II.fp_nodup h hx)
theorem sizeOk_nat {n:Int}{cl:Nat}(h:sizeOk n cl=true):n=(n.toNat:Int)/\n.toNat<=4096/\n.toNat%2^cl=0:=by
 unfold sizeOk at h;simp only[Bool.and_eq_true,decide_eq_true_eq] at h;obtain⟨⟨h1,h2⟩,h3⟩:=h;refine⟨by omega,by omega,?_⟩;have e:n=(n.toNat:Int):=by omega
 rw[e] at h3;have h4:((n.toNat:Int)%((2^cl:Nat):Int))=0:=by
  first
   | exact_mod_cast h3
   | (simpa using h3)
 omega
theorem cmd42_any:CmdOk 42 HasN resizeF:=by
 intro w base mb M X c dv h hM hbase hfr hC hp;obtain⟨da,dn,dc,rfl⟩:=slB_shape hC.d.slB;obtain⟨x,hx,hxn,hfx⟩:=has_x h hC hp;have hok:=h.a.ok x hx;obtain⟨w2,hw2,P⟩:=pro_of w c (.slice da dn dc);have f1:=P.c1;have f4:=P.c4;have i0:=P.i0 h hx;obtain⟨fr,hfe⟩:∃ fr,fr=decide (aboveN M.all c.name=0):=⟨_,rfl⟩
 have HT:=hid (turned_any (P.mo h w2 brf).mod0 (P.mo h w2 brf).a (by have:=hM.le;omega) hx);rw[hxn,<-hfe] at HT;have hab:aboveN M.all c.name=0↔fr=true:=by rw[hfe];simp
 have HAB:=hid hab;have hcl:=hok.cl;have HSZ:=hid (fun w'=>size_any c.n x.i.cl (by omega) (by omega) w');obtain⟨z,hz⟩:∃ z,z=sizeOk c.n x.i.cl:=⟨_,rfl⟩
 rw[<-hz] at HSZ;have HZ:=hid hz;have HW:=hid hw2;have HP:=hid P;have HM:=hid h;have HK:=jd5 hM hbase hfr hC hp;have HX:=jd4 hx hxn hfx hok;have ef1:=f1 w2 brf;have ef4:=f4 w2 brf;have ei0:=i0 w2 brf;clear hw2 P h hM hfr hC hp hxn hfx hok hfe hab hcl hz;go_enter func42,ntmps42
 go_upto_region 1 with(fail)
 rw[<-HW.out];cases fr
 ·have HA:=hid (show aboveN M.all c.name≠0 from fun e=>by have:=HAB.out.1 e;cases this);go_upto_region 3 with(go_at_call 80;refine HT.out.mono ?_;rintro e w4 ⟨rfl,hb4⟩)
  have hbZ:=hb4
  go_wp2_with (go_at_call 21;refine(failed_any 14 _).mono ?_;rintro e w9 ⟨rfl,hb9⟩;obtain⟨x0,x1,x2,x3,x4,x5,xz⟩:=zcells (HP.out.z (hbZ.trans (hb9.mono hbZ.size))))
  obtain⟨W,hW,⟨y0,y1,y2,y3,y4,y5⟩,r1,r2,r3⟩:=end_fail HP.out HM.out (hbZ.trans (hb9.mono hbZ.size)) 14;have hF:resizeF M c=(M,failR 14,0):=by
   unfold resizeF;rw[HX.out.2.2.1];simp only;rw[if_pos HA.out]
  rw[hF];clear x0 x1 x2 x3 x4 x5 xz hF;change bodyPost _ _ _ _ _ (st6 w9 (w.heap.size+1) (.int .i64 14) nilS nilS nilS (.int .i64 0) (.int .i64 0));rw[<-hW];exact bodyPost_ret (v:=failV 14) (by simp[results,results42,go_sem,y0,y1,y2,y3,y4,y5]) rfl ⟨_,X,rfl,r1,r2,rfl,nlr,rfl,r3⟩
 ·have HA:=hid (show ¬ aboveN M.all c.name≠0 from fun e=>e (HAB.out.2 rfl));go_upto_region 4 with(go_at_call 80;refine HT.out.mono ?_;rintro e w4 ⟨rfl,hb4⟩)
  have hB0:Below w2.heap.size w2 w4.drew:=hb4.drew;cases z
  ·go_region_held (fun w'=>Below w2.heap.size w2 w') (first|with_reducible exact hB0|with_reducible assumption|with_reducible exact Below.drew (by assumption)) (first|(go_at_call 73;refine(HSZ.out _).mono ?_;rintro e w5 ⟨rfl,rfl⟩))
   go_upto_region 5 with(fail)
   have hbZ:=hB0
   go_wp2_with (go_at_call 21;refine(failed_any 1 _).mono ?_;rintro e w9 ⟨rfl,hb9⟩;obtain⟨x0,x1,x2,x3,x4,x5,xz⟩:=zcells (HP.out.z (hbZ.trans (hb9.mono hbZ.size))))
   obtain⟨W,hW,⟨y0,y1,y2,y3,y4,y5⟩,r1,r2,r3⟩:=end_fail HP.out HM.out (hbZ.trans (hb9.mono hbZ.size)) 1;have hF:resizeF M c=(M,failR 1,0):=by
    unfold resizeF;rw[HX.out.2.2.1];simp only;rw[if_neg HA.out,if_pos HZ.out.symm]
   rw[hF];clear x0 x1 x2 x3 x4 x5 xz hF;change bodyPost _ _ _ _ _ (st6 w9 (w.heap.size+1) (.int .i64 1) nilS nilS nilS (.int .i64 0) (.int .i64 0));rw[<-hW];exact bodyPost_ret (v:=failV 1) (by simp[results,results42,go_sem,y0,y1,y2,y3,y4,y5]) rfl ⟨_,X,rfl,r1,r2,rfl,nlr,rfl,r3⟩
  ·go_region_held (fun w'=>Below w2.heap.size w2 w') (first|with_reducible exact hB0|with_reducible assumption|with_reducible exact Below.drew (by assumption)) (first|(go_at_call 73;refine(HSZ.out _).mono ?_;rintro e w5 ⟨rfl,rfl⟩))
   obtain⟨w5,hw5⟩:∃ z,z=w4.drew:=⟨_,rfl⟩
   rw[<-hw5] at hB0 ⊢;have hSZ:=sizeOk_nat HZ.out.symm;have g4:=f4 w5 hB0;have hM5:=HP.out.mo HM.out w5 (HP.out.wd _ hB0);have HRZ:=hid (resize_any (hM5.a.i x HX.out.1) (II.fp_nodup hM5 HX.out.1) HX.out.2.2.2 (Nat.le_trans hbase (HP.out.bel (HP.out.wd _ hB0)).size) c.n.toNat hSZ.2.1);rw[<-hSZ.1] at HRZ;have HQ:=jd3 hM5 hSZ hB0;clear hw5 hSZ hM5 f1 f4 i0 ef1 ef4 ei0 hb4;go_upto_region 7 with(go_at_call 83;refine HRZ.out.mono ?_;rintro e w6 ⟨rfl,x6,hII6,ho6,hs6,hv6,hk6⟩)
   obtain⟨hM5,hSZ,hb5⟩:=HQ.out;have h9:=hM5.same HX.out.1 hk6 hII6 (resizeI_ok HX.out.2.2.2 hSZ.2.1 hSZ.2.2) ho6 hs6 hv6;have hst:=(Stp.of_below hb5 (X.fp mb)).trans h9.2;have hF:resizeF M c=({M with all:=setI M.all x.n (resizeI x.i c.n.toNat)},{},0):=by
    unfold resizeF;rw[HX.out.2.2.1];simp only;rw[if_neg HA.out,if_neg (by rw[<-HZ.out];simp),HX.out.2.1]
   have HF:=hid hF;have HE:=jd2 h9.1 hst;obtain⟨x0,x1,x2,x3,x4,x5,xz⟩:=zcells (HP.out.zs HM.out hst);clear hM5 hSZ hb5 h9 hst hF hII6 ho6 hs6 hv6 hk6 hB0;obtain⟨W,hW,⟨y0,y1,y2,y3,y4,y5⟩,r1,r2,r3⟩:=end_ok HP.out HM.out HE.out.1 HE.out.2;have HWW:=hid hW;have HR:=jd3 r1 r2 r3;clear hW r1 r2 r3
   go_wp2_with fail
   change bodyPost _ _ _ _ _ (st6 w6 (w.heap.size+1) (.int .i64 0) nilS nilS nilS (.int .i64 0) (.int .i64 0));rw[<-HWW.out,HF.out];clear x0 x1 x2 x3 x4 x5 xz;refine bodyPost_ret (v:=failV 0) (by simp[results,results42,go_sem,y0,y1,y2,y3,y4,y5]) rfl ?_
   first
    | exact⟨_,rfl,HR.out.1,_,HR.out.2.1,rfl,nlr,rfl,HR.out.2.2⟩
    | exact⟨_,_,rfl,HR.out.1,HR.out.2.1,rfl,nlr,rfl,HR.out.2.2⟩
end Go.Proofs.YtgkabcaodnofnaaGreat
