import Derived.Test.YtgkabcaodnofnaaGreatB08
import Derived.Maps.RangeWalk
import Derived.Shelf.SlMaps.Clone
set_option linter.unusedSimpArgs false
set_option linter.unusedVariables false
set_option maxRecDepth 100000
set_option maxHeartbeats 1000000
open Go.Proofs.Tryz
namespace Go.Mx
open Go.RowKit Go.Maps Go.MapKept Go.ChangeMaps
section
variable {κ:Type}[DecidableEq κ]{P:Program}{t k e:TypeId}{w:World}{m:Nat}{l:ML κ}{E:Emb κ}
theorem RG.drop {r cnt:Nat}{left:κ->Bool}(h:RG E P k w m r l left cnt)(K:KOK P k E)(ht:P.underlying t=some (.map k e))(s:κ)(hs:E.ok s)(ty:TypeId) :
  ∃ w' cnt',(Builtin.delete_ #[t,k] ty #[.map (some m),E.val s]).run P w = .ok (.tuple #[]) w'/\RG E P k w' m r (Mx.del l s) (fun t=>left t&&!decide (t=s)) cnt'/\cnt'<=cnt/\w.grownBy w' (some m)/\w'.heap.size=w.heap.size:=by
 obtain⟨D,lf,h1,h2,h3,h4,h5,h6,h7⟩:=h;obtain⟨w',cnt',hrun,r1,r2,r3⟩:=h1.drop K.keyed ht (K.key s hs) ty;have hsz:Maps.size (D.del (E.lit s))=(Mx.del l s).length:=by
  have a1:=Maps.size_del (k:=E.lit s) (h1.owns.tidy K.keyed);have a2:=del_len l s h3;rw[h5,h2] at a1;omega
 refine⟨w',cnt',hrun,⟨D.del (E.lit s),fun z=>lf z&&!z.sameKey (E.lit s),?_,hsz,?_,?_,fun t=>?_,fun t v hv=>?_,fun t=>?_⟩,r2,r3.grown,?_⟩
 ·obtain⟨es,clock,since,seen,c0,g1,g2,g3,g4,g5,g6⟩:=r1;refine⟨es,clock,since,seen,c0,g1,g2,?_,g4,g5,g6⟩;have h9:=own_tight ⟨es,clock,g1,g2,g3,g4⟩;obtain⟨es',clock',q1,q2,q3,q4⟩:=h9;rw[g1] at q1;cases q1;rw[<-hsz];exact q3
 ·rw[del_names];exact h3.filter _
 ·intro p hp;exact h4 p (mem_del.1 hp).1
 ·rw[look_del];by_cases e:t=s
  ·subst e;rw[Maps.has_del_same];simp
  ·rw[Maps.has_del_other (fun e2=>e (K.inj _ _ e2)),h5,if_neg e]
 ·intro zd;rw[look_del] at hv;by_cases e:t=s
  ·rw[if_pos e] at hv;cases hv
  ·rw[if_neg e] at hv;rw[atKey_del_other (fun e2=>e (K.inj _ _ e2))];exact h6 t v hv zd
 ·show(lf (E.lit t)&&!(E.lit t).sameKey (E.lit s))=_;rw[h7];by_cases e:t=s
  ·subst e;rw[WideAt.sameKey_self (K.isLit t)];simp
  ·rw[sameKey_ne (fun e2=>e (K.inj _ _ e2))];simp[e]
 ·obtain⟨es,c,es',c',_,rfl⟩:=r3;simp[setBlock]
end
end Go.Mx
namespace Go.Proofs.YtgkabcaodnofnaaGreat
open Go.RowKit Go.Mx Go.Md
theorem goes112 (k:Int)(v:Value)(now b:Nat)(w:World)(hb:w.heap[b]? = some (.cells #[.int .i64 now] 3 (0,0)))(hk:0<=k)(hk2:k<=1000000) :
  Calls prog 112 #[.int .i64 k,v,pt b] w fun e w'=>e = .returned (.bool (decide ((now:Int)<=k)))/\w=w':=by
 have c0:w.cell? ⟨b,0,none⟩=some (.int .i64 now):=by simp[World.cell?,hb]
 clear hb;go_enter func112,ntmps112
 go_wp2
 go_ret
 exact⟨rfl,rfl⟩
def stay (now:Nat)(l:ML Int)(left:Int->Bool):ML Int:=l.filter fun p => !decide ((now:Int)<=p.1)||left p.1
theorem look_stay {now:Nat}{l:ML Int}{left:Int->Bool}{s:Int}{b:Value}(h:Mx.look (stay now l left) s=some b)(hn:(l.map (·.1)).Nodup):(s,b)∈l:=(List.mem_filter.1 (look_mem h)).1
theorem stay_no {now:Nat}(l:ML Int)(left:Int->Bool)(s:Int)(hs:¬ (now:Int)<=s):stay now l (fun t=>left t&&!decide (t=s))=stay now l left:=by
 unfold stay;apply List.filter_congr;intro p _;by_cases e:p.1=s
 ·rw[e];simp[hs]
 ·simp[e]
theorem stay_yes {now:Nat}(l:ML Int)(left:Int->Bool)(s:Int)(hs:(now:Int)<=s):Mx.del (stay now l left) s=stay now l (fun t=>left t&&!decide (t=s)):=by
 unfold stay Mx.del;rw[List.filter_filter];apply List.filter_congr;intro p _;by_cases e:p.1=s
 ·rw[e];simp[hs]
 ·simp[e]
theorem delf_any {m:Nat}{l:ML Int}(now b:Nat)(w:World)(h:GM EI prog 3 w m l)(hb:w.heap[b]? = some (.cells #[.int .i64 now] 3 (0,0)))(hl:∀ p∈l,0<=p.1/\p.1<=1000000) :
  Calls prog 111 #[.map (some m),.func (.func 112) #[] #[pt b]] w fun e w'=>e = .returned (.tuple #[])/\GM EI prog 3 w' m (l.filter fun p => !decide ((now:Int)<=p.1))/\w.grownBy w' (some m):=by
 have hmp:=h;have HN:=hid h.nodup;have HL:=hid hl;have HB:=hid hb;have hbm:b≠m:=fun e=>by obtain⟨es,c,h1⟩:=h.isMap;rw[e,h1] at hb;cases hb
 have HBM:=hid hbm;clear h hl hb hbm;go_enter func111,ntmps111
 go_wp2_with (first
  | (at_range;refine range_gm _ rfl _ rfl K3 underlying84 rfl hmp ?_;intro w0 hrg0 hg0 hs0)
  | go_in)
 go_frame
 go_loopw [8] (fun _ wr=>∃ (left:Int->Bool) (cnt:Nat),RG EI prog 3 wr m w.heap.size (stay now l left) left cnt/\Hid (w.grownBy wr (some m))) (fun _ wr=>wr.rangeLeft m w.heap.size)
 case atStart =>
  refine⟨fun s=>(Mx.look l s).isSome,l.length,?_,hid (hg0.but _)⟩;have e:stay now l (fun s=>(Mx.look l s).isSome)=l:=by
   unfold stay;rw[List.filter_eq_self];intro p hp;have:Mx.look l p.1=some p.2:=look_of_mem HN.out hp;simp[this]
  rw[e];exact hrg0
 case round =>
  obtain⟨left,cnt,hrg,hgw⟩:=hrel;clear hrg0 hg0 hs0 hmp;obtain⟨wO,hwO⟩:∃ x,x=wr:=⟨_,rfl⟩
  subst hwO
  go_wp2_with (first
   | (at_next;refine next_gm _ rfl _ rfl K3 w.heap.size _ _ rfl hrg ?_ ?_)
   | go_in)
  ·intro hl0;have e:stay now l left=l.filter fun p => !decide ((now:Int)<=p.1):=by
    unfold stay;apply List.filter_congr;intro p _;rw[hl0];simp
   rw[e] at hrg;have HR:=jd2 hrg.gm hgw.out;clear hrg hl0 e
   go_wp2
   go_end0
   exact⟨rfl,HR.out.1,HR.out.2⟩
  ·intro s v w3 cnt1 hlk hls hrg1 hlt hg1 hs1 hen;have hmem:=look_stay hlk HN.out;have hsb:=HL.out _ hmem;have hgw3:w.grownBy w3 (some m):=hgw.out.andThen hg1 (fun j hj=>by cases hj;exact Or.inl nlr);have hb3:w3.heap[b]? = some (.cells #[.int .i64 now] 3 (0,0)):=(hgw3.block b (blk_lt HB.out) (by simpa using HBM.out)).trans HB.out;have hc:=goes112 s v now b w3 hb3 hsb.1 hsb.2;have hen':(Instr.entry (.pointer (some ⟨w.heap.size,0,none⟩))).run prog w3 = .ok (.tuple #[.int .i64 s,v]) w3:=hen;obtain⟨q,hq⟩:∃ q,q=decide ((now:Int)<=s):=⟨_,rfl⟩
   rw[<-hq] at hc;have hok:EI.ok s:=by
    show(Lit.int .i64 s).wf=true;simp[Lit.wf,IntKind.min,IntKind.max,IntKind.signed,IntKind.bits];omega
   obtain⟨w4,cnt4,hrun,hrg4,hle,hg4,hs4⟩:=hrg1.drop K3 (t:=84) underlying84 s hok 0;have hrun':(Builtin.delete_ #[84,3] 0 #[.map (some m),.int .i64 s]).run prog w3 = .ok (.tuple #[]) w4:=hrun;have HQ:=jd8 hq hrg1 hrg4 hle hg4 hgw3 hlt hrg.left_eq;have HC:=hid hc;clear hq hrg1 hrg4 hle hg4 hs4 hgw3 hlt hg1 hs1 hmem hsb hb3 hlk hls hen hrg hrun hok hc;cases q
   ·clear hrun'
    go_wp2_with fail
    refine HC.out.mono ?_;rintro e w5 ⟨rfl,rfl⟩
    go_wp2_with fail
    obtain⟨hq,hrg1,hrg4,hle,hg4,hgw3,hlt,hleft⟩:=HQ.out
    go_roundw
    case rel =>
     refine⟨fun t=>left t&&!decide (t=s),cnt1,?_,hid hgw3⟩;rw[stay_no l left s (by simpa using hq)];exact hrg1
    case measure=>rw[hrg1.left_eq,hleft];exact hlt
   ·go_wp2_with fail
    refine HC.out.mono ?_;rintro e w5 ⟨rfl,rfl⟩
    go_wp2_with fail
    obtain⟨hq,hrg1,hrg4,hle,hg4,hgw3,hlt,hleft⟩:=HQ.out;have hrg4':RG EI prog 3 w4 m w.heap.size (stay now l (fun t=>left t&&!decide (t=s))) (fun t=>left t&&!decide (t=s)) cnt4:=by
     rw[stay_yes l left s (by simpa using hq.symm)] at hrg4;have e:(fun t=>(left t&&!decide (t=s))&&!decide (t=s))=fun t=>left t&&!decide (t=s):=by funext t;cases left t<;>cases decide (t=s)<;>rfl
     rw[e] at hrg4;exact hrg4
    go_roundw
    case rel=>exact⟨_,cnt4,hrg4',hid (hgw3.andThen hg4 (fun j hj=>by cases hj;exact Or.inr rfl))⟩
    case measure=>rw[hrg4'.left_eq,hleft];omega
def repl (xs:List XI)(y:XI):List XI:=xs.map fun z=>if z.n=y.n then y else z
theorem flat_apart {α β:Type}(f:α->List β):∀ (xs:List α),(xs.flatMap f).Nodup->∀ {x z:α},x∈xs->z∈xs->x≠z->∀ b,b∈f x->b∈f z->False
 | [],_,x,z,hx,_,_,_,_,_=>by cases hx
 | a :: r,hn,x,z,hx,hz,hne,b,h1,h2=>by
  rw[List.flatMap_cons,List.nodup_append] at hn;obtain⟨_,hr,hd⟩:=hn;rcases List.mem_cons.1 hx with rfl|hx'<;>rcases List.mem_cons.1 hz with rfl|hz'
  ·exact hne rfl
  ·exact hd b h1 b (List.mem_flatMap.2 ⟨z,hz',h2⟩) rfl
  ·exact hd b h2 b (List.mem_flatMap.2 ⟨x,hx',h1⟩) rfl
  ·exact flat_apart f r hr hx' hz' hne b h1 h2
theorem name_inj {xs:List XI}(h:(xs.map (·.n)).Nodup){x z:XI}(hx:x∈xs)(hz:z∈xs)(e:z.n=x.n):z=x:=by
 induction xs with
 | nil=>cases hx
 | cons a r ih =>
  rw[List.map_cons,List.nodup_cons] at h;rcases List.mem_cons.1 hx with rfl|hx'<;>rcases List.mem_cons.1 hz with rfl|hz'
  ·rfl
  ·exact absurd (List.mem_map.2 ⟨z,hz',e⟩) h.1
  ·exact absurd (List.mem_map.2 ⟨x,hx',e.symm⟩) h.1
  ·exact ih h.2 hx' hz'
variable {w w':World}{base am:Nat}{S:IL}{xs:List XI}
theorem AM.find (h:AM w base am S xs){x:XI}(hx:x∈xs):fnd S x.n=some x.i:=fnd_of h.nd (h.p.mem_iff.1 (List.mem_map.2 ⟨x,hx,rfl⟩))
theorem AM.apart (hnd:(fpA am xs).Nodup){x z:XI}(hx:x∈xs)(hz:z∈xs)(hne:z.n≠x.n):∀ b∈z.x.fp z.ib,b∉x.x.fp x.ib:=by
 intro b h1 h2;have h3:=(List.nodup_cons.1 hnd).2;exact flat_apart (fun x:XI=>x.x.fp x.ib) xs h3 hz hx (fun e=>hne (by rw[e])) b h1 h2
theorem fpA_mem {x:XI}(hx:x∈xs):∀ b∈x.x.fp x.ib,b∈fpA am xs:=fun b hb=>List.mem_cons_of_mem _ (List.mem_flatMap.2 ⟨x,hx,hb⟩)
theorem AM.am_not (hnd:(fpA am xs).Nodup){x:XI}(hx:x∈xs):am∉x.x.fp x.ib:=fun h=>(List.nodup_cons.1 hnd).1 (List.mem_flatMap.2 ⟨x,hx,h⟩)
theorem AM.set (h:AM w base am S xs)(hnd:(fpA am xs).Nodup){x:XI}(hx:x∈xs){N:Nat->Prop}(hk:Kept w w' N)(hN:∀ b∈fpA am xs,b∉x.x.fp x.ib->N b)(hNI:NI w N){i':IM}{x':IX}(hII:II w' base x.ib i' x')(hok:IOk i') :
  AM w' base am (setI S x.n i') (repl xs ⟨x.n,i',x.ib,x'⟩):=by
 have hinj:=fun{z:XI} (hz:z∈xs) (e:z.n=x.n)=>name_inj h.names hx hz e;have hfs:=h.find hx;refine⟨?_,?_,?_,?_,?_,?_⟩
 ·have e:(repl xs ⟨x.n,i',x.ib,x'⟩).map (fun x=>(x.n,pt x.ib))=xs.map fun x=>(x.n,pt x.ib):=by
   unfold repl;rw[List.map_map];refine List.map_congr_left fun z hz=>?_;simp only[Function.comp];split
   ·rename_i e;rw[hinj hz e]
   ·rfl
  rw[e];exact h.g.block (hk.block am h.g.lt (hN am (List.mem_cons_self ..) (AM.am_not hnd hx)))
 ·have e:(repl xs ⟨x.n,i',x.ib,x'⟩).map (fun x=>(x.n,x.i))=(xs.map fun x=>(x.n,x.i)).map fun p=>if p.1=x.n then(x.n,i') else p:=by
   unfold repl;rw[List.map_map,List.map_map];refine List.map_congr_left fun z hz=>?_;simp only[Function.comp];split<;>rfl
  rw[e];unfold setI;rw[hfs];simp only[Option.isSome_some,if_true];exact h.p.map _
 ·intro z hz;obtain⟨y,hy,rfl⟩:=List.mem_map.1 hz;dsimp only;split
  ·exact hII
  ·rename_i hne;exact(h.i y hy).kept hk (fun b hb=>hN b (fpA_mem hy b hb) (AM.apart hnd hx hy hne b hb)) hNI
 ·intro z hz;obtain⟨y,hy,rfl⟩:=List.mem_map.1 hz;dsimp only;split
  ·exact hok
  ·exact h.ok y hy
 ·intro z hz;obtain⟨y,hy,rfl⟩:=List.mem_map.1 hz;dsimp only;split
  ·exact h.nl x hx
  ·exact h.nl y hy
 ·rw[setI_names,hfs];exact h.nd
theorem fpA_repl (h:AM w base am S xs){x:XI}(hx:x∈xs){i':IM}{x':IX}(hf:x'.fp x.ib=x.x.fp x.ib):fpA am (repl xs ⟨x.n,i',x.ib,x'⟩)=fpA am xs:=by
 unfold fpA repl
 congr 1
 rw[List.flatMap_map];have:∀ (l:List XI),(∀ z∈l,z∈xs)->l.flatMap (fun a=>(if a.n=x.n then(⟨x.n,i',x.ib,x'⟩:XI) else a).x.fp (if a.n=x.n then(⟨x.n,i',x.ib,x'⟩:XI) else a).ib)=l.flatMap fun x=>x.x.fp x.ib:=by
  intro l
  induction l with
  | nil=>intro _;rfl
  | cons a r ih =>
   intro hl;rw[List.flatMap_cons,List.flatMap_cons,ih fun z hz=>hl z (List.mem_cons_of_mem _ hz)]
   congr 1
   split
   ·rename_i e;rw[name_inj h.names hx (hl a (List.mem_cons_self ..)) e];exact hf
   ·rfl
 exact this xs fun _ h=>h
theorem repl_mem {x:XI}(hx:x∈xs)(i':IM)(x':IX):(⟨x.n,i',x.ib,x'⟩:XI)∈repl xs ⟨x.n,i',x.ib,x'⟩:=List.mem_map.2 ⟨x,hx,by simp⟩
theorem pcs_at {W a stop j pos:Nat}(hW:0<W)(hdr:(pcs W a stop).drop j=pcs W pos stop)(hlt:pos<stop) :
  ∃ k,1<=k/\pos+k<=stop/\pos%W+k<=W/\j<(pcs W a stop).length/\((pcs W a stop).map (prow W)).getD j []=[.int .i64 (pos/W:Nat),.int .i64 (pos%W:Nat),.int .i64 k]/\
   (pcs W a stop).drop (j+1)=pcs W (pos+k) stop/\pcs W pos stop=(pos,k) :: pcs W (pos+k) stop:=by
 have hst:=pcs_step hW hlt;have hmW:pos%W<W:=Nat.mod_lt _ hW;obtain⟨k,hk⟩:∃ k,k=min (W-pos%W) (stop-pos):=⟨_,rfl⟩
 rw[<-hk] at hst;have hj:j<(pcs W a stop).length:=by
  rcases Nat.lt_or_ge j (pcs W a stop).length with h|h
  ·exact h
  ·rw[List.drop_eq_nil_of_le h,hst] at hdr;cases hdr
 have hget:(pcs W a stop)[j]? = some (pos,k):=by
  have:=congrArg (fun l=>l[0]?) (hdr.trans hst);simpa using this
 refine⟨k,by omega,by omega,by omega,hj,?_,?_,hst⟩
 ·rw[List.getD_eq_getElem?_getD,List.getElem?_map,hget];rfl
 ·have:=congrArg List.tail (hdr.trans hst);simpa using this
theorem pcs_over {W a stop j:Nat}(hdr:(pcs W a stop).drop j=pcs W stop stop)(hj:j<=(pcs W a stop).length):j=(pcs W a stop).length:=by
 have h1:=congrArg List.length hdr;rw[pcs_end nlr,List.length_drop] at h1;simp at h1;omega
theorem shl_nat (a k:Nat):((a:Int)*2^k)=((a*2^k:Nat):Int):=by push_cast;rfl
variable {w w':World}{base am mb:Nat}{S:IL}{xs:List XI}
theorem Mod0.kept {N:Nat->Prop}(h:Mod0 w mb am)(hk:Kept w w' N)(hN:N mb):Mod0 w' mb am:=by
 obtain⟨c,h1,h2⟩:=h;exact⟨c,(hk.block mb (blk_lt h1) hN).trans h1,h2⟩
abbrev NW (x:XI):Nat->Prop:=fun q=>q≠x.ib/\q≠x.x.om
theorem II.nw {ib:Nat}{i:IM}{x:IX}(h:II w base ib i x):∀ q c t f,w.heap[q]? = some (.cells c t f)->t≠87->q≠ib/\q≠x.om:=fun q c t f hq ht=>by
 refine⟨fun e=>?_,fun e=>?_⟩
 ·rw[e,h.ck] at hq;cases hq;exact ht rfl
 ·obtain⟨es,mc,hm⟩:=h.own.g.isMap;rw[e,hm] at hq;cases hq
theorem II.ni {ib:Nat}{i:IM}{x:IX}(h:II w base ib i x):NI w (fun q=>q≠ib/\q≠x.om):=fun b c t f hb ht=>h.nw b c t f hb (by rcases ht with rfl|rfl|rfl<;>decide)
theorem fp_split (ib:Nat)(x:IX)(b:Nat)(h:b∉x.fp ib):b≠ib/\b≠x.om:=by
 unfold IX.fp at h;simp only[List.mem_cons,not_or] at h;exact⟨h.1,h.2.1⟩
theorem fp_sm {ib:Nat}{x:IX}(h:(x.fp ib).Nodup):x.om∉x.ss.map (·.m):=by
 unfold IX.fp at h;intro hm;have h1:=(List.nodup_cons.1 (List.nodup_cons.1 h).2).1;exact h1 (List.mem_append_left _ hm)
theorem AM.fpn (hnd:(fpA am xs).Nodup){x:XI}(hx:x∈xs):(x.x.fp x.ib).Nodup:=by
 have h3:=(List.nodup_cons.1 hnd).2;clear hnd
 induction xs with
 | nil=>cases hx
 | cons a r ih =>
  rw[List.flatMap_cons,List.nodup_append] at h3;rcases List.mem_cons.1 hx with rfl|hx'
  ·exact h3.1
  ·exact ih hx' h3.2.1
theorem write_any (d:Nat)(hA:AM w base am S xs)(hm:Mod0 w mb am)(hnd:(fpA am xs).Nodup)(hbase:base<=w.heap.size){x:XI}(hx:x∈xs)(hd:dep S d x.n)(a n:Nat){bv:Value}{b:Bs}(hb:SlN w (NW x) bv b)
  (hbl:b.length=n*16) (hs:a+n<=x.i.size) :
  Calls prog 81 #[pt mb,pt x.ib,.int .i64 a,bv] w fun e w'=>e = .returned (.tuple #[])/\∃ x',II w' base x.ib (writeI S d x.i a b) x'/\IOk (writeI S d x.i a b)/\x'.om=x.x.om/\x'.ss=x.x.ss/\x'.sv=x.x.sv/\Kept w w' (NW x):=by
 have hII:=hA.i x hx;have hok:=hA.ok x hx;have hfs:=hA.find hx;obtain⟨hW1,hW2⟩:=two_pow6 hok.cl;obtain⟨W,hW⟩:∃ W:Nat,W=2^x.i.cl:=⟨_,rfl⟩
 rw[<-hW] at hW1 hW2;have hsz:=hok.size;obtain⟨c0,c1,c2,c3,c4,c5,cf⟩:=hII.cells;obtain⟨stop,hstop⟩:∃ x,x=a+n:=⟨_,rfl⟩
 have HSP:=hid (split_any a n x.i.cl w hok.cl (by omega) (by omega));rw[<-hW,<-hstop] at HSP;have hwr:writeI S d x.i a b=wrI S d (pcs W a stop) b x.i:=by unfold writeI;rw[hbl,Nat.mul_div_cancel _ (by omega),<-hW,<-hstop]
 obtain⟨iZ,hiZ⟩:∃ i,i=writeI S d x.i a b:=⟨_,rfl⟩
 rw[<-hiZ] at hwr ⊢;obtain⟨oa,bn,bc,rfl,hbn⟩:∃ oa bn bc,bv = .slice oa bn bc/\bn=n*16:=by
  obtain⟨oa,cap,e,_⟩:=hb.slB;exact⟨oa,_,cap,e,hbl⟩
 have hq:IntKind.i64.wrap ((bn:Int)/16)=(n:Int):=by rw[show(bn:Int)/16=(n:Int) by omega,IntWalk.i64_in _ (by omega)]
 have hstop1:stop<=x.i.size:=by omega
 have hstop2:a<=stop:=by omega
 have hstop3:stop=a+n:=hstop;have H0:=jd9 hA hm hnd hII hok hfs hd hb (And.intro hbl hW);have HR:=hid hwr;clear hA hm hnd hII hok hfs hd hb hwr hiZ hstop hW hbl hbn;go_enter func81,ntmps81
 go_wp2_with fail
 refine HSP.out.mono ?_;rintro e w2 ⟨v2,rfl,ho2,hb2⟩;obtain⟨pa,pn,pc,rfl⟩:=ownG_sh ho2;have hlen:=SlG.len (P:=prog) (ty:=3) ho2.slG underlying112 w2;rw[List.length_map] at hlen;obtain⟨N,hN⟩:∃ N,N=(pcs W a stop).length:=⟨_,rfl⟩
 rw[<-hN] at hlen;have H1:=jd3 ho2 hb2 hN;have HL:=hid hlen;clear ho2 hb2 hN c1 c2 c3 c4 c5 HSP hq
 go_wp2_with fail
 go_loopw [10,28] (fun s10 s28 wr=>∃ (j pos F:Nat) (ij:IM) (xj:IX),s28 = .int .i64 j/\s10 = .int .i64 F/\F=(pos-a)*16/\a<=pos/\pos<=stop/\j<=N/\(pcs W a stop).drop j=pcs W pos stop/\Hid (iZ=wrI S d (pcs W pos stop) (b.drop F) ij)/\
  ij.cl=x.i.cl/\ij.size=x.i.size/\ij.back=x.i.back/\IOk ij/\II wr base x.ib ij xj/\xj.om=x.x.om/\xj.ss=x.x.ss/\xj.sv=x.x.sv/\Kept w wr (NW x)/\OwnG wr w.heap.size 116 3 (.slice pa pn pc) ((pcs W a stop).map (prow W))) (fun _ s28 _=>N-(intOf s28).toNat)
 case atStart =>
  exact⟨0,a,0,x.i,x.x,rfl,rfl,by omega,by omega,by omega,by omega,rfl,HR.out,rfl,rfl,rfl,H0.out.2.2.2.2.1,H0.out.2.2.2.1.below H1.out.2.1,rfl,rfl,rfl,Kept.of_below H1.out.2.1 fun k hk _=>hk,H1.out.1⟩
 case round =>
  obtain⟨j,pos,F,ij,xj,rfl,rfl,hFe,hp1,hp2,hjN,hdr,hwr,hcl,hsi,hbk,hokj,hIIj,hom,hss,hsv,hkw,hop⟩:=hrel;by_cases hlt:pos<stop
  ·obtain⟨k,hk1,hk2,hk3,hj,hgd,hdr2,hst⟩:=pcs_at (W:=W) (by omega) hdr hlt;rw[<-H1.out.2.2] at hj;obtain⟨Q,hQ⟩:∃ Q,Q=pos/W:=⟨_,rfl⟩
   obtain⟨R,hR⟩:∃ R,R=pos%W:=⟨_,rfl⟩
   rw[<-hQ,<-hR] at hgd;rw[<-hR] at hk3;have hQR:Q*W+R=pos:=by rw[hQ,hR];have:=Nat.div_add_mod pos W;rw[Nat.mul_comm] at this;exact this
   have hQ2:Q*W+W<=x.i.size:=by
    have hwh:=H0.out.2.2.2.2.1.whole;have hWW:=H0.out.2.2.2.2.2.2.2.2.2;rw[<-hWW] at hwh;have h1:x.i.size=x.i.size/W*W:=by have:=Nat.div_add_mod x.i.size W;rw[hwh,Nat.mul_comm] at this;omega
    have h2:Q<x.i.size/W:=by rw[hQ];exact Nat.div_lt_of_lt_mul (by rw[Nat.mul_comm,<-h1];omega)
    have h3:(Q+1)*W<=x.i.size/W*W:=Nat.mul_le_mul_right W h2;rw[Nat.succ_mul] at h3;omega
   obtain⟨QW,hQW⟩:∃ z,z=Q*W:=⟨_,rfl⟩
   rw[<-hQW] at hQR hQ2;have hQb:Q<=4096:=by have:=Nat.div_le_self pos W;omega
   have hjl:j<((pcs W a stop).map (prow W)).length:=by rw[List.length_map,<-H1.out.2.2];exact hj
   obtain⟨wA,hwA⟩:∃ x,x=wr.alloc (.cells #[.int .i64 Q,.int .i64 R,.int .i64 k] 116):=⟨_,rfl⟩
   have hbA:Below wr.heap.size wr wA:=by rw[hwA];exact brf.alloc nlr _
   have hqA:wA.heap[wr.heap.size]? = some (.cells #[.int .i64 Q,.int .i64 R,.int .i64 k] 116 (0,0)):=by rw[hwA];exact alloc_new wr _
   rcases hop.shape with⟨_,he⟩|⟨g,cc,he,hg,_⟩
   ·rw[he] at hjl;simp at hjl
   rw[List.length_map,<-H1.out.2.2] at he;simp only[Value.slice.injEq] at he;obtain⟨rfl,rfl,rfl⟩:=he;have hjm:j<9223372036854775807:=by have h1:=hop.parts;have h2:=h1.1;have h3:=h1.2.2.1;have h4:=h1.2.2.2.1;unfold maxLen at h4;rw[List.length_map,<-H1.out.2.2] at h2 h3;omega
   have hia:=hop.addr (P:=prog) underlying112 size116 j hjl;have hra:=hop.rangeAt j hjl;rw[hgd] at hra;have c0:wr.cell? ⟨g,j*3,none⟩=some (.int .i64 Q):=hra 0 _ rfl;have c1:=hra 1 _ rfl;have c2:=hra 2 _ rfl;obtain⟨o,ho⟩:∃ o,o=j*3:=⟨_,rfl⟩
   rw[<-ho] at hia c0 c1 c2;have hqa:∀ t u,(#[Value.int .i64 Q,.int .i64 R,.int .i64 k]:Array Value)[t]? = some u->wA.cell? ⟨wr.heap.size,t,none⟩=some u:=fun t u hu=>by simp only[World.cell?,hqA];simpa using hu
   have hmin:min x.i.cl 64=x.i.cl:=Nat.min_eq_left (by have:=H0.out.2.2.2.2.1.cl;omega);have hsum:IntKind.i64.wrap ((Q:Int)*2^min x.i.cl 64)=(QW:Int):=by
    rw[hmin,shl_nat,<-H0.out.2.2.2.2.2.2.2.2.2,<-hQW,IntWalk.i64_in _ (by omega)]
   have hone:IntKind.i64.wrap ((2:Int)^min x.i.cl 64)=(W:Int):=by
    rw[hmin];have:=shl_nat 1 x.i.cl;rw[Nat.one_mul,<-H0.out.2.2.2.2.2.2.2.2.2] at this;simp only[Int.one_mul,Int.natCast_one] at this;rw[this,IntWalk.i64_in _ (by omega)]
   have F0:∀ w',Below wA.heap.size wA w'->w'.cell? ⟨x.ib,0,none⟩=some (.int .i64 x.i.cl):=fun w' h=>by rw[<-hcl];exact((hIIj.below hbA).below h).cells.1
   have F1:∀ w',Below wA.heap.size wA w'->w'.cell? ⟨x.ib,1,none⟩=some (.int .i64 x.i.size):=fun w' h=>by rw[<-hsi];exact((hIIj.below hbA).below h).cells.2.1
   have F3:∀ w',Below wA.heap.size wA w'->w'.cell? ⟨x.ib,3,none⟩=some (.map (some x.x.om)):=fun w' h=>by rw[<-hom];exact((hIIj.below hbA).below h).cells.2.2.2.1
   have G0:∀ w',Below wA.heap.size wA w'->w'.cell? ⟨wr.heap.size,0,none⟩=some (.int .i64 Q):=fun w' h=>(World.cell?_of_block (h.block _ (blk_lt hqA))).trans (hqa 0 _ rfl);have G1:∀ w',Below wA.heap.size wA w'->w'.cell? ⟨wr.heap.size,1,none⟩=some (.int .i64 R):=fun w' h=>(World.cell?_of_block (h.block _ (blk_lt hqA))).trans (hqa 1 _ rfl);have G2:∀ w',Below wA.heap.size wA w'->w'.cell? ⟨wr.heap.size,2,none⟩=some (.int .i64 k):=fun w' h=>(World.cell?_of_block (h.block _ (blk_lt hqA))).trans (hqa 2 _ rfl);have hAr:AM wr base am (setI S x.n ij) (repl xs ⟨x.n,ij,x.ib,xj⟩):=H0.out.1.set H0.out.2.2.1 hx hkw (fun b _ hb=>fp_split _ _ b hb) H0.out.2.2.2.1.ni hIIj hokj;have hmb:NW x mb:=by
    obtain⟨c,h1,_⟩:=H0.out.2.1;exact H0.out.2.2.2.1.nw mb c 73 _ h1 (by decide)
   have hmr:Mod0 wr mb am:=H0.out.2.1.kept hkw hmb;have hd2:dep (setI S x.n ij) d ij.back:=by
    obtain⟨e,h1,h2,_⟩:=dep_min H0.out.2.2.2.2.2.1 H0.out.2.2.2.2.2.2.1;rw[hbk];refine dep_same (fun m=>?_) d _ (dep_le h2 (by omega));rw[fnd_setI];split
    ·rename_i e;rw[e,H0.out.2.2.2.2.2.1];simp[hbk]
    ·rfl
   have hsc:secIn (setI S x.n ij) d ij ij.size ij.own=secIn S d ij ij.size ij.own:=secIn_congr rfl (by rw[hbk];exact secOf_back (fun m hm=>by rw[fnd_setI,if_neg hm]) H0.out.2.2.2.2.2.1 H0.out.2.2.2.2.2.2.1) _ _;obtain⟨X,hX⟩:∃ X,X=secs (secIn S d ij ij.size ij.own) QW W:=⟨_,rfl⟩
   have hXl:X.length=16*W:=by rw[hX];exact secs_len (fun s=>secIn_len (fun n i h=>⟨_,(H0.out.1.oks n i h).own⟩) d ij ij.size ij.own ⟨_,hokj.own⟩ s) W QW
   have HC:=hid (fun w' (hB:Below wA.heap.size wA w')=>by
    have:=sho_all d w' base mb am _ _ ij x.ib base xj.om ij.size _ ij.own xj.ol QW W ((hmr.below hbA).below hB) ((hAr.below hbA).below hB) ((hIIj.below hbA).below hB).ic ((hIIj.below hbA).below hB).own hokj.own hokj.cl hokj.nb hd2 hokj.size (by omega) (by omega);rw[hsc,<-hX,hom,hsi] at this;exact this)
   have HP:=jd9 hop hIIj hokj hkw hwA hbA hqA hdr2 (And.intro hst (And.intro hgd (And.intro ho (And.intro hX (And.intro hXl (And.intro hQ (And.intro hR hQW)))))));have HE:=jd8 hwr.out hcl hsi hbk hom hss hsv hFe;have a0:=hqa 0 _ rfl;have a1:=hqa 1 _ rfl;have a2:=hqa 2 _ rfl;rw[hwA] at a0 a1 a2;clear hop hIIj hokj hkw hbA hdr hdr2 hst hgd ho hX hXl hQ hR hQW hAr hmb hmr hd2 hsc hqa hra hwr hcl hsi hbk hom hss hsv hFe hqA hjl hlen cf hwA hmin;go_upto_region 5 with(fail)
   rw[<-HP.out.2.2.2.2.1];clear a0 a1 a2 c0 c1 c2 hia
   go_region_held (fun w'=>Below wA.heap.size wA w') (first|exact brf.drew|assumption|exact Below.drew (by assumption)) (first
    | (go_at_call 27;refine(HC.out _ (by assumption)).mono ?_;rintro e w5 ⟨v5,rfl,ho5c,hb5c⟩;have ho5:=ho5c.any_base (Below.size (by assumption));have hb5:Below wA.heap.size wA w5:=Below.trans (by assumption) (hb5c.mono (Below.size (by assumption)))))
   obtain⟨hop,hIIj,hokj,hkw,hwA,hbA,hqA,hdr2,hst,hgd,ho,hX,hXl,hQ,hR,hQW⟩:=HP.out;obtain⟨hwr,hcl,hsi,hbk,hom,hss,hsv,hFe⟩:=HE.out;obtain⟨gx,hgx⟩:=ho5.f;subst hgx;have hblk:=OwnB.full ho5.o;have hgge:wA.heap.size<=gx:=by
    rcases ho5.o.shape with⟨he,_⟩|⟨g',cap',he,h9,_⟩
    ·cases he
    ·cases he;exact h9
   have hkw5:Kept w w5 (NW x):=hkw.trans (Kept.of_below (hbA.trans (hb5.mono hbA.size)) fun k hk _=>hk);have hbv5:=(H0.out.2.2.2.2.2.2.2.1.kept hkw5)
   obtain⟨pv,hpv,hpr⟩:=hbv5.slB.part (P:=prog) underlying23 size5' F (F+k*16) (by omega) (by have:=H0.out.2.2.2.2.2.2.2.2.1;omega);rw[List.drop_take,show F+k*16-F=k*16 by omega] at hpv;have hpl:((b.drop F).take (k*16)).length=k*16:=by
    have:=H0.out.2.2.2.2.2.2.2.2.1;rw[List.length_take,List.length_drop];omega
   have hsf:=slice_from gx X.length (R*16) (by omega);have d0:=G0 _ hb5;have d1:=G1 _ hb5;have d2:=G2 _ hb5;have hR16:IntKind.i64.wrap ((R:Int)*16)=((R*16:Nat):Int):=by rw[IntWalk.i64_in _ (by omega)];omega
   have hk16:IntKind.i64.wrap ((k:Int)*16)=(k:Int)*16:=by rw[IntWalk.i64_in _ (by omega)]
   have hFk:IntKind.i64.wrap ((F:Int)+(k:Int)*16)=(F:Int)+(k:Int)*16:=by rw[IntWalk.i64_in _ (by omega)]
   push_cast at hpr hR16 hsf
   have HB:=jd6 hblk hpv hpl hkw5 hb5 hgge;obtain⟨XL,hXL⟩:∃ z,z=X.length:=⟨_,rfl⟩
   rw[<-hXL] at hsf hXl;rw[<-hXL];have HXL:=jd2 hXL hXl;clear hop hIIj hokj hkw hwA hbA hqA hdr2 hst hgd ho hX hQ hR hQW hwr hcl hsi hbk hom hss hsv hblk hpv hpl hkw5 hbv5 ho5c ho5 hb5 hb5c G0 G1 G2 F0 F1 F3 hXL hFe hXl;go_upto_region 6 with(fail)
   have HE1:Hid (∀ Z:World,(Z=w5\/Z=w5.drew)->SlB Z w5.heap.size pv ((b.drop F).take (k*16))/\Z.heap[gx]? = some (.cells (X.map u8).toArray 5 (0,0))):=hid fun Z hZ=>by
    rcases hZ with rfl|rfl
    ·exact⟨HB.out.2.1,HB.out.1⟩
    ·exact⟨HB.out.2.1.below brf.drew nlr,HB.out.1⟩
   have hL1:((b.drop F).take (k*16)).length<=XL-R*16:=by have:=HXL.out.2;rw[HB.out.2.2.1];omega
   have hL2:R*16+((b.drop F).take (k*16)).length<=X.length:=by have:=HXL.out.2;rw[HB.out.2.2.1,<-HXL.out.1];omega
   have HL12:=jd2 hL1 hL2;clear hL1 hL2
   go_region_law (first
    | (refine step_copy_b (by rfl) (.tmp 59) (.tmp 67) 23 23 (by rfl) 5 underlying23 size5 gx (R*16) (XL-R*16) (XL-R*16) pv ((b.drop F).take (k*16)) X w5.heap.size 5 (by rfl) (by rfl) (HE1.out _ (by first|exact Or.inl rfl|exact Or.inr rfl)).1 (HE1.out _ (by first|exact Or.inl rfl|exact Or.inr rfl)).2 HL12.out.1 HL12.out.2 ?_;intro w7 hg7 hk7 hb7))
   all_goals
    replace hk7:=(Kept.drew _ _).trans hk7
    obtain⟨hop,hIIj,hokj,hkw,hwA,hbA,hqA,hdr2,hst,hgd,ho,hX,hXl,hQ,hR,hQW⟩:=HP.out;obtain⟨hwr,hcl,hsi,hbk,hom,hss,hsv,hFe⟩:=HE.out;obtain⟨hblk,hpv,hpl,hkw5,hb5,hgge⟩:=HB.out;have hlt5:wr.heap.size<w5.heap.size:=Nat.lt_of_lt_of_le (blk_lt hqA) hb5.size;have hltA:wr.heap.size<wA.heap.size:=blk_lt hqA;have hb7':Below wr.heap.size wr w7:=hb7 _ _ ((hbA.trans (hb5.mono hbA.size)).drew) (by omega);have e0:w7.cell? ⟨wr.heap.size,0,none⟩=some (.int .i64 Q):=(hk7.cell hlt5 (by omega)).trans d0;have e2:w7.cell? ⟨wr.heap.size,2,none⟩=some (.int .i64 k):=(hk7.cell hlt5 (by omega)).trans d2;obtain⟨Y,hY⟩:∃ Y,Y=splice X (R*16) ((b.drop F).take (k*16)):=⟨_,rfl⟩
    have hYl:Y.length=16*W:=by rw[hY,length_splice _ _ _ HL12.out.2];exact hXl
    have hoY:OwnB w7 base 5 (.slice (some ⟨gx,0,none⟩) XL XL) Y:=OwnB.ofFull (by rw[hY];exact hg7.out) (by rw[hYl,HXL.out.2]) (by have:=hbA.size;have:=hkw.size;omega) (by rw[HXL.out.2];unfold maxLen;omega);have hII7:=hIIj.below hb7';have hkw7:Kept w w7 (NW x):=hkw.trans (Kept.of_below hb7' fun k hk _=>hk);have hsm:xj.om∉xj.ss.map (·.m):=by rw[hom,hss];exact fp_sm (AM.fpn H0.out.2.2.1 hx)
    have hWW:=H0.out.2.2.2.2.2.2.2.2.2;have hQn:Q<ij.size/2^ij.cl:=by
     rw[hcl,hsi,<-hWW];exact(Nat.le_div_iff_mul_le (by omega)).2 (by rw[Nat.succ_mul,<-hQW];exact hQ2)
    have HU:=hid (put_any hII7 (Nat.le_trans hbase hkw7.size) hsm (by omega:Q<=1000000) (Nat.le_trans (hII7.own.len hokj.own) (Nat.le_trans (Nat.div_le_self _ _) (by omega))) hoY);have hok9:=putI_ok hokj hQn (bs:=Y) (by rw[hYl,hcl,<-hWW]);have hwr9:iZ=wrI S d (pcs W (pos+k) stop) (b.drop (F+k*16)) (putI ij Q Y):=by
     rw[hwr,hst];show wrI S d _ _ (putI ij (pos/2^ij.cl) (splice (secs (secIn S d ij ij.size ij.own) (pos/2^ij.cl*2^ij.cl) (2^ij.cl)) (pos%2^ij.cl*16) ((b.drop F).take (k*16))))=_;rw[hcl,<-hWW,<-hQ,<-hR,<-hQW,<-hX,<-hY,List.drop_drop]
    have hop7:=hop.below hb7' nlr;have HZ:=jd9 hkw7 hok9 hwr9 hop7 hdr2 hcl hsi hbk (And.intro hom (And.intro hss (And.intro hsv (And.intro hFe hII7))));have hFe2:=hFe;clear hop hIIj hokj hkw hwA hbA hqA hdr2 hst hgd ho hX hXl hQ hR hQW hwr hcl hsi hbk hom hss hsv hFe hblk hpv hpl hkw5 hb5 hgge hII7 hkw7 hsm hok9 hwr9 hop7 hb7' hoY hYl hY hg7 hk7 hb7 hWW d0 d1 d2 hpr hsf hFe2
    go_wp2_with (go_at_call 102;refine HU.out.mono ?_;rintro e w8 ⟨rfl,x8,hII8,ho8,hs8,hv8,hk8⟩)
    obtain⟨hkw7,hok9,hwr9,hop7,hdr2,hcl,hsi,hbk,hom,hss,hsv,hFe,hII7⟩:=HZ.out;have hk8':Kept w7 w8 (NW x):=hk8.imp fun b hb=>by rw[hom];exact hb
    exact⟨⟨j+1,pos+k,F+k*16,putI ij Q Y,x8,by go_num,by go_num,by rw[hFe];omega,by omega,by omega,by omega,hdr2,hid hwr9,hcl,hsi,hbk,hok9,hII8,ho8.trans hom,hs8.trans hss,hv8.trans hsv,hkw7.trans hk8',hop7.kept hk8' fun q hq=>by
     obtain⟨c9,f9,h9⟩:=ownG_type hop7 q hq;have h8:=hII7.nw q c9 116 f9 h9 (by decide);rw[hom] at h8;exact h8⟩,by simp[intOf];omega⟩
  ·obtain rfl:pos=stop:=by omega
   have hj:j=N:=by rw[H1.out.2.2];exact pcs_over hdr (by rw[<-H1.out.2.2];exact hjN)
   have hwr9:iZ=ij:=by have:=hwr.out;rw[pcs_end nlr] at this;exact this
   have HX:=jd7 hwr9 hIIj hokj hom hss hsv hkw;clear hwr9 hIIj hokj hom hss hsv hkw hop hdr hwr hcl hsi hbk
   go_wp2_with fail
   go_end0
   obtain⟨rfl,h1,h2,h3,h4,h5,h6⟩:=HX.out;exact⟨rfl,xj,h1,h2,h3,h4,h5,h6⟩
def clone60_ren:Go.Shelf.Ren:=⟨fun|5=>60|7=>67|n=>n,fun|4=>4|20=>20|23=>84|25=>3|3=>23|n=>n,fun|n=>n⟩
theorem clone60:Go.Proofs.SlLaysW.n5 prog clone60_ren where
 mixed:=by kernel_rfl
 f5 := ⟨ "maps.Clone[map[int][]byte,int,[]byte]", by decide, Tryz.func60.trans (congrArg some (by kernel_rfl))⟩
 f7:=func67.trans (congrArg some (by kernel_rfl))
 t4:=underlying4
 a4:=Tryz.isAgg4
 z4:=Tryz.sizeOf4
 v4:=Tryz.zeroValue4
 t20:=underlying20
 a20:=Tryz.isAgg20
 z20:=Tryz.sizeOf20
 v20:=Tryz.zeroValue20
 t23:=underlying84
 a23:=Tryz.isAgg84
 z23:=Tryz.sizeOf84
 v23:=Tryz.zeroValue84
def clone30_ren:Go.Shelf.Ren:=⟨fun|5=>30|7=>67|n=>n,fun|4=>4|20=>20|23=>58|25=>9|3=>4|n=>n,fun|n=>n⟩
theorem clone30:Go.Proofs.SlLaysW.n5 prog clone30_ren where
 mixed:=by kernel_rfl
 f5 := ⟨ "maps.Clone[map[string]bool,string,bool]", by decide, Tryz.func30.trans (congrArg some (by kernel_rfl))⟩
 f7:=func67.trans (congrArg some (by kernel_rfl))
 t4:=underlying4
 a4:=Tryz.isAgg4
 z4:=Tryz.sizeOf4
 v4:=Tryz.zeroValue4
 t20:=underlying20
 a20:=Tryz.isAgg20
 z20:=Tryz.sizeOf20
 v20:=Tryz.zeroValue20
 t23:=underlying58
 a23:=Tryz.isAgg58
 z23:=Tryz.sizeOf58
 v23:=Tryz.zeroValue58
theorem mclone60 {w:World}{m:Nat}{l:ML Int}(h:GM EI prog 3 w m l):Calls prog 60 #[.map (some m)] w fun e w'=>e = .returned (.map (some w.heap.size))/\GM EI prog 3 w' w.heap.size l/\Below w.heap.size w w'/\w'.heap.size=w.heap.size+1:=by
 obtain⟨D,h1,h2⟩:=h;obtain⟨es,mc,hm⟩:=id h1;refine(AnyW.maps_Clone clone60 m es mc w hm.1).mono fun e w' ⟨he,hw⟩=>?_;subst hw;refine⟨he,⟨D,⟨es,mc,?_,hm.2⟩,h2⟩,(Below.refl _ w).alloc nlr _,by simp⟩;exact alloc_new w _
theorem mclone30 {w:World}{m:Nat}{l:ML (List UInt8)}(h:GM ES prog 9 w m l):Calls prog 30 #[.map (some m)] w fun e w'=>e = .returned (.map (some w.heap.size))/\GM ES prog 9 w' w.heap.size l/\Below w.heap.size w w'/\w'.heap.size=w.heap.size+1:=by
 obtain⟨D,h1,h2⟩:=h;obtain⟨es,mc,hm⟩:=id h1;refine(AnyW.maps_Clone clone30 m es mc w hm.1).mono fun e w' ⟨he,hw⟩=>?_;subst hw;refine⟨he,⟨D,⟨es,mc,?_,hm.2⟩,h2⟩,(Below.refl _ w).alloc nlr _,by simp⟩;exact alloc_new w _
theorem info90:(prog.info? 90).map (fun i=>(i.zero,i.size,i.bytes))=some (some (.agg #[.string ⟨#[]⟩,.int .i64 0,.map none]),3,32):=by kernel_rfl
theorem size90 (w:World):(sizeOf 90).run prog w = .ok 3 w:=by kernel_rfl
theorem clone90 (v:Value)(rows:List (List Value))(B:Nat)(w:World)(h:SlG w B 3 v rows)(hB:B<=w.heap.size)(hr:∀ r∈rows,r.length=3)(hone:∀ r∈rows,∀ u∈r,u.oneCell'=true)(hl:rows.length<=100000000000):Calls prog 61 #[v] w fun e w'=>∃ v',e = .returned v'/\OwnG w' w.heap.size 90 3 v' rows/\Below w.heap.size w w':=by
 obtain⟨oa,cap,rfl,h1,h2,h3⟩:=id h;cases oa with
 | none =>
  have hb:rows=[]:=by
   cases rows with
   | nil=>rfl
   | cons y r=>obtain⟨_,_,hh,_⟩:=h3 (by simp);cases hh
  subst hb;have hq:∀ w',(binOp .eql 85 (.slice none 0 cap) (.slice none 0 0)).run prog w' = .ok (.bool true) w':=fun w'=>run_eql_nil_slice w' 85 90 none 0 cap 0 0 underlying85;clear h h1 h2 h3;go_enter func61,ntmps61
  go_wp2
  go_ret
  exact⟨_,rfl,OwnG.nil _ _ _ _,brf⟩
 | some ad =>
  obtain⟨N,hN⟩:∃ N,N=rows.length:=⟨_,rfl⟩
  rw[<-hN] at h;have hq:∀ w',(binOp .eql 85 (.slice (some ad) N cap) (.slice none 0 0)).run prog w' = .ok (.bool false) w':=fun w'=>Lib.run_eql_slice_nil w' 85 90 _ _ _ _ _ underlying85;have HH:=hid h;have HN:=hid hN;rw[<-hN];clear h h1 h2 h3 hN;go_enter func61,ntmps61
  go_wp2_with (at_builtin;refine append_sg _ rfl _ _ 85 90 _ 3 32 rfl underlying85 info90 rfl (by decide) w.heap.size _ [] rfl (OwnG.empty w 90 3) B _ rows rfl (HH.out.below (brf.alloc nlr _) hB) hr hone ?_ ?_ ?_ ?_)
  ·simp;omega
  ·simp;omega
  ·first|exact Nat.le_refl _|(simp;try omega)
  intro v' w' ho' hg' hb';have hb:=((Below.refl w.heap.size w).alloc nlr (.cells #[] 90)).trans hb';have ho':OwnG w' w.heap.size 90 3 v' rows:=ho';clear hg' hb'
  go_wp2
  go_ret
  exact⟨_,rfl,ho',hb⟩
theorem sxrow_len (l:List SX):∀ r∈l.map sxrow,r.length=3:=fun r hr=>by obtain⟨x,_,rfl⟩:=List.mem_map.1 hr;rfl
theorem sxrow_one (l:List SX):∀ r∈l.map sxrow,∀ u∈r,u.oneCell'=true:=fun r hr u hu=>by
 obtain⟨x,_,rfl⟩:=List.mem_map.1 hr;simp at hu;rcases hu with rfl|rfl|rfl<;>rfl
end Go.Proofs.YtgkabcaodnofnaaGreat
