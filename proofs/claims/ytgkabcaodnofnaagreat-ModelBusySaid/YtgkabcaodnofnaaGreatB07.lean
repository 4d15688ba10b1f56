import Derived.Test.YtgkabcaodnofnaaGreatB05
import Derived.Laws.CopyOwn
import Derived.Deep.RegionHeld
import Derived.Deep.Cut
import Derived.Deep.RegionLaw
set_option linter.unusedSimpArgs false
set_option linter.unusedVariables false
set_option maxRecDepth 100000
set_option maxHeartbeats 1000000
open Go.Proofs.Tryz
namespace Go.Proofs.YtgkabcaodnofnaaGreat
open Go.RowKit Go.Mx Go.Md
theorem info116:(prog.info? 116).map (fun i=>(i.zero,i.size,i.bytes))=some (some (.agg #[.int .i64 0,.int .i64 0,.int .i64 0]),3,24):=by kernel_rfl
theorem size116 (w:World):(sizeOf 116).run prog w = .ok 3 w:=by kernel_rfl
def pcs (wide a stop:Nat):List (Nat×Nat):=pieces wide (stop-a) a stop
theorem pieces_fuel (wide:Nat)(hw:0<wide):∀ (f g a stop:Nat),stop-a<=f->stop-a<=g->pieces wide f a stop=pieces wide g a stop
 | 0,0,a,stop,_,_=>rfl
 | 0,g+1,a,stop,h1,_=>by simp only[pieces];rw[if_neg (by omega)]
 | f+1,0,a,stop,_,h2=>by simp only[pieces];rw[if_neg (by omega)]
 | f+1,g+1,a,stop,h1,h2=>by
  simp only[pieces];by_cases h:a<stop
  ·rw[if_pos h,if_pos h];have hm:a%wide<wide:=Nat.mod_lt _ hw;rw[pieces_fuel wide hw f g _ stop (by omega) (by omega)]
  ·rw[if_neg h,if_neg h]
theorem pcs_step {wide a stop:Nat}(hw:0<wide)(h:a<stop):pcs wide a stop=(a,min (wide-a%wide) (stop-a)) :: pcs wide (a+min (wide-a%wide) (stop-a)) stop:=by
 have hm:a%wide<wide:=Nat.mod_lt _ hw;unfold pcs;obtain⟨k,hk⟩:∃ k,k=min (wide-a%wide) (stop-a):=⟨_,rfl⟩
 have hk1:1<=k:=by omega
 obtain⟨f,hf⟩:∃ f,stop-a=f+1:=⟨stop-a-1,by omega⟩
 have h1:pieces wide (stop-a) a stop=(a,k) :: pieces wide f (a+k) stop:=by
  rw[hf];simp only[pieces];rw[if_pos h,<-hk]
 rw[h1,<-hk,pieces_fuel wide hw f (stop-(a+k)) (a+k) stop (by omega) (by omega)]
theorem pcs_end {wide a stop:Nat}(h:stop<=a):pcs wide a stop=[]:=by
 unfold pcs;rw[Nat.sub_eq_zero_of_le h];rfl
abbrev prow (wide:Nat)(p:Nat×Nat):List Value:=[.int .i64 (p.1/wide:Nat),.int .i64 (p.1%wide:Nat),.int .i64 p.2]
theorem split_any (a n cl:Nat)(w:World)(h1:cl<=6)(h2:a<=4096)(h3:n<=4096):Calls prog 64 #[.int .i64 a,.int .i64 n,.int .i64 cl] w fun e w'=>∃ v,e = .returned (.tuple #[v,.int .i64 0])/\OwnG w' w.heap.size 116 3 v ((pcs (2^cl) a (a+n)).map (prow (2^cl)))/\Below w.heap.size w w':=by
 have t1:¬ ((cl:Int)<0):=by omega
 have t2:¬ ((6:Int)<(cl:Int)):=by omega
 have t3:¬ ((a:Int)<0):=by omega
 have t4:¬ ((n:Int)<0):=by omega
 have t5:¬ ((4096:Int)<(a:Int)):=by omega
 have t6:¬ ((4096:Int)<(n:Int)):=by omega
 have t7:¬ 6<cl:=by omega
 have t8:¬ 4096<a:=by omega
 have t9:¬ 4096<n:=by omega
 have hwl:1<=2^cl/\2^cl<=64:=by
  have:cl=0\/cl=1\/cl=2\/cl=3\/cl=4\/cl=5\/cl=6:=by omega
  rcases this with rfl|rfl|rfl|rfl|rfl|rfl|rfl<;>simp
 obtain⟨W,hW⟩:∃ W:Nat,W=2^cl:=⟨_,rfl⟩
 rw[<-hW] at hwl ⊢;have hpw:wrap64 ((2:Int)^cl)=(W:Int):=by
  have e:((2:Int)^cl)=(W:Int):=by rw[hW];simp
  rw[e];unfold wrap64;omega
 clear hW;have HPW:=hid hpw;clear hpw;go_enter func64,ntmps64
 go_upto_region 5 with(fail)
 rw[HPW.out];clear t1 t2 t3 t4 t5 t6 t7 t8 t9 HPW;obtain⟨stop,hstop⟩:∃ s:Nat,s=a+n:=⟨_,rfl⟩
 have hsI:(a:Int)+(n:Int)=(stop:Int):=by omega
 have hsb:stop<=8192:=by omega
 have hsa:a<=stop:=by omega
 have HST:=hid hstop;clear hstop
 go_wp2_with fail
 go_loopw [0,8] (fun s0 s8 wr=>∃ (pos:Nat) (done:List (Nat×Nat)),s0 = .int .i64 pos/\a<=pos/\pos<=stop/\done.length<=pos/\OwnG wr w.heap.size 116 3 s8 (done.map (prow W))/\pcs W a stop=done++pcs W pos stop/\Below w.heap.size w wr) (fun s0 _ _=>stop-(intOf s0).toNat)
 case atStart=>exact⟨a,[],rfl,by omega,by omega,by simp,OwnG.nil _ _ _ _,rfl,brf⟩
 case round =>
  obtain⟨pos,done,rfl,hp1,hp2,hdl,ho,hpc,hbl⟩:=hrel;by_cases hlt:pos<stop
  ·have hm:pos%W<W:=Nat.mod_lt _ (by omega);have hst:=pcs_step (wide:=W) (by omega) hlt;obtain⟨K,hK⟩:∃ K,K=min (W-pos%W) (stop-pos):=⟨_,rfl⟩
   rw[<-hK] at hst;have hK1:1<=K/\pos+K<=stop:=by omega
   have hkI:(if (stop:Int)-(pos:Int)<(W:Int)-(pos:Int)%(W:Int) then(stop:Int)-(pos:Int) else(W:Int)-(pos:Int)%(W:Int))=(K:Int):=by
    have:(pos:Int)%(W:Int)=((pos%W:Nat):Int):=(Int.natCast_emod _ _).symm;rw[this];split<;>omega
   have HK:=hid hkI;have HP:=jd4 hst hpc ho hbl;obtain⟨oa,vn,vc,rfl⟩:=ownG_sh ho;clear hst hpc hK hkI hbl;go_upto_region 8 with(fail)
   rw[HK.out];obtain⟨Q,hQ⟩:∃ Q:Int,Q=(pos:Int)/(W:Int):=⟨_,rfl⟩
   obtain⟨R,hR⟩:∃ R:Int,R=(pos:Int)%(W:Int):=⟨_,rfl⟩
   have hrow:prow W (pos,K)=[.int .i64 Q,.int .i64 R,.int .i64 K]:=by rw[hQ,hR];rfl
   have hQb:0<=Q/\Q<=8192:=by
    have h1:Q=((pos/W:Nat):Int):=by rw[hQ];exact(Int.natCast_ediv _ _).symm
    have h2:=Nat.div_le_self pos W;obtain⟨D,hD⟩:∃ D,D=pos/W:=⟨_,rfl⟩
    rw[<-hD] at h1 h2;omega
   have hRb:0<=R/\R<=8192:=by
    have h1:R=((pos%W:Nat):Int):=by rw[hR];exact(Int.natCast_emod _ _).symm
    obtain⟨D,hD⟩:∃ D,D=pos%W:=⟨_,rfl⟩
    rw[<-hD] at h1 hm;omega
   have HQR:=jd2 hQ hR;clear hQ hR;have hA:Below wr.heap.size wr (wr.alloc (.cells #[.int .i64 Q,.int .i64 R,.int .i64 K] 116)):=brf.alloc nlr _;have hAa:∀ X:World,(X=wr.alloc (.cells #[.int .i64 Q,.int .i64 R,.int .i64 K] 116)\/X=(wr.alloc (.cells #[.int .i64 Q,.int .i64 R,.int .i64 K] 116)).drew)->Below wr.heap.size wr X:=fun X hX=>by
    rcases hX with rfl|rfl
    ·exact hA
    ·exact hA.drew
   have hE1:∀ X:World,(X=wr.alloc (.cells #[.int .i64 Q,.int .i64 R,.int .i64 K] 116)\/X=(wr.alloc (.cells #[.int .i64 Q,.int .i64 R,.int .i64 K] 116)).drew)->OwnG X w.heap.size 116 3 (.slice oa vn vc) (done.map (prow W)):=fun X hX=>ho.below (hAa X hX) nlr;have hE2:∀ X:World,(X=wr.alloc (.cells #[.int .i64 Q,.int .i64 R,.int .i64 K] 116)\/X=(wr.alloc (.cells #[.int .i64 Q,.int .i64 R,.int .i64 K] 116)).drew)->∀ j u,(prow W (pos,K))[j]? = some u->X.cell? ⟨wr.heap.size,j,none⟩=some u:=fun X hX j u hj=>by
    have h0:X.heap[wr.heap.size]? = some (.cells #[.int .i64 Q,.int .i64 R,.int .i64 K] 116 (0,0)):=by
     rcases hX with rfl|rfl<;>exact alloc_new wr _
    rw[hrow] at hj;rcases j with _|_|_|j<;>simp at hj<;>subst hj<;>simp[World.cell?,h0]
   have hE3:∀ u∈prow W (pos,K),u.oneCell'=true:=by rw[hrow];intro u hu;simp at hu;rcases hu with rfl|rfl|rfl<;>rfl
   have hE4:∀ X:World,(X=wr.alloc (.cells #[.int .i64 Q,.int .i64 R,.int .i64 K] 116)\/X=(wr.alloc (.cells #[.int .i64 Q,.int .i64 R,.int .i64 K] 116)).drew)->w.heap.size<=X.heap.size:=fun X hX=>Nat.le_trans HP.out.2.2.2.size (hAa X hX).size;have hl1:((done.map (prow W)).length+1)*24<=140737488355328:=by rw[List.length_map];omega
   have hl2:(done.map (prow W)).length+1<=140737488355328:=by rw[List.length_map];omega
   have HE:=jd5 hE1 hE2 hE3 hE4 hAa;have q1:(pos:Int)/(W:Int)=Q:=HQR.out.1.symm;have q2:(pos:Int)%(W:Int)=R:=HQR.out.2.symm;have hW0:¬ W=0:=by omega
   have q3:(pos:Int).tmod (W:Int)=R:=by rw[IntWalk.rem_in _ _ (by omega)];exact q2
   have q4:(pos:Int).tdiv (W:Int)=Q:=by rw[tdiv_eq_if,if_pos (by omega)];exact q1
   have hwQ:IntKind.i64.wrap Q=Q:=IntWalk.i64_in _ (by omega);clear hA hAa hE1 hE2 hE3 hE4 ho HK hrow
   go_region_law (first
    | (refine step_append_g _ (by rfl) (.tmp 51) (.tmp 60) 112 116 _ 3 24 rfl underlying112 info116 rfl (by decide) w.heap.size _ (done.map (prow W)) (by rfl) (HE.out.1 _ (by first|exact Or.inl rfl|exact Or.inr rfl)) wr.heap.size 1 (prow W (pos,K)) (by rfl) rfl (HE.out.2.1 _ (by first|exact Or.inl rfl|exact Or.inr rfl)) HE.out.2.2.1 hl1 hl2 (HE.out.2.2.2.1 _ (by first|exact Or.inl rfl|exact Or.inr rfl)) ?_;intro v7 w7 ho7 hg7 hb7;have hbw7:Below w.heap.size w w7:=(HP.out.2.2.2.trans ((HE.out.2.2.2.2 _ (by first|exact Or.inl rfl|exact Or.inr rfl)).mono HP.out.2.2.2.size)).trans hb7;obtain⟨a7,n7,c7,rfl⟩:=ownG_sh ho7))
   all_goals
    have HT:=jd2 ho7 hbw7;clear ho7 hg7 hb7 hbw7 q1 q2 q3 q4 hwQ
    go_wp2_with fail
    refine⟨⟨pos+K,done++[(pos,K)],by go_num,by omega,by omega,by simp;omega,by rw[List.map_append];exact HT.out.1,by rw[HP.out.2.1,HP.out.1];simp,HT.out.2⟩,by simp[intOf];omega⟩
  ·obtain rfl:pos=stop:=by omega
   have HP:=jd3 hpc ho hbl;obtain⟨oa,vn,vc,rfl⟩:=ownG_sh ho;clear hpc ho hbl
   go_wp2_with fail
   go_ret2
   refine⟨_,rfl,?_,HP.out.2.2⟩;have h9:=HP.out.1;rw[pcs_end nlr,List.append_nil] at h9;rw[<-HST.out,h9];exact HP.out.2.1
end Go.Proofs.YtgkabcaodnofnaaGreat
namespace Go.Md
def dep (S:IL):Nat->Bs->Prop
 | 0,n=>fnd S n=none
 | d+1,n=>match fnd S n with
  | none=>True
  | some i=>dep S d i.back
theorem dep_succ {S:IL}:∀ {d:Nat} {n:Bs},dep S d n->dep S (d+1) n
 | 0,n,h=>by
  have h:fnd S n=none:=h;simp only[dep,h]
 | d+1,n,h=>by
  unfold dep at h ⊢;split
  ·trivial
  ·rename_i i hi;rw[hi] at h;exact dep_succ h
theorem dep_le {S:IL}{d e:Nat}{n:Bs}(h:dep S d n)(he:d<=e):dep S e n:=by
 induction he with
 | refl=>exact h
 | step _ ih=>exact dep_succ ih
theorem secOf_deep {S:IL}:∀ {d:Nat} {n:Bs},dep S d n->∀ e,d<=e->∀ s,secOf S e n s=secOf S d n s
 | 0,n,h,e,_,s=>by
  have h:fnd S n=none:=h;cases e with
  | zero=>rfl
  | succ e=>simp only[secOf,h]
 | d+1,n,h,0,he,s=>by omega
 | d+1,n,h,e+1,he,s=>by
  simp only[secOf];cases hf:fnd S n with
  | none=>rfl
  | some i =>
   have hd:dep S d i.back:=by unfold dep at h;rw[hf] at h;exact h
   simp only;split
   ·split
    ·rfl
    ·exact secOf_deep hd e (by omega) s
   ·rfl
def OwnOk (cl nc:Nat)(own:Nat->Option Bs):Prop:=∀ k bs,own k=some bs->k<nc/\bs.length=16*2^cl
end Go.Md
namespace Go.Proofs.YtgkabcaodnofnaaGreat
open Go.RowKit Go.Mx Go.Md
theorem K3:KOK prog 3 EI:=KOK.int underlying3
theorem K9:KOK prog 9 ES:=KOK.str underlying9
theorem zero23 (w:World):(zeroValue 23).run prog w = .ok (.slice none 0 0) w:=by kernel_rfl
theorem zero77 (w:World):(zeroValue 77).run prog w = .ok (.pointer none) w:=by kernel_rfl
abbrev pt (b:Nat):Value:=.pointer (some ⟨b,0,none⟩)
abbrev str (s:Bs):Value:=.string ⟨s.toArray⟩
structure OM (w:World)(base m:Nat)(own:Nat->Option Bs)(l:ML Int):Prop where
 g:GM EI prog 3 w m l
 f:∀ p∈l,∃ (k:Nat) (bs:Bs),p.1=(k:Int)/\own k=some bs/\OwnB w base 5 p.2 bs
 b:∀ k bs,own k=some bs->∃ v,((k:Int),v)∈l
section
variable {w w':World}{base m:Nat}{own:Nat->Option Bs}{l:ML Int}
theorem OM.kept {N:Nat->Prop}(h:OM w base m own l)(hk:Kept w w' N)(hm:N m)(hN:∀ b c f,w.heap[b]? = some (.cells c 5 f)->N b):OM w' base m own l where
 g:=h.g.block (hk.block m h.g.lt hm)
 f:=fun p hp=>by
  obtain⟨k,bs,h1,h2,h3⟩:=h.f p hp;exact⟨k,bs,h1,h2,h3.kept hk fun b hb=>by obtain⟨c,f,hc⟩:=ownB_type h3 b hb;exact hN b c f hc⟩
 b:=h.b
theorem OM.below (h:OM w base m own l)(hb:Below w.heap.size w w'):OM w' base m own l :=
 h.kept (Kept.of_below (N:=fun _=>True) hb fun _ h _=>h) trivial fun _ _ _ _=>trivial
theorem OM.at (h:OM w base m own l)(k:Nat)(hk:k<=1000000):(own k=none/\(Instr.lookup 84 (.map (some m)) (.int .i64 k) true).run prog w = .ok (.tuple #[.slice none 0 0,.bool false]) w)\/
  ∃ bs v,own k=some bs/\OwnB w base 5 v bs/\(Instr.lookup 84 (.map (some m)) (.int .i64 k) true).run prog w = .ok (.tuple #[v,.bool true]) w:=by
 have hwf:EI.ok (k:Int):=by
  show(Lit.int .i64 (k:Int)).wf=true;simp[Lit.wf,IntKind.min,IntKind.max,IntKind.signed,IntKind.bits];omega
 have hl:=h.g.lookOk (t:=84) (e:=23) (z:=.slice none 0 0) K3 underlying84 zero23 rfl (k:Int) hwf;cases ho:own k with
 | none =>
  left;have hn:Mx.look l (k:Int)=none:=by
   cases hlk:Mx.look l (k:Int) with
   | none=>rfl
   | some v =>
    obtain⟨k',bs,h1,h2,_⟩:=h.f _ (look_mem hlk);have:k=k':=by simp only at h1;omega
    subst this;rw[ho] at h2;cases h2
  rw[hn] at hl;exact⟨rfl,hl⟩
 | some bs =>
  right;obtain⟨v,hv⟩:=h.b k bs ho;have hlk:=look_of_mem h.g.nodup hv;rw[hlk] at hl;obtain⟨k',bs',h1,h2,h3⟩:=h.f _ hv;have:k=k':=by simp only at h1;omega
  subst this;rw[ho] at h2;cases h2;exact⟨bs,v,rfl,h3,hl⟩
end
structure SX where
 s:SH
 m:Nat
 l:ML Int
abbrev sxrow (x:SX):List Value:=[str x.s.name,.int .i64 x.s.size,.map (some x.m)]
structure IX where
 om:Nat
 ol:ML Int
 sv:Value
 ss:List SX
 mv:Value
 ps:List PB
structure II (w:World)(base ib:Nat)(i:IM)(x:IX):Prop where
 ck:w.heap[ib]? = some (.cells #[.int .i64 i.cl,.int .i64 i.size,str i.back,.map (some x.om),x.sv,x.mv] 87 (0,0))
 own:OM w base x.om i.own x.ol
 se:i.shots=x.ss.map (·.s)
 so:OwnG w base 90 3 x.sv (x.ss.map sxrow)
 sm:∀ s∈x.ss,OM w base s.m s.s.own s.l
 maps:BMS w base x.mv i.maps x.ps
structure IOk (i:IM):Prop where
 cl:i.cl<=6
 size:i.size<=4096
 whole:i.size%2^i.cl=0
 own:OwnOk i.cl (i.size/2^i.cl) i.own
 shots:∀ s∈i.shots,s.size<=4096/\s.size%2^i.cl=0/\OwnOk i.cl (s.size/2^i.cl) s.own
 ns:i.shots.length<=8
 nb:i.back.length<=100
section
variable {w w':World}{base ib:Nat}{i:IM}{x:IX}
def IX.fp (ib:Nat)(x:IX):List Nat:=ib :: x.om :: (x.ss.map (·.m)++(x.sv.ownBlock).toList)
def NI (w:World)(N:Nat->Prop):Prop:=∀ b c t f,w.heap[b]? = some (.cells c t f)->t=5\/t=108\/t=111->N b
theorem II.kept {N:Nat->Prop}(h:II w base ib i x)(hk:Kept w w' N)(hf:∀ b∈x.fp ib,N b)(hN:NI w N):II w' base ib i x where
 ck:=(hk.block ib (blk_lt h.ck) (hf ib (by simp[IX.fp]))).trans h.ck
 own:=h.own.kept hk (hf _ (by simp[IX.fp])) fun b c f hc=>hN b c _ f hc (.inl rfl)
 se:=h.se
 so:=h.so.kept hk fun k e=>hf k (by simp[IX.fp,e])
 sm:=fun s hs=>(h.sm s hs).kept hk (hf _ (by simp[IX.fp];right;right;left;exact⟨s,hs,rfl⟩)) fun b c f hc=>hN b c _ f hc (.inl rfl)
 maps:=h.maps.kept hk fun b c t f hc ht=>hN b c t f hc (by rcases ht with h|h<;>simp[h])
theorem II.below (h:II w base ib i x)(hb:Below w.heap.size w w'):II w' base ib i x :=
 h.kept (Kept.of_below (N:=fun _=>True) hb fun _ h _=>h) (fun _ _=>trivial) fun _ _ _ _ _ _=>trivial
theorem II.cells (h:II w base ib i x):w.cell? ⟨ib,0,none⟩=some (.int .i64 i.cl)/\w.cell? ⟨ib,1,none⟩=some (.int .i64 i.size)/\w.cell? ⟨ib,2,none⟩=some (str i.back)/\w.cell? ⟨ib,3,none⟩=some (.map (some x.om))/\w.cell? ⟨ib,4,none⟩=some x.sv/\w.cell? ⟨ib,5,none⟩=some x.mv/\(∀ j,w.frozen? ⟨ib,j,none⟩=false):=by
 have:=h.ck;refine⟨?_,?_,?_,?_,?_,?_,fun j=>?_⟩<;>simp[World.cell?,World.frozen?,this]
end
structure XI where
 n:Bs
 i:IM
 ib:Nat
 x:IX
structure AM (w:World)(base am:Nat)(S:IL)(xs:List XI):Prop where
 g:GM ES prog 9 w am (xs.map fun x=>(x.n,pt x.ib))
 p:(xs.map fun x=>(x.n,x.i)).Perm S
 i:∀ x∈xs,II w base x.ib x.i x.x
 ok:∀ x∈xs,IOk x.i
 nl:∀ x∈xs,x.n.length<=100
 nd:(S.map (·.1)).Nodup
section
variable {w w':World}{base am:Nat}{S:IL}{xs:List XI}
def fpA (am:Nat)(xs:List XI):List Nat:=am :: xs.flatMap fun x=>x.x.fp x.ib
theorem AM.kept {N:Nat->Prop}(h:AM w base am S xs)(hk:Kept w w' N)(hf:∀ b∈fpA am xs,N b)(hN:NI w N):AM w' base am S xs where
 g:=h.g.block (hk.block am h.g.lt (hf am (by simp[fpA])))
 p:=h.p
 i:=fun x hx=>(h.i x hx).kept hk (fun b hb=>hf b (by simp only[fpA,List.mem_cons,List.mem_flatMap];exact .inr ⟨x,hx,hb⟩)) hN
 ok:=h.ok
 nl:=h.nl
 nd:=h.nd
theorem AM.below (h:AM w base am S xs)(hb:Below w.heap.size w w'):AM w' base am S xs :=
 h.kept (Kept.of_below (N:=fun _=>True) hb fun _ h _=>h) (fun _ _=>trivial) fun _ _ _ _ _ _=>trivial
theorem fnd_mem {S:IL}{n:Bs}{i:IM}(h:fnd S n=some i):(n,i)∈S:=by
 unfold fnd at h;cases hf:S.find? (fun p=>decide (p.1=n)) with
 | none=>rw[hf] at h;cases h
 | some p =>
  rw[hf] at h;cases h;have h1:=List.find?_some hf;have h2:=List.mem_of_find?_eq_some hf;obtain⟨a,b⟩:=p;simp at h1;subst h1;exact h2
theorem fnd_none {S:IL}{n:Bs}:fnd S n=none↔n∉S.map (·.1):=by
 unfold fnd;rw[Option.map_eq_none_iff,List.find?_eq_none];simp only[decide_eq_true_eq,List.mem_map,not_exists,not_and,Prod.forall]
theorem fnd_of {S:IL}(hn:(S.map (·.1)).Nodup){n:Bs}{i:IM}(h:(n,i)∈S):fnd S n=some i:=by
 induction S with
 | nil=>cases h
 | cons p t ih =>
  rw[List.map_cons,List.nodup_cons] at hn;unfold fnd;rw[List.find?_cons];rcases List.mem_cons.1 h with e|e
  ·subst e;simp
  ·have:p.1≠n:=fun e2=>hn.1 (List.mem_map.2 ⟨_,e,e2.symm⟩);rw[show decide (p.1=n)=false by simpa using this];exact ih hn.2 e
theorem AM.names (h:AM w base am S xs):(xs.map (·.n)).Nodup:=by
 have:=h.g.nodup;rwa[List.map_map] at this
theorem AM.at (h:AM w base am S xs)(n:Bs)(hn:n.length<=maxLen):(fnd S n=none/\(Instr.lookup 57 (.map (some am)) (str n) false).run prog w = .ok (.pointer none) w)\/
  ∃ x∈xs,x.n=n/\fnd S n=some x.i/\(Instr.lookup 57 (.map (some am)) (str n) false).run prog w = .ok (pt x.ib) w:=by
 have hl:=h.g.look (t:=57) (e:=77) (z:=.pointer none) K9 underlying57 zero77 rfl n hn;cases hlk:Mx.look (xs.map fun x=>(x.n,pt x.ib)) n with
 | none =>
  left;rw[hlk] at hl;refine⟨?_,hl⟩;rw[fnd_none];have h1:=(look_none _ n).1 hlk;intro h2;apply h1;have h3:=(h.p.map (·.1)).mem_iff.2 h2;rw[List.map_map] at h3 ⊢;exact h3
 | some v =>
  right;rw[hlk] at hl;obtain⟨x,hx,he⟩:=List.mem_map.1 (look_mem hlk);simp only[Prod.mk.injEq] at he;obtain⟨h1,rfl⟩:=he;refine⟨x,hx,h1,?_,hl⟩;apply fnd_of h.nd;rw[<-h1];exact h.p.mem_iff.1 (List.mem_map.2 ⟨x,hx,rfl⟩)
end
end Go.Proofs.YtgkabcaodnofnaaGreat
namespace Go.Md
theorem secs_add (f:Nat->Bs):∀ (n a m:Nat),secs f a (n+m)=secs f a n++secs f (a+n) m
 | 0,a,m=>by simp[secs]
 | n+1,a,m=>by
  rw[Nat.succ_add];simp only[secs];rw[secs_add f n (a+1) m,List.append_assoc,show a+1+n=a+(n+1) by omega]
theorem secs_len {f:Nat->Bs}(hf:∀ s,(f s).length=16):∀ (n a:Nat),(secs f a n).length=16*n
 | 0,a=>by simp[secs]
 | n+1,a=>by simp only[secs,List.length_append,hf,secs_len hf n];omega
theorem secs_congr {f g:Nat->Bs}:∀ (n a:Nat),(∀ s,a<=s->s<a+n->f s=g s)->secs f a n=secs g a n
 | 0,a,_=>rfl
 | n+1,a,h=>by
  simp only[secs];rw[h a nlr (by omega),secs_congr n (a+1) fun s h1 h2=>h s (by omega) (by omega)]
theorem zer_len (n:Nat):(zer n).length=n:=by simp[zer]
theorem zer_add (a b:Nat):zer a++zer b=zer (a+b):=by simp[zer]
theorem zer_drop (a b:Nat):(zer a).drop b=zer (a-b):=by simp[zer]
theorem secs_zer {f:Nat->Bs}:∀ (n a:Nat),(∀ s,a<=s->s<a+n->f s=zer 16)->secs f a n=zer (16*n)
 | 0,a,_=>rfl
 | n+1,a,h=>by
  simp only[secs];rw[h a nlr (by omega),secs_zer n (a+1) fun s h1 h2=>h s (by omega) (by omega),zer_add]
  congr 1;omega
theorem secs_run {f:Nat->Bs}{b:Bs}:∀ (n a o:Nat),(∀ j,j<n->f (a+j)=(b.drop ((o+j)*16)).take 16)->(o+n)*16<=b.length->secs f a n=(b.drop (o*16)).take (n*16)
 | 0,a,o,_,_=>by simp[secs]
 | n+1,a,o,h,hl=>by
  simp only[secs];rw[show f a=(b.drop (o*16)).take 16 from by have:=h 0 (by omega);simpa using this];rw[secs_run n (a+1) (o+1) (fun j hj=>by have:=h (j+1) (by omega);rw[show a+1+j=a+(j+1) by omega,show o+1+j=o+(j+1) by omega];exact this) (by omega)];rw[show(o+1)*16=o*16+16 by omega,show(n+1)*16=16+n*16 by omega,List.take_add,List.drop_drop]
theorem secOf_len {S:IL}(hS:∀ n i,fnd S n=some i->∃ nc,OwnOk i.cl nc i.own):∀ (d:Nat) (n:Bs) (s:Nat),(secOf S d n s).length=16
 | 0,n,s=>by simp[secOf,zer]
 | d+1,n,s=>by
  simp only[secOf];cases hf:fnd S n with
  | none=>simp[zer]
  | some i =>
   simp only;split
   ·split
    ·rename_i b hb;obtain⟨nc,ho⟩:=hS n i hf;have h1:=(ho _ _ hb).2;have h2:s%2^i.cl<2^i.cl:=Nat.mod_lt _ (Nat.two_pow_pos _);rw[List.length_take,List.length_drop,h1];omega
    ·exact secOf_len hS d i.back s
   ·simp[zer]
theorem secIn_len {S:IL}(hS:∀ n i,fnd S n=some i->∃ nc,OwnOk i.cl nc i.own)(d:Nat)(i:IM)(size:Nat)(own:Nat->Option Bs)(ho:∃ nc,OwnOk i.cl nc own)(s:Nat):(secIn S d i size own s).length=16:=by
 unfold secIn;split
 ·split
  ·rename_i b hb;obtain⟨nc,ho⟩:=ho;have h1:=(ho _ _ hb).2;have h2:s%2^i.cl<2^i.cl:=Nat.mod_lt _ (Nat.two_pow_pos _);rw[List.length_take,List.length_drop,h1];omega
  ·exact secOf_len hS d i.back s
 ·simp[zer]
theorem div_run {W pos j:Nat}(hW:0<W)(h:pos%W+j<W):(pos+j)/W=pos/W/\(pos+j)%W=pos%W+j:=by
 have h1:=Nat.div_add_mod pos W;have h2:pos+j=(pos%W+j)+W*(pos/W):=by omega
 constructor
 ·rw[h2,Nat.add_mul_div_left _ _ hW,Nat.div_eq_of_lt h,Nat.zero_add]
 ·rw[h2,Nat.add_mul_mod_self_left,Nat.mod_eq_of_lt h]
theorem piece_own {S:IL}{d:Nat}{i:IM}{size:Nat}{own:Nat->Option Bs}{pos k:Nat}{b:Bs}(hb:own (pos/2^i.cl)=some b)(hl:b.length=16*2^i.cl)(hk:pos%2^i.cl+k<=2^i.cl)(hs:pos+k<=size) :
  secs (secIn S d i size own) pos k=(b.drop (pos%2^i.cl*16)).take (k*16):=by
 have hW:=Nat.two_pow_pos i.cl;refine secs_run k pos _ (fun j hj=>?_) (by omega);obtain⟨h1,h2⟩:=div_run (pos:=pos) (j:=j) hW (by omega);unfold secIn;rw[if_pos (by omega),h1,hb,h2]
theorem piece_none {S:IL}{d:Nat}{i:IM}{size:Nat}{own:Nat->Option Bs}{pos k:Nat}(hb:own (pos/2^i.cl)=none)(hk:pos%2^i.cl+k<=2^i.cl)(hs:pos+k<=size) :
  secs (secIn S d i size own) pos k=secs (secOf S d i.back) pos k:=by
 have hW:=Nat.two_pow_pos i.cl;refine secs_congr k pos fun s h1 h2=>?_;obtain⟨j,rfl⟩:∃ j,s=pos+j:=⟨s-pos,by omega⟩
 obtain⟨h3,_⟩:=div_run (pos:=pos) (j:=j) hW (by omega);unfold secIn;rw[if_pos (by omega),h3,hb]
theorem splice_mid {α:Type}(A Z C:List α)(h:C.length<=Z.length):splice (A++Z) A.length C=A++C++Z.drop C.length:=by
 unfold splice;rw[List.take_left,List.drop_append,List.drop_eq_nil_of_le (by omega),List.nil_append];simp
end Go.Md
namespace Go.Proofs.YtgkabcaodnofnaaGreat
open Go.RowKit Go.Mx Go.Md
theorem info5:(prog.info? 5).map (fun i=>(i.zero,i.size,i.bytes))=some (some (.int .u8 0),1,1):=by kernel_rfl
theorem size5:(prog.info? 5).map (·.size)=some 1:=by kernel_rfl
theorem size5' (w:World):(sizeOf 5).run prog w = .ok 1 w:=by kernel_rfl
def Mod0 (w:World)(mb am:Nat):Prop:=∃ c,w.heap[mb]? = some (.cells c 73 (0,0))/\c[0]? = some (.map (some am))
theorem Mod0.cell {w:World}{mb am:Nat}(h:Mod0 w mb am):w.cell? ⟨mb,0,none⟩=some (.map (some am)):=by
 obtain⟨c,h1,h2⟩:=h;simp[World.cell?,h1,h2]
theorem Mod0.below {w w':World}{mb am:Nat}(h:Mod0 w mb am)(hb:Below w.heap.size w w'):Mod0 w' mb am:=by
 obtain⟨c,h1,h2⟩:=h;exact⟨c,(hb.block mb (blk_lt h1)).trans h1,h2⟩
def IC (w:World)(ib:Nat)(i:IM):Prop:=∃ c,w.heap[ib]? = some (.cells c 87 (0,0))/\c[0]? = some (.int .i64 i.cl)/\c[2]? = some (str i.back)
theorem IC.c0 {w:World}{ib:Nat}{i:IM}(h:IC w ib i):w.cell? ⟨ib,0,none⟩=some (.int .i64 i.cl):=by
 obtain⟨c,h1,h2,_⟩:=h;simp[World.cell?,h1,h2]
theorem IC.c2 {w:World}{ib:Nat}{i:IM}(h:IC w ib i):w.cell? ⟨ib,2,none⟩=some (str i.back):=by
 obtain⟨c,h1,_,h2⟩:=h;simp[World.cell?,h1,h2]
theorem IC.below {w w':World}{ib:Nat}{i:IM}(h:IC w ib i)(hb:Below w.heap.size w w'):IC w' ib i:=by
 obtain⟨c,h1,h2⟩:=h;exact⟨c,(hb.block ib (blk_lt h1)).trans h1,h2⟩
theorem II.ic {w:World}{base ib:Nat}{i:IM}{x:IX}(h:II w base ib i x):IC w ib i:=⟨_,h.ck,rfl,rfl⟩
structure FullB (w:World)(base:Nat)(v:Value)(l:Bs):Prop where
 o:OwnB w base 5 v l
 f:∃ g,v = .slice (some ⟨g,0,none⟩) l.length l.length
theorem FullB.any_base {w:World}{b b':Nat}{v:Value}{l:Bs}(h:FullB w b v l)(hb:b'<=b):FullB w b' v l:=⟨h.o.any_base hb,h.f⟩
def UndP (d:Nat):Prop:=∀ (w:World) (base mb am:Nat) (S:IL) (xs:List XI) (n:Bs) (a c:Nat),Mod0 w mb am->AM w base am S xs->dep S d n->n.length<=100->a<=4096->c<=4096->
 Calls prog 65 #[pt mb,str n,.int .i64 a,.int .i64 c] w fun e w'=>∃ v,e = .returned v/\FullB w' w.heap.size v (secs (secOf S d n) a c)/\Below w.heap.size w w'
def ShoP (d:Nat):Prop:=∀ (w:World) (base mb am:Nat) (S:IL) (xs:List XI) (i:IM) (ib b2 om size nc:Nat) (own:Nat->Option Bs) (ol:ML Int) (a c:Nat),Mod0 w mb am->AM w base am S xs->IC w ib i->OM w b2 om own ol->OwnOk i.cl nc own->
 i.cl<=6->i.back.length<=100->dep S d i.back->size<=4096->a<=4096->c<=4096->
 Calls prog 27 #[pt mb,pt ib,.int .i64 size,.map (some om),.int .i64 a,.int .i64 c] w fun e w'=>∃ v,e = .returned v/\FullB w' w.heap.size v (secs (secIn S d i size own) a c)/\Below w.heap.size w w'
theorem AM.oks {w:World}{base am:Nat}{S:IL}{xs:List XI}(h:AM w base am S xs):∀ n i,fnd S n=some i->IOk i:=by
 intro n i hf;have h1:=h.p.mem_iff.2 (fnd_mem hf);obtain⟨x,hx,he⟩:=List.mem_map.1 h1;simp only[Prod.mk.injEq] at he;rw[<-he.2];exact h.ok x hx
theorem secOf_find {S:IL}{n:Bs}{i:IM}(h:fnd S n=some i)(d:Nat):secOf S (d+1) n=secIn S d i i.size i.own:=by
 funext s;simp only[secOf,h,secIn]
theorem secOf_none {S:IL}{n:Bs}(h:fnd S n=none):∀ d,secOf S d n=fun _=>zer 16
 | 0=>by funext s;simp only[secOf]
 | d+1=>by funext s;simp only[secOf,h]
theorem und_any (d:Nat)(HS:∀ d',d=d'+1->ShoP d'):UndP d:=by
 intro w base mb am S xs n a c hm hA hd hn ha hc;have hcm:=hm.cell;have hnm:n.length<=maxLen:=by unfold maxLen;omega
 rcases hA.at n hnm with⟨hf,hl⟩|⟨x,hx,hxn,hf,hl⟩
 ·have hz:secs (secOf S d n) a c=zer (16*c):=secs_zer c a fun s _ _=>by rw[secOf_none hf]
  rw[hz,Nat.mul_comm 16 c];have hmul:IntKind.i64.wrap ((c:Int)*16)=((c*16:Nat):Int):=by rw[IntWalk.i64_in _ (by omega)];omega
  clear hA hd hm hz;go_enter func65,ntmps65
  go_wp2_with (at_make;refine make_bytes _ rfl _ _ 23 5 rfl underlying23 info5 w.heap.size _ _ _ _ (c*16) rfl rfl ?_ ?_ ?_ ?_ ?_)
  ·omega
  ·omega
  ·omega
  ·exact nlr
  ·intro v w' ho hb hv;subst hv
   go_wp2
   go_ret
   refine⟨_,rfl,?_,hb⟩;exact⟨ho,w.heap.size,by rw[zer_len];rfl⟩
 ·obtain⟨d',rfl⟩:∃ d',d=d'+1:=by
   cases d with
   | zero=>have hd:fnd S n=none:=hd;rw[hf] at hd;cases hd
   | succ d'=>exact⟨d',rfl⟩
  have hd':dep S d' x.i.back:=by unfold dep at hd;rw[hf] at hd;exact hd
  have hII:=hA.i x hx;have hok:=hA.ok x hx;rw[secOf_find hf];obtain⟨k0,k1,k2,k3,k4,k5,kf⟩:=hII.cells;have hB:Below w.heap.size w w:=brf;have F1:∀ w',Below w.heap.size w w'->w'.cell? ⟨x.ib,1,none⟩=some (.int .i64 x.i.size):=fun w' h=>(hII.below h).cells.2.1;have F3:∀ w',Below w.heap.size w w'->w'.cell? ⟨x.ib,3,none⟩=some (.map (some x.x.om)):=fun w' h=>(hII.below h).cells.2.2.2.1;have HX:=hid (HS d' rfl);have HM:=jd5 hm hA hII hok hd';clear hm hA hII hok hd' hd HS k0 k1 k2 k3 k4 k5 kf hf;go_enter func65,ntmps65
  go_wp2_with fail
  go_region_held (fun w'=>Below w.heap.size w w') (first|exact brf.drew|assumption|exact Below.drew (by assumption)) (first
   | (go_at_call 27;refine(HX.out _ base mb am S xs x.i x.ib base x.x.om x.i.size _ x.i.own x.x.ol a c (HM.out.1.below (by assumption)) (HM.out.2.1.below (by assumption)) (HM.out.2.2.1.below (by assumption)).ic (HM.out.2.2.1.below (by assumption)).own HM.out.2.2.2.1.own HM.out.2.2.2.1.cl HM.out.2.2.2.1.nb HM.out.2.2.2.2 HM.out.2.2.2.1.size ha hc).mono ?_;rintro e w5 ⟨v5,rfl,ho5,hb5⟩;have hs5:FullB w5 w.heap.size v5 (secs (secIn S d' x.i x.i.size x.i.own) a c):=ho5.any_base (Below.size (by assumption));have hb5':Below w.heap.size w w5:=Below.trans (by assumption) (hb5.mono (Below.size (by assumption)))))
  go_wp2_with fail
  go_ret
  exact⟨_,rfl,hs5,hb5'⟩
end Go.Proofs.YtgkabcaodnofnaaGreat
namespace Go.Mx
open Go.RowKit
theorem setRow_kept (w:World)(g:Nat)(cs:Array Value):Kept w (w.setRow g cs) (·≠g):=⟨by simp[World.setRow],fun k _ hk=>setRow_other w g k cs hk,rfl,rfl,rfl⟩
theorem map_splice (L:List UInt8)(off:Nat)(bs:List UInt8):(splice L off bs).map u8=splice (L.map u8) off (bs.map u8):=by
 unfold splice;simp[List.map_take,List.map_drop]
theorem run_copy_b {P:Program}(w:World)(dT sT ty e:TypeId)(hu:P.underlying dT=some (.slice e))(hsz:(P.info? e).map (·.size)=some 1)(g off dLen dCap:Nat)(sv:Value)(bs L:List UInt8)(B:Nat)(t:TypeId)
  (hsl:SlB w B sv bs) (hg:w.heap[g]? = some (.cells (L.map u8).toArray t (0,0))) (hl:bs.length<=dLen) (hfit:off+bs.length<=L.length) :
  ∃ w',(Builtin.copy_ #[dT,sT] ty #[.slice (some ⟨g,off,none⟩) dLen dCap,sv]).run P w = .ok (goInt bs.length) w'/\w'.heap[g]? = some (.cells ((splice L off bs).map u8).toArray t (0,0))/\Kept w w' (·≠g)/\(∀ B w0,Below B w0 w->B<=g->Below B w0 w'):=by
 obtain⟨oa,cap,rfl,h1,h2,h3⟩:=id hsl;by_cases h0:bs.length=0
 ·obtain rfl:bs=[]:=List.eq_nil_of_length_eq_zero h0;have hrun:=run_copy_none (P:=P) w dT sT ty e (some ⟨g,off,none⟩) oa dLen dCap 0 cap hu hsz (by simp);exact⟨w,hrun,by simpa[splice] using hg,Kept.refl _ _,fun _ _ h _=>h⟩
 ·obtain⟨bb,bo,rfl,_,hr⟩:=h3 (by rintro rfl;exact h0 rfl);have hrun:=run_copy_row (P:=P) w dT sT ty e g off dLen dCap ⟨bb,bo,none⟩ bs.length cap (L.map u8).toArray t (bs.map u8) hu hsz hg (by rw[List.length_map];exact(Nat.min_eq_left hl).symm) (fun j v hj=>by
   rw[List.getElem?_map] at hj;cases hb:bs[j]? with
   | none=>rw[hb] at hj;cases hj
   | some y =>
    rw[hb] at hj;simp only[Option.map_some,Option.some.injEq] at hj;subst hj;have hjl:j<bs.length:=(List.getElem?_eq_some_iff.1 hb).1;have e:(⟨bb,bo,none⟩:Addr).add j=⟨bb,bo+j,none⟩:=by unfold Addr.add;split<;>simp_all
    rw[e,hr j hjl,List.getD_eq_getElem?_getD,hb];rfl) (by simpa using hfit) (by intro u hu;simp at hu;obtain⟨y,_,rfl⟩:=hu;rfl)
  have hrow:(((L.map u8).toArray).toList.take off++bs.map u8++((L.map u8).toArray).toList.drop (off+(bs.map u8).length)).toArray=((splice L off bs).map u8).toArray:=by rw[map_splice];simp[splice]
  rw[hrow] at hrun;rw[List.length_map] at hrun;exact⟨_,hrun,setRow_heap w g _ _ t _ hg,setRow_kept _ _ _,fun B w0 hb hBg=>below_setRow hb hBg _⟩
theorem step_copy_b {P:Program}{ops:Array Oper}{o:Oper}{a:Act}{w:World}{K:Act->World->Prop}{Q:Exit->Act->World->Prop}{E:Prop}(hgd:o.guard=none)(d s:Operand)(dT sT:TypeId)
  (ho:o.op = .call {callee:=.builtin .copy,args := #[d,s],argTypes := #[dT,sT]}) (e:TypeId) (hu:P.underlying dT=some (.slice e)) (hsz:(P.info? e).map (·.size)=some 1)
  (g off dLen dCap:Nat) (sv:Value) (bs L:List UInt8) (B:Nat) (t:TypeId) (hd:a.eval d = .slice (some ⟨g,off,none⟩) dLen dCap) (hs:a.eval s=sv)
  (hsl:SlB w B sv bs) (hg:w.heap[g]? = some (.cells (L.map u8).toArray t (0,0))) (hl:bs.length<=dLen) (hfit:off+bs.length<=L.length)
  (h:∀ w',Hid (w'.heap[g]? = some (.cells ((splice L off bs).map u8).toArray t (0,0)))->Kept w w' (·≠g)->(∀ B w0,Below B w0 w->B<=g->Below B w0 w')->K (a.put o.dst (goInt bs.length)) w') :
  if Region.wanted o (yielded ops a.tmps)=true then Oper.wp P o a w K Q else E:=by
 have hw:Region.wanted o (yielded ops a.tmps)=true:=by simp[Region.wanted,hgd]
 rw[if_pos hw];obtain⟨w',hrun,h1,h2,h3⟩:=run_copy_b w dT sT o.type e hu hsz g off dLen dCap sv bs L B t hsl hg hl hfit;unfold Oper.wp;simp[execOp,ho,resolve,invoke,builtin,hd,hs,hrun,Result.andThen];exact h w' h1 h2 h3
end Go.Mx
