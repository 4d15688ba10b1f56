import Derived.Test.YtgkabcaodnofnaaGreatB07
import Derived.Deep.CutRange
set_option linter.unusedSimpArgs false
set_option linter.unusedVariables false
set_option maxRecDepth 100000
set_option maxHeartbeats 1000000
open Go.Proofs.Tryz
namespace Go.Md
theorem two_pow6 {cl:Nat}(h:cl<=6):1<=2^cl/\2^cl<=64:=by
 have:cl=0\/cl=1\/cl=2\/cl=3\/cl=4\/cl=5\/cl=6:=by omega
 rcases this with rfl|rfl|rfl|rfl|rfl|rfl|rfl<;>simp
theorem lay_step {f:Nat->Bs}(hf:∀ s,(f s).length=16){a pos k c:Nat}(h1:a<=pos)(h2:pos+k<=a+c) :
  splice (secs f a (pos-a)++zer (16*(a+c-pos))) ((pos-a)*16) (secs f pos k)=secs f a (pos+k-a)++zer (16*(a+c-(pos+k))):=by
 have hl:(secs f a (pos-a)).length=(pos-a)*16:=by rw[secs_len hf];omega
 have hk:(secs f pos k).length=16*k:=secs_len hf k pos;rw[<-hl,splice_mid _ _ _ (by rw[hk,zer_len];omega),hk,zer_drop,show pos+k-a=(pos-a)+k by omega,secs_add,show a+(pos-a)=pos by omega]
 congr 2;omega
theorem lay_end {f:Nat->Bs}{a pos c:Nat}(h2:a<=pos)(hp:pos<=a+c)(hz:∀ s,pos<=s->s<a+c->f s=zer 16):secs f a (pos-a)++zer (16*(a+c-pos))=secs f a c:=by
 rw[<-secs_zer (f:=f) (a+c-pos) pos (fun s h3 h4=>hz s h3 (by omega))];have:=secs_add f (pos-a) a (a+c-pos);rw[show a+(pos-a)=pos by omega,show pos-a+(a+c-pos)=c by omega] at this;exact this.symm
end Go.Md
namespace Go.Proofs.YtgkabcaodnofnaaGreat
open Go.RowKit Go.Mx Go.Md
theorem ownB_sh {w:World}{base:Nat}{e:TypeId}{v:Value}{l:Bs}(h:OwnB w base e v l):∃ a n c,v = .slice a n c:=by
 rcases h.shape with⟨rfl,_⟩|⟨g,c,rfl,_⟩<;>exact⟨_,_,_,rfl⟩
theorem OwnB.full {w:World}{base g n:Nat}{e:TypeId}{bs:Bs}(h:OwnB w base e (.slice (some ⟨g,0,none⟩) n n) bs):w.heap[g]? = some (.cells (bs.map u8).toArray e (0,0)):=by
 rcases h.2 with⟨hv,_⟩|⟨g',cap,cur,hv,hb,hg,hn,hm,hs,ht⟩
 ·cases hv
 ·simp only[Value.slice.injEq,Option.some.injEq,Addr.mk.injEq] at hv;obtain⟨⟨rfl,_⟩,h1,h2⟩:=hv;rw[hg]
  congr 2
  apply Array.ext';have:cur.toList.length=n:=by rw[Array.length_toList,hs];omega
  rw[<-ht,List.take_of_length_le (by rw[this,h1];omega)]
theorem OwnB.ofFull {w:World}{base g n:Nat}{e:TypeId}{bs:Bs}(h:w.heap[g]? = some (.cells (bs.map u8).toArray e (0,0)))(hn:n=bs.length)(hb:base<=g)(hm:n<=maxLen):OwnB w base e (.slice (some ⟨g,0,none⟩) n n) bs:=by
 subst hn;refine⟨by simp,.inr ⟨g,_,_,rfl,hb,h,nlr,hm,by simp,by simp[List.take_of_length_le]⟩⟩
theorem slice_from (g n lo:Nat)(h:lo<n):∀ w' (k:IntKind),(Instr.slice 23 (.slice (some ⟨g,0,none⟩) n n) (some (.int k (lo:Int))) none none).run prog w' = .ok (.slice (some ⟨g,lo,none⟩) (n-lo) (n-lo)) w':=by
 intro w' k;have ht:prog.underlying 23=some (.slice 5):=underlying23;have ht':prog.underlying 23=some (.slice (prog.elem 23)):=by rw[ht];simp[Program.elem,ht]
 have hel:prog.elem 23=5:=by simp[Program.elem,ht]
 rw[run_slice_l (l:=(lo:Int)) (ht:=ht') (h0:=by omega) (h1:=by omega),hel,size5'];simp only[Result.andThen,sliced,Int.toNat_natCast];rw[if_neg (by omega)];simp[Addr.add];exact fun h=>h.symm
theorem sho_any (d:Nat)(HU:UndP d):ShoP d:=by
 intro w base mb am S xs i ib b2 om size nc own ol a c hm hA hic hom hok hcl hbk hd hsz ha hc;obtain⟨hW1,hW2⟩:=two_pow6 hcl;obtain⟨f,hf⟩:∃ f,f=secIn S d i size own:=⟨_,rfl⟩
 have hfl:∀ s,(f s).length=16:=fun s=>by rw[hf];exact secIn_len (fun n i h=>⟨_,(hA.oks n i h).own⟩) d i size own ⟨_,hok⟩ s
 rw[<-hf];obtain⟨W,hW⟩:∃ W:Nat,W=2^i.cl:=⟨_,rfl⟩
 rw[<-hW] at hW1 hW2;obtain⟨K,hK⟩:∃ K:Nat,K=min c (size-a):=⟨_,rfl⟩
 have hc0:=hic.c0;have HSP:Hid (∀ w':World,Calls prog 64 #[.int .i64 a,.int .i64 K,.int .i64 i.cl] w' fun e w''=>∃ v,e = .returned (.tuple #[v,.int .i64 0])/\OwnG w'' w'.heap.size 116 3 v ((pcs W a (a+K)).map (prow W))/\Below w'.heap.size w' w''):=hid fun w'=>by rw[hW];exact split_any a K i.cl w' hcl ha (by omega)
 have hKb:K<=4096:=by omega
 have hKc:K<=c:=by omega
 have hKs:K≠0->a+K<=size:=by omega
 have HK:=hid hK;clear hK;have H0:=jd5 hm hA hic hom hd;have HF:=jd3 hf hfl hW;clear hm hA hom hd hf hfl hW;have hmul:IntKind.i64.wrap ((c:Int)*16)=((c*16:Nat):Int):=by rw[IntWalk.i64_in _ (by omega)];omega
 go_enter func27,ntmps27
 go_wp2_with (at_make;refine make_bytes _ rfl _ _ 23 5 rfl underlying23 info5 w.heap.size _ _ _ _ (c*16) rfl rfl ?_ ?_ ?_ ?_ ?_)
 ·omega
 ·omega
 ·omega
 ·exact nlr
 intro v w1 ho hb hv;subst hv;have hc1:=(H0.out.2.2.1.below hb).c0;have hblk:=OwnB.full ho;have H1:=jd2 hb hblk;clear hic hc0 ho hb hblk hmul;go_upto_region 2 with(fail)
 go_cut [14] from 15 (fun s14 wx=>OwnG wx w1.heap.size 116 3 s14 ((pcs W a (a+K)).map (prow W))/\Below w1.heap.size w1 wx)
 case first =>
  have q1:IntKind.i64.wrap ((size:Int)-(a:Int))=(size:Int)-(a:Int):=by rw[IntWalk.i64_in _ (by omega)]
  go_wp2_with fail
  ·rename_i h1;have h2:=h;have hK:=HK.out;rw[if_pos h2] at h1;have hs:=HSP.out w1;rw[show(K:Int)=(size:Int)-(a:Int) by omega] at hs;clear hK;refine hs.mono ?_;rintro e w2 ⟨v2,rfl,ho2,hb2⟩;obtain⟨xa,xn,xc,rfl⟩:=ownG_sh ho2;go_wp2_with fail;go_meet;case rel=>exact⟨ho2,hb2⟩
  ·rename_i h1;have h2:=h;have hK:=HK.out;rw[if_neg (by omega)] at h1;have hs:=HSP.out w1;rw[show(K:Int)=(c:Int) by omega] at hs;clear hK;refine hs.mono ?_;rintro e w2 ⟨v2,rfl,ho2,hb2⟩;obtain⟨xa,xn,xc,rfl⟩:=ownG_sh ho2;go_wp2_with fail;go_meet;case rel=>exact⟨ho2,hb2⟩
  ·rename_i h1;have h2:=h;have hK:=HK.out;rw[if_pos h2] at h1;have hs:=HSP.out w1;rw[show(K:Int)=(0:Int) by omega] at hs;clear hK;refine hs.mono ?_;rintro e w2 ⟨v2,rfl,ho2,hb2⟩;obtain⟨xa,xn,xc,rfl⟩:=ownG_sh ho2;go_wp2_with fail;go_meet;case rel=>exact⟨ho2,hb2⟩
  ·rename_i h1;have h2:=h;have hK:=HK.out;rw[if_neg (by omega)] at h1;have hs:=HSP.out w1;rw[show(K:Int)=(0:Int) by omega] at hs;clear hK;refine hs.mono ?_;rintro e w2 ⟨v2,rfl,ho2,hb2⟩;obtain⟨xa,xn,xc,rfl⟩:=ownG_sh ho2;go_wp2_with fail;go_meet;case rel=>exact⟨ho2,hb2⟩
 case rest =>
  obtain⟨ho2,hbc⟩:=hcut;obtain⟨oa,vn,vc,rfl⟩:=ownG_sh ho2;have hlen:=SlG.len (P:=prog) (ty:=3) ho2.slG underlying112 wc;rw[List.length_map] at hlen;obtain⟨stop,hstop⟩:∃ x,x=a+K:=⟨_,rfl⟩
  rw[<-hstop] at ho2 hlen;obtain⟨N,hN⟩:∃ N,N=(pcs W a stop).length:=⟨_,rfl⟩
  rw[<-hN] at hlen;have hblk0:=(hbc.block _ (blk_lt H1.out.2)).trans H1.out.2;have hbt:=H1.out.1.trans (hbc.mono H1.out.1.size);have hlt1:w.heap.size<w1.heap.size:=blk_lt H1.out.2;have hst1:stop<=a+c:=by omega
  have hst2:a<=stop:=by omega
  have hst3:stop<=size\/stop=a:=by omega
  have H2:=jd6 hblk0 hbt hlt1 hN ho2 hstop;clear ho2 hbc HSP hc1 hblk0 hbt hN hstop
  go_wp2_with fail
  go_loopw [16,42] (fun s16 s42 wr=>∃ j pos F:Nat,s42 = .int .i64 j/\s16 = .int .i64 F/\F=(pos-a)*16/\a<=pos/\pos<=stop/\j<=N/\(pcs W a stop).drop j=pcs W pos stop/\wr.heap[w.heap.size]? = some (.cells ((secs f a (pos-a)++zer (16*(a+c-pos))).map u8).toArray 5 (0,0))/\Below w.heap.size w wr/\OwnG wr w1.heap.size 116 3 (.slice oa vn vc) ((pcs W a stop).map (prow W))) (fun _ s42 _=>N-(intOf s42).toNat)
  case atStart=>exact⟨0,a,0,rfl,rfl,by omega,by omega,by omega,by omega,rfl,by simp only[Nat.sub_self,secs,List.nil_append];rw[show 16*(a+c-a)=c*16 by omega];exact H2.out.1,H2.out.2.1,H2.out.2.2.2.2.1⟩
  case round =>
   obtain⟨j,pos,F,rfl,rfl,hFe,hp1,hp2,hjN,hdr,hblk,hbl,hop⟩:=hrel;have hNl:=H2.out.2.2.2.1;by_cases hlt:pos<stop
   ·have hst:=pcs_step (wide:=W) (by omega) hlt;obtain⟨k,hk⟩:∃ k,k=min (W-pos%W) (stop-pos):=⟨_,rfl⟩
    rw[<-hk] at hst;have hmW:pos%W<W:=Nat.mod_lt _ (by omega);have hk1:1<=k/\pos+k<=stop/\pos%W+k<=W:=by omega
    have hj:j<N:=by
     rcases Nat.lt_or_ge j N with h|h
     ·exact h
     ·rw[List.drop_eq_nil_of_le (by omega),hst] at hdr;cases hdr
    have hget:(pcs W a stop)[j]? = some (pos,k):=by
     have:=congrArg (fun l=>l[0]?) (hdr.trans hst);simpa using this
    have hdr2:(pcs W a stop).drop (j+1)=pcs W (pos+k) stop:=by
     have:=congrArg List.tail (hdr.trans hst);simpa using this
    obtain⟨Q,hQ⟩:∃ Q,Q=pos/W:=⟨_,rfl⟩
    obtain⟨R,hR⟩:∃ R,R=pos%W:=⟨_,rfl⟩
    have hQb:Q<=8192:=by have:=Nat.div_le_self pos W;omega
    have hrow:prow W (pos,k)=[.int .i64 Q,.int .i64 R,.int .i64 k]:=by rw[hQ,hR]
    have hjl:j<((pcs W a stop).map (prow W)).length:=by rw[List.length_map];omega
    have hgd:((pcs W a stop).map (prow W)).getD j []=[.int .i64 Q,.int .i64 R,.int .i64 k]:=by rw[List.getD_eq_getElem?_getD,List.getElem?_map,hget,<-hrow];rfl
    obtain⟨wA,hwA⟩:∃ x,x=wr.alloc (.cells #[.int .i64 Q,.int .i64 R,.int .i64 k] 116):=⟨_,rfl⟩
    have hbA:Below wr.heap.size wr wA:=by rw[hwA];exact brf.alloc nlr _
    have hqA:wA.heap[wr.heap.size]? = some (.cells #[.int .i64 Q,.int .i64 R,.int .i64 k] 116 (0,0)):=by rw[hwA];exact alloc_new wr _
    have hbwA:=hbl.trans (hbA.mono hbl.size);rcases hop.shape with⟨_,he⟩|⟨g,cc,he,hg,_⟩
    ·rw[he] at hjl;simp at hjl
    rw[List.length_map,<-hNl] at he;simp only[Value.slice.injEq] at he;obtain⟨rfl,rfl,rfl⟩:=he;have hjm:j<9223372036854775807:=by have h1:=hop.parts;have h2:=h1.1;have h3:=h1.2.2.1;have h4:=h1.2.2.2.1;unfold maxLen at h4;rw[List.length_map,<-hNl] at h2 h3;omega
    have hia:=hop.addr (P:=prog) underlying112 size116 j hjl;have hra:=hop.rangeAt j hjl;rw[hgd] at hra;have c0:wr.cell? ⟨g,j*3,none⟩=some (.int .i64 Q):=hra 0 _ rfl;have c1:=hra 1 _ rfl;have c2:=hra 2 _ rfl;obtain⟨o,ho⟩:∃ o,o=j*3:=⟨_,rfl⟩
    rw[<-ho] at hia c0 c1 c2;have hF:F<c*16:=by omega
    have hsf:=slice_from w.heap.size (c*16) (F) hF;have hom:=H0.out.2.2.2.1.below hbwA;have hl1:(secs f pos k).length<=c*16-F:=by rw[secs_len HF.out.2.1];omega
    have hl2:F+(secs f pos k).length<=(secs f a (pos-a)++zer (16*(a+c-pos))).length:=by rw[List.length_append,secs_len HF.out.2.1,secs_len HF.out.2.1,zer_len];omega
    have hblkA:=(hbA.block _ (blk_lt hblk)).trans hblk;have hqa:∀ t u,(#[Value.int .i64 Q,.int .i64 R,.int .i64 k]:Array Value)[t]? = some u->wA.cell? ⟨wr.heap.size,t,none⟩=some u:=fun t u hu=>by simp only[World.cell?,hqA];simpa using hu
    have a0:wA.cell? ⟨wr.heap.size,0,none⟩=some (.int .i64 Q):=hqa 0 _ rfl;have a1:wA.cell? ⟨wr.heap.size,1,none⟩=some (.int .i64 R):=hqa 1 _ rfl;have a2:wA.cell? ⟨wr.heap.size,2,none⟩=some (.int .i64 k):=hqa 2 _ rfl;have hk16:IntKind.i64.wrap ((k:Int)*16)=((k*16:Nat):Int):=by rw[IntWalk.i64_in _ (by omega)];omega
    have hR16:IntKind.i64.wrap ((R:Int)*16)=((R*16:Nat):Int):=by rw[IntWalk.i64_in _ (by omega)];omega
    rcases hom.at Q (by omega) with⟨hno,hlk⟩|⟨bs,v,hso,hov,hlk⟩
    ·have HE:=jd3 hblkA hl1 hl2;have HP:=jd6 hbwA (hop.below hbA nlr) hdr2 hwA (blk_lt hqA) (Nat.ne_of_gt (blk_lt hblk));have hst9:=hk1.2.1;have hk9:=hk1.1;have hk8:k<=64:=by omega
     have hR8:R<=64:=by omega
     have HFE:=hid hFe;have hpos:Q*W+R=pos:=by rw[hQ,hR];have:=Nat.div_add_mod pos W;rw[Nat.mul_comm] at this;exact this
     obtain⟨QW,hQW⟩:∃ z,z=Q*W:=⟨_,rfl⟩
     rw[<-hQW] at hpos;have hsum:IntKind.i64.wrap ((QW:Int)+(R:Int))=(pos:Int):=by rw[IntWalk.i64_in _ (by omega)];omega
     have hpw:IntKind.i64.wrap ((Q:Int)*2^i.cl)=(QW:Int):=by
      have e:((2:Int)^i.cl)=(W:Int):=by rw[HF.out.2.2];simp
      rw[e];have:((Q:Int)*(W:Int))=(QW:Int):=by rw[hQW];push_cast;rfl
      rw[this];clear e this;exact IntWalk.i64_in _ (by omega)
     have hpw:=hid hpw;have hpn:secs f pos k=secs (secOf S d i.back) pos k:=by
      rw[HF.out.1];have h1:=HF.out.2.2;rw[h1] at hQ hR hk1;exact piece_none (by rw[<-hQ];exact hno) hk1.2.2 (by omega)
     have HPN:=hid hpn;rw[hwA] at hlk a0 a1;have F0:∀ w',Below wA.heap.size wA w'->w'.cell? ⟨ib,0,none⟩=some (.int .i64 i.cl):=fun w' h=>((H0.out.2.2.1.below (HP.out.1)).below h).c0;have F2:∀ w',Below wA.heap.size wA w'->w'.cell? ⟨ib,2,none⟩=some (str i.back):=fun w' h=>((H0.out.2.2.1.below (HP.out.1)).below h).c2;have G0:∀ w',Below wA.heap.size wA w'->w'.cell? ⟨wr.heap.size,0,none⟩=some (.int .i64 Q):=fun w' h=>(World.cell?_of_block (h.block _ HP.out.2.2.2.2.1)).trans (hqa 0 _ rfl);have G1:∀ w',Below wA.heap.size wA w'->w'.cell? ⟨wr.heap.size,1,none⟩=some (.int .i64 R):=fun w' h=>(World.cell?_of_block (h.block _ HP.out.2.2.2.2.1)).trans (hqa 1 _ rfl);have G2:∀ w',Below wA.heap.size wA w'->w'.cell? ⟨wr.heap.size,2,none⟩=some (.int .i64 k):=fun w' h=>(World.cell?_of_block (h.block _ HP.out.2.2.2.2.1)).trans (hqa 2 _ rfl);have HF02:=jd7 hpw.out hsum F0 F2 G0 G1 G2
     clear hpw hsum F0 F2 G0 G1 G2 hpos hsf hF;clear hpn hblkA hl1 hl2 hbwA hop hdr2 hdr hst hno hom hqa hqA hwA hrow hgd hget hblk hbl hQ hR hk hmW hk1 hra ho hbA hlen hjl hNl hFe a2 hQW;go_upto_region 10 with(fail)
     rw[<-HP.out.2.2.2.1];clear a0 a1 hlk c0 c1 c2 hia hR16 hk16;have hp4:pos<=4096:=by omega
     have hk4:k<=4096:=by omega
     obtain⟨hpw,hsum,F0,F2,G0,G1,G2⟩:=HF02.out;clear HF02
     go_region_held (fun w'=>Below wA.heap.size wA w') (first|exact brf.drew|assumption|exact Below.drew (by assumption)) (first
      | (go_at_call 65;refine(HU _ base mb am S xs i.back pos k ((H0.out.1.below HP.out.1).below (by assumption)) ((H0.out.2.1.below HP.out.1).below (by assumption)) H0.out.2.2.2.2 hbk hp4 hk4).mono ?_;rintro e w5 ⟨v5,rfl,ho5f,hb5c⟩;have ho5:=ho5f.o;have hb5:Below wA.heap.size wA w5:=Below.trans (by assumption) (hb5c.mono (Below.size (by assumption)))))
     clear hpw hsum F0 F2 G0 G1;have d2:=G2 _ hb5;have hs5:(secs (secOf S d i.back) pos k).length=k*16:=by rw[<-HPN.out,secs_len HF.out.2.1];omega
     obtain⟨ya,yn,yc,rfl⟩:=ownB_sh ho5;obtain⟨pv,hpv,hpr⟩:=ho5.slB.part (P:=prog) underlying23 size5' 0 (k*16) (by omega) (by omega);rw[List.drop_zero,List.take_of_length_le (by omega),<-HPN.out] at hpv;have HW:=jd5 hpv (HP.out.2.1.below hb5 nlr) (HP.out.1.trans (hb5.mono HP.out.1.size)) (Nat.lt_of_lt_of_le HP.out.2.2.2.2.1 hb5.size) ((hb5.block _ (blk_lt HE.out.1)).trans HE.out.1)
     push_cast at hpr
     have hF:F<c*16:=by rw[HFE.out];omega
     have hsf:=slice_from w.heap.size (c*16) F hF;have hs3:IntKind.i64.wrap ((k:Int)*16)=(k:Int)*16:=by rw[IntWalk.i64_in _ (by omega)]
     clear G2 hpv ho5 ho5f hb5 hb5c hs5;go_upto_region 11 with(fail)
     have HE1:Hid (∀ X:World,(X=w5\/X=w5.drew)->SlB X w5.heap.size pv (secs f pos k)/\X.heap[w.heap.size]? = some (.cells ((secs f a (pos-a)++zer (16*(a+c-pos))).map u8).toArray 5 (0,0))):=hid fun X hX=>by
      rcases hX with rfl|rfl
      ·exact⟨HW.out.1,HW.out.2.2.2.2⟩
      ·exact⟨HW.out.1.below brf.drew nlr,HW.out.2.2.2.2⟩
     go_region_law (first
      | (refine step_copy_b (by rfl) (.tmp 78) (.tmp 86) 23 23 (by rfl) 5 underlying23 size5 w.heap.size F (c*16-F) (c*16-F) pv (secs f pos k) (secs f a (pos-a)++zer (16*(a+c-pos))) w5.heap.size 5 (by rfl) (by rfl) (HE1.out _ (by first|exact Or.inl rfl|exact Or.inr rfl)).1 (HE1.out _ (by first|exact Or.inl rfl|exact Or.inr rfl)).2 HE.out.2.1 HE.out.2.2 ?_;intro w7 hg7 hk7 hb7))
     all_goals
      replace hk7:=(Kept.drew _ _).trans hk7
      have hop9:=HW.out.2.1;have b2':w7.cell? ⟨wr.heap.size,2,none⟩=some (.int .i64 k):=(hk7.cell HW.out.2.2.2.1 HP.out.2.2.2.2.2).trans d2;have hrel9:w7.heap[w.heap.size]? = some (.cells ((secs f a (pos+k-a)++zer (16*(a+c-(pos+k)))).map u8).toArray 5 (0,0)):=by
       have:=hg7.out;rw[HFE.out,lay_step HF.out.2.1 hp1 (by omega)] at this;exact this
      have hb9:Below w.heap.size w w7:=hb7 _ _ HW.out.2.2.1.drew nlr;have ho9:OwnG w7 w1.heap.size 116 3 (.slice (some ⟨g,0,none⟩) vn vc) ((pcs W a stop).map (prow W)):=hop9.kept hk7 fun q hq=>by have h1:=H2.out.2.2.1;have:w1.heap.size<=q:=hop9.ge q hq;omega
      have HZ:=jd3 hrel9 hb9 ho9;clear hrel9 hb9 ho9 d2 hg7 hk7 hb7
      go_wp2_with fail
      exact⟨⟨j+1,pos+k,F+k*16,by go_num,by go_num,by rw[HFE.out];omega,by omega,hst9,hj,HP.out.2.2.1,HZ.out.1,HZ.out.2.1,HZ.out.2.2⟩,by simp[intOf];omega⟩
    ·obtain⟨va,vn',vc',rfl⟩:∃ x y z,v = .slice x y z:=ownB_sh hov;have hbsl:bs.length=16*W:=by rw[HF.out.2.2];exact(hok _ _ hso).2
     obtain⟨pv,hpv,hpr⟩:=hov.slB.part (P:=prog) underlying23 size5' (R*16) (R*16+k*16) (by omega) (by omega);have hs1:IntKind.i64.wrap (((R*16:Nat):Int)+((k*16:Nat):Int))=((R*16+k*16:Nat):Int):=by rw[IntWalk.i64_in _ (by omega)];omega
     have hpc:(bs.take (R*16+k*16)).drop (R*16)=secs f pos k:=by
      rw[HF.out.1];have h1:=HF.out.2.2;rw[h1] at hQ hR hk1 hbsl;rw[piece_own (by rw[<-hQ];exact hso) hbsl hk1.2.2 (by omega),<-hR,List.drop_take,show R*16+k*16-R*16=k*16 by omega]
     rw[hpc] at hpv;have HE:=jd4 hpv hblkA hl1 hl2;have HP:=jd6 hbwA (hop.below hbA nlr) hdr2 hwA (blk_lt hqA) (Nat.ne_of_gt (blk_lt hblk));have hst9:=hk1.2.1;have HFE:=hid hFe;clear hFe;have hk9:=hk1.1;have hk8:k<=64:=by omega
     have hR8:R<=64:=by omega
     rw[hwA] at hlk a0 a1 a2;clear hpc hpv hblkA hl1 hl2 hbwA hop hdr2 hdr hst hso hov hbsl hom hqa hqA hwA hrow hgd hget hblk hbl hQ hR hk hmW hk1 hra ho hbA hlen hjl hNl;go_upto_region 11 with(fail)
     rw[<-HP.out.2.2.2.1] at a2;rw[<-HP.out.2.2.2.1]
     push_cast at hpr
     clear a0 a1 hlk c0 c1 c2 hia hR16;have HE1:Hid (∀ X:World,(X=wA\/X=wA.drew)->SlB X wA.heap.size pv (secs f pos k)/\X.heap[w.heap.size]? = some (.cells ((secs f a (pos-a)++zer (16*(a+c-pos))).map u8).toArray 5 (0,0))):=hid fun X hX=>by
      rcases hX with rfl|rfl
      ·exact⟨HE.out.1,HE.out.2.1⟩
      ·exact⟨HE.out.1.below brf.drew nlr,HE.out.2.1⟩
     have hs2:IntKind.i64.wrap ((R:Int)*16+(k:Int)*16)=(R:Int)*16+(k:Int)*16:=by rw[IntWalk.i64_in _ (by omega)]
     have hs3:IntKind.i64.wrap ((k:Int)*16)=(k:Int)*16:=by rw[IntWalk.i64_in _ (by omega)]
     clear hs1 hk16
     go_region_law (first
      | (refine step_copy_b (by rfl) (.tmp 78) (.tmp 86) 23 23 (by rfl) 5 underlying23 size5 w.heap.size (F) (c*16-F) (c*16-F) pv (secs f pos k) (secs f a (pos-a)++zer (16*(a+c-pos))) wA.heap.size 5 (by rfl) (by rfl) (HE1.out _ (by first|exact Or.inl rfl|exact Or.inr rfl)).1 (HE1.out _ (by first|exact Or.inl rfl|exact Or.inr rfl)).2 HE.out.2.2.1 HE.out.2.2.2 ?_;intro w7 hg7 hk7 hb7))
     all_goals
      replace hk7:=(Kept.drew _ _).trans hk7
      have hop9:=HP.out.2.1;have b2':w7.cell? ⟨wr.heap.size,2,none⟩=some (.int .i64 k):=(hk7.cell HP.out.2.2.2.2.1 HP.out.2.2.2.2.2).trans a2;have hrel9:w7.heap[w.heap.size]? = some (.cells ((secs f a (pos+k-a)++zer (16*(a+c-(pos+k)))).map u8).toArray 5 (0,0)):=by
       have:=hg7.out;rw[HFE.out,lay_step HF.out.2.1 hp1 (by omega)] at this;exact this
      have hb9:Below w.heap.size w w7:=hb7 _ _ HP.out.1.drew nlr;have ho9:OwnG w7 w1.heap.size 116 3 (.slice (some ⟨g,0,none⟩) vn vc) ((pcs W a stop).map (prow W)):=hop9.kept hk7 fun q hq=>by have h1:=H2.out.2.2.1;have:w1.heap.size<=q:=hop9.ge q hq;omega
      have HZ:=jd3 hrel9 hb9 ho9;clear hrel9 hb9 ho9 a2 hg7 hk7 hb7
      go_wp2_with fail
      exact⟨⟨j+1,pos+k,F+k*16,by go_num,by go_num,by rw[HFE.out];omega,by omega,hst9,hj,HP.out.2.2.1,HZ.out.1,HZ.out.2.1,HZ.out.2.2⟩,by simp[intOf];omega⟩
   ·obtain rfl:pos=stop:=by omega
    have hz:∀ s,pos<=s->s<a+c->f s=zer 16:=fun s h1 h2=>by
     rw[HF.out.1];unfold secIn;rw[if_neg (by have:=HK.out;have:=H2.out.2.2.2.2.2;omega)]
    have hj:¬ j<N:=by
     intro h;have h1:=congrArg List.length hdr;rw[pcs_end nlr,List.length_drop] at h1;simp at h1;omega
    have hj2:j=N:=by omega
    rw[lay_end hp1 hst1 hz] at hblk;have hB:=OwnB.ofFull (base:=w.heap.size) (n:=c*16) hblk (by rw[secs_len HF.out.2.1];omega) nlr (by unfold maxLen;omega);have hF9:FullB wr w.heap.size (.slice (some ⟨w.heap.size,0,none⟩) (c*16) (c*16)) (secs f a c):=⟨hB,_,by rw[secs_len HF.out.2.1,Nat.mul_comm]⟩
    have HX:=jd2 hF9 hbl;clear hB hbl hblk hop hdr hz hlen hNl hF9
    go_wp2_with fail
    go_ret
    exact⟨_,rfl,HX.out.1,HX.out.2⟩
theorem und_all:∀ d,UndP d
 | 0=>und_any 0 fun _ h=>by omega
 | d+1=>und_any (d+1) fun d' h=>by
  obtain rfl:d'=d:=by omega
  exact sho_any d' (und_all d')
theorem sho_all (d:Nat):ShoP d:=sho_any d (und_all d)
end Go.Proofs.YtgkabcaodnofnaaGreat
namespace Go.Md
def putI (i:IM)(k:Nat)(x:Bs):IM:={i with own:=fun j=>if j=k then some x else i.own j,maps:=touch i.maps ((k:Int),(k:Int)+1)}
def wrI (S:IL)(d:Nat):List (Nat×Nat)->Bs->IM->IM
 | [],_,i=>i
 | p :: r,b,i=>wrI S d r (b.drop (p.2*16)) (putI i (p.1/2^i.cl) (splice (secs (secIn S d i i.size i.own) (p.1/2^i.cl*2^i.cl) (2^i.cl)) (p.1%2^i.cl*16) (b.take (p.2*16))))
def writeI (S:IL)(d:Nat)(i:IM)(a:Nat)(b:Bs):IM:=wrI S d (Go.Proofs.YtgkabcaodnofnaaGreat.pcs (2^i.cl) a (a+b.length/16)) b i
def setI (S:IL)(n:Bs)(i:IM):IL:=if (fnd S n).isSome then S.map (fun p=>if p.1=n then(n,i) else p) else S++[(n,i)]
def delI (S:IL)(n:Bs):IL:=S.filter fun p => !decide (p.1=n)
theorem fnd_cons (p:Bs×IM)(S:IL)(n:Bs):fnd (p :: S) n=if p.1=n then some p.2 else fnd S n:=by
 unfold fnd;rw[List.find?_cons];by_cases h:p.1=n
 ·simp[h]
 ·rw[if_neg h,show decide (p.1=n)=false by simpa using h]
theorem fnd_nil (n:Bs):fnd [] n=none:=rfl
theorem fnd_append (S T:IL)(n:Bs):fnd (S++T) n=(fnd S n).or (fnd T n):=by
 induction S with
 | nil=>rw[fnd_nil,List.nil_append];rfl
 | cons p l ih=>rw[List.cons_append,fnd_cons,fnd_cons,ih];split<;>rfl
theorem fnd_map (S:IL)(n t:Bs)(i:IM):fnd (S.map (fun p=>if p.1=n then(n,i) else p)) t=if t=n then(fnd S n).map (fun _=>i) else fnd S t:=by
 induction S with
 | nil=>simp[fnd_nil]
 | cons p l ih =>
  rw[List.map_cons,fnd_cons,fnd_cons,fnd_cons,ih];by_cases h:p.1=n
  ·subst h;by_cases h2:t=p.1
   ·subst h2;simp
   ·simp[h2,Ne.symm h2]
  ·by_cases h2:t=n
   ·subst h2;simp[h]
   ·simp[h,h2]
theorem fnd_setI (S:IL)(n t:Bs)(i:IM):fnd (setI S n i) t=if t=n then some i else fnd S t:=by
 unfold setI;cases h:fnd S n with
 | none =>
  simp only[Option.isSome_none,Bool.false_eq_true,if_false];rw[fnd_append,fnd_cons,fnd_nil];by_cases h2:t=n
  ·subst h2;rw[h];simp
  ·rw[if_neg h2,if_neg (Ne.symm h2)];simp
 | some c =>
  simp only[Option.isSome_some,if_true];rw[fnd_map,h];rfl
theorem fnd_delI (S:IL)(n t:Bs):fnd (delI S n) t=if t=n then none else fnd S t:=by
 unfold delI
 induction S with
 | nil=>simp[fnd_nil]
 | cons p l ih =>
  rw[List.filter_cons,fnd_cons];by_cases h:p.1=n
  ·subst h;simp only[decide_true,Bool.not_true,Bool.false_eq_true,if_false];rw[ih];by_cases h2:t=p.1
   ·simp[h2]
   ·simp[h2,Ne.symm h2]
  ·rw[if_pos (by simp[h]),fnd_cons,ih];by_cases h2:t=n
   ·subst h2;simp[h]
   ·simp[h2]
theorem setI_names (S:IL)(n:Bs)(i:IM):(setI S n i).map (·.1)=if (fnd S n).isSome then S.map (·.1) else S.map (·.1)++[n]:=by
 unfold setI;split
 ·rw[List.map_map];apply List.map_congr_left;intro p _;simp only[Function.comp];split
  ·rename_i h;exact h.symm
  ·rfl
 ·simp
theorem delI_names (S:IL)(n:Bs):(delI S n).map (·.1)=(S.map (·.1)).filter fun t => !decide (t=n):=by
 unfold delI;induction S with
 | nil=>rfl
 | cons p l ih=>simp only[List.filter_cons,List.map_cons];split<;>simp[ih]
theorem secOf_away {S S':IL}{n:Bs}(h:∀ m,m≠n->fnd S' m=fnd S m):∀ (e:Nat) (m:Bs),dep S e m->¬ dep S e n->∀ s,secOf S' e m s=secOf S e m s
 | 0,m,_,_,s=>rfl
 | e+1,m,hm,hn,s=>by
  have hne:m≠n:=fun e=>hn (e▸hm);simp only[secOf,h m hne];cases hf:fnd S m with
  | none=>rfl
  | some i =>
   have hd:dep S e i.back:=by unfold dep at hm;rw[hf] at hm;exact hm
   simp only;rw[secOf_away h e i.back hd (fun h1=>hn (dep_succ h1)) s]
theorem dep_away {S S':IL}{n:Bs}(h:∀ m,m≠n->fnd S' m=fnd S m):∀ (e:Nat) (m:Bs),dep S e m->¬ dep S e n->dep S' e m
 | 0,m,hm,hn=>by
  have hne:m≠n:=fun e=>hn (e▸hm);show fnd S' m=none;rw[h m hne];exact hm
 | e+1,m,hm,hn=>by
  have hne:m≠n:=fun e=>hn (e▸hm);unfold dep at hm ⊢;rw[h m hne];cases hf:fnd S m with
  | none=>trivial
  | some i =>
   rw[hf] at hm;exact dep_away h e i.back hm fun h1=>hn (dep_succ h1)
theorem dep_min {S:IL}{n:Bs}{i:IM}(hf:fnd S n=some i):∀ {d:Nat},dep S d n->∃ e,e<d/\dep S e i.back/\¬ dep S e n
 | 0,h=>by have h:fnd S n=none:=h;rw[hf] at h;cases h
 | d+1,h=>by
  have hd:dep S d i.back:=by unfold dep at h;rw[hf] at h;exact h
  by_cases h1:dep S d n
  ·obtain⟨e,h2,h3⟩:=dep_min hf h1;exact⟨e,by omega,h3⟩
  ·exact⟨d,by omega,hd,h1⟩
theorem secOf_back {S S':IL}{n:Bs}{i:IM}(h:∀ m,m≠n->fnd S' m=fnd S m)(hf:fnd S n=some i){d:Nat}(hd:dep S d n):∀ s,secOf S' d i.back s=secOf S d i.back s:=by
 intro s;obtain⟨e,h1,h2,h3⟩:=dep_min hf hd;have h4:=dep_away h e _ h2 h3;rw[secOf_deep h2 d (by omega),secOf_deep h4 d (by omega)];exact secOf_away h e _ h2 h3 s
theorem dep_same {S S':IL}(h:∀ m,(fnd S' m).map (·.back)=(fnd S m).map (·.back)):∀ (d:Nat) (m:Bs),dep S d m->dep S' d m
 | 0,m,hm=>by
  have:=h m;have hm:fnd S m=none:=hm;rw[hm] at this;show fnd S' m=none;simpa using this
 | d+1,m,hm=>by
  have h1:=h m;unfold dep at hm ⊢;cases hf:fnd S m with
  | none=>rw[hf] at h1;rw[show fnd S' m=none by simpa using h1];trivial
  | some i =>
   rw[hf] at h1 hm;simp only[Option.map_some,Option.map_eq_some_iff] at h1;obtain⟨j,hj,hb⟩:=h1;rw[hj];show dep S' d j.back;rw[hb];exact dep_same h d i.back hm
theorem secIn_congr {S S':IL}{d:Nat}{i i':IM}(hc:i'.cl=i.cl)(hb:∀ s,secOf S' d i'.back s=secOf S d i.back s)(size:Nat)(own:Nat->Option Bs):secIn S' d i' size own=secIn S d i size own:=by
 funext s;unfold secIn;rw[hc,hb]
theorem int_count:∀ (n:Nat)(l:List Int),l.Nodup->(∀ x∈l,0<=x/\x<n)->l.length<=n
 | 0,l,_,h=>by
  cases l with
  | nil=>simp
  | cons a r=>have:=h a (by simp);omega
 | n+1,l,hn,h=>by
  have h1:=int_count n (l.erase (n:Int)) (hn.erase _) fun x hx=>by
   have hx2:=(hn.mem_erase_iff).1 hx;have:=h x hx2.2;have:x≠n:=hx2.1;omega
  by_cases hm:(n:Int)∈l
  ·rw[List.length_erase_of_mem hm] at h1;omega
  ·rw[List.erase_of_not_mem hm] at h1;omega
end Go.Md
namespace Go.Proofs.YtgkabcaodnofnaaGreat
open Go.RowKit Go.Mx Go.Md
def SlN (w:World)(N:Nat->Prop)(v:Value)(bs:Bs):Prop :=
 ∃ oa cap,v = .slice oa bs.length cap/\bs.length<=cap/\cap<=maxLen/\(bs≠[]->∃ bb bo,oa=some ⟨bb,bo,none⟩/\bb<w.heap.size/\N bb/\RdB w bb bo bs)
theorem SlN.slB {w:World}{N:Nat->Prop}{v:Value}{bs:Bs}(h:SlN w N v bs):SlB w w.heap.size v bs:=by
 obtain⟨oa,cap,h1,h2,h3,h4⟩:=h;exact⟨oa,cap,h1,h2,h3,fun hn=>by obtain⟨bb,bo,e,hl,_,hr⟩:=h4 hn;exact⟨bb,bo,e,hl,hr⟩⟩
theorem SlN.kept {w w':World}{N:Nat->Prop}{v:Value}{bs:Bs}(h:SlN w N v bs)(hk:Kept w w' N):SlN w' N v bs:=by
 obtain⟨oa,cap,h1,h2,h3,h4⟩:=h;exact⟨oa,cap,h1,h2,h3,fun hn=>by
  obtain⟨bb,bo,e,hl,hN,hr⟩:=h4 hn;exact⟨bb,bo,e,Nat.lt_of_lt_of_le hl hk.size,hN,fun i hi=>(hk.cell hl hN).trans (hr i hi)⟩⟩
theorem SlN.imp {w:World}{N N':Nat->Prop}{v:Value}{bs:Bs}(h:SlN w N v bs)(hi:∀ b,b<w.heap.size->N b->N' b):SlN w N' v bs:=by
 obtain⟨oa,cap,h1,h2,h3,h4⟩:=h;exact⟨oa,cap,h1,h2,h3,fun hn=>by
  obtain⟨bb,bo,e,hl,hN,hr⟩:=h4 hn;exact⟨bb,bo,e,hl,hi bb hl hN,hr⟩⟩
theorem SlN.of {w:World}{B:Nat}{N:Nat->Prop}{v:Value}{bs:Bs}(h:SlB w B v bs)(hB:B<=w.heap.size)(hN:∀ b,b<B->N b):SlN w N v bs:=by
 obtain⟨oa,cap,h1,h2,h3,h4⟩:=h;exact⟨oa,cap,h1,h2,h3,fun hn=>by obtain⟨bb,bo,e,hl,hr⟩:=h4 hn;exact⟨bb,bo,e,by omega,hN bb hl,hr⟩⟩
theorem SlN.own {w:World}{base:Nat}{N:Nat->Prop}{v:Value}{bs:Bs}(h:OwnB w base 5 v bs)(hN:∀ b c f,base<=b->w.heap[b]? = some (.cells c 5 f)->N b):SlN w N v bs:=by
 have ht:=ownB_type h;rcases h.shape with⟨rfl,rfl⟩|⟨g,cap,rfl,h1,h2,h3,h4,h5⟩
 ·exact⟨none,0,rfl,by simp,by simp[maxLen],fun h=>absurd rfl h⟩
 ·refine⟨_,cap,rfl,h3,h4,fun _=>⟨g,0,rfl,h2,?_,h5⟩⟩;obtain⟨c,f,h9⟩:=ht g rfl;exact hN g c f h1 h9
theorem enc_own {w:World}{base:Nat}{v:Value}{bs:Bs}(h:OwnB w base 5 v bs):∃ d,enc v=some d:=by
 rcases h.shape with⟨rfl,_⟩|⟨g,cap,rfl,_⟩<;>exact⟨_,rfl⟩
theorem _root_.Go.Mx.Kept.imp {w w':World}{N N':Nat->Prop}(h:Kept w w' N)(hi:∀ k,N' k->N k):Kept w w' N':=⟨h.size,fun k hk hn=>h.block k hk (hi k hn),h.st⟩
variable {w w':World}{base ib m k:Nat}{i:IM}{x:IX}{own:Nat->Option Bs}{l:ML Int}
theorem OM.upd (h:OM w base m own l)(hk:k<=1000000)(hl:l.length<maxLen){v:Value}{bs:Bs}(hv:OwnB w base 5 v bs) :
  ∃ w',(Instr.mapUpdate 84 (.map (some m)) (.int .i64 k) v).run prog w = .ok () w'/\OM w' base m (fun j=>if j=k then some bs else own j) (Mx.upd l (k:Int) v)/\Kept w w' (·≠m)/\w'.heap.size=w.heap.size/\(∀ a,w'.frozen? a=w.frozen? a)/\w.grownBy w' (some m):=by
 obtain⟨d,hd⟩:=enc_own hv;have hok:EI.ok (k:Int):=by
  show(Lit.int .i64 (k:Int)).wf=true;simp[Lit.wf,IntKind.min,IntKind.max,IntKind.signed,IntKind.bits];omega
 obtain⟨w',h1,h2,h3,h4,h5⟩:=h.g.upd K3 underlying84 (k:Int) hok v hd hl;have hkp:Kept w w' (·≠m):=Kept.grown h3 fun b hb=>by cases hb;simp
 obtain⟨es,c,hm⟩:=h.g.isMap;refine⟨w',h1,⟨h2,fun p hp=>?_,fun k' bs' hk'=>?_⟩,hkp,h4,h5,h3⟩
 ·rcases mem_upd hp with rfl|⟨hp1,hp2⟩
  ·refine⟨k,bs,rfl,by simp,hv.kept hkp fun b hb=>?_⟩;rintro rfl;obtain⟨cc,f,h9⟩:=ownB_type hv _ hb;rw[hm] at h9;cases h9
  ·obtain⟨k1,b1,e1,e2,e3⟩:=h.f p hp1;refine⟨k1,b1,e1,?_,e3.kept hkp fun b hb=>?_⟩
   ·rw[if_neg (fun e=>hp2 (by rw[e1,e])),e2]
   ·rintro rfl;obtain⟨cc,f,h9⟩:=ownB_type e3 _ hb;rw[hm] at h9;cases h9
 ·by_cases e:k'=k
  ·subst e;rw[if_pos rfl] at hk';exact⟨v,by
    have:Mx.look (Mx.upd l (k':Int) v) (k':Int)=some v:=by rw[look_upd];simp
    exact look_mem this⟩
  ·rw[if_neg e] at hk';obtain⟨v',hv'⟩:=h.b k' bs' hk';refine⟨v',?_⟩;have h9:Mx.look l (k':Int)=some v':=look_of_mem h.g.nodup hv';have:Mx.look (Mx.upd l (k:Int) v) (k':Int)=some v':=by rw[look_upd,if_neg (by omega)];exact h9
   exact look_mem this
theorem OM.len {nc cl:Nat}(h:OM w base m own l)(ho:OwnOk cl nc own):l.length<=nc:=by
 have:=int_count nc (l.map (·.1)) h.g.nodup fun z hz=>by
  obtain⟨p,hp,rfl⟩:=List.mem_map.1 hz;obtain⟨k,bs,e1,e2,_⟩:=h.f p hp;have:=(ho k bs e2).1;omega
 simpa using this
theorem putI_ok {i:IM}(h:IOk i){k:Nat}{bs:Bs}(hk:k<i.size/2^i.cl)(hb:bs.length=16*2^i.cl):IOk (putI i k bs) where
 cl:=h.cl
 size:=h.size
 whole:=h.whole
 own:=fun j b hj=>by
  simp only[putI] at hj;split at hj
  ·rename_i e;subst e;cases hj;exact⟨hk,hb⟩
  ·exact h.own j b hj
 shots:=h.shots
 ns:=h.ns
 nb:=h.nb
theorem put_any (h:II w base ib i x)(hbase:base<=w.heap.size)(hsm:x.om∉x.ss.map (·.m))(hk:k<=1000000)(hl:x.ol.length<=1000000){v:Value}{bs:Bs}(hv:OwnB w base 5 v bs) :
  Calls prog 102 #[pt ib,.int .i64 k,v] w fun e w'=>e = .returned (.tuple #[])/\∃ x',II w' base ib (putI i k bs) x'/\x'.om=x.om/\x'.ss=x.ss/\x'.sv=x.sv/\Kept w w' (fun b=>b≠ib/\b≠x.om):=by
 obtain⟨c0,c1,c2,c3,c4,c5,cf⟩:=h.cells;obtain⟨va,vn,vc,rfl⟩:=ownB_sh hv;obtain⟨es,mc,hmap⟩:=h.own.g.isMap;have hne:ib≠x.om:=by
  intro e;have:=h.ck;rw[e,hmap] at this;cases this
 obtain⟨w1,hrun,hom,hk1,hs1,hfz,hgr⟩:=h.own.upd hk (by unfold maxLen;omega) hv;have c5':w1.cell? ⟨ib,5,none⟩=some x.mv:=(hk1.cell (blk_lt h.ck) hne).trans c5;have hN1:NI w (fun b=>b≠x.om):=fun b c t f hb _ e=>by rw[e,hmap] at hb;cases hb
 have hm1:BMS w1 base x.mv i.maps x.ps:=h.maps.kept hk1 fun b c t f hb ht=>hN1 b c t f hb (by rcases ht with rfl|rfl<;>simp)
 have hb1:base<=w1.heap.size:=by omega
 have hck1:w1.heap[ib]? = some (.cells #[.int .i64 i.cl,.int .i64 i.size,str i.back,.map (some x.om),x.sv,x.mv] 87 (0,0)):=(hk1.block ib (blk_lt h.ck) hne).trans h.ck;have hkk:IntKind.i64.wrap ((k:Int)+1)=(k:Int)+1:=by rw[IntWalk.i64_in _ (by omega)]
 have cf1:∀ j,w1.frozen? ⟨ib,j,none⟩=false:=fun j=>by simp[World.frozen?,hck1]
 have H:=jd6 h hom hk1 hm1 hck1 hsm;obtain⟨ma,mn,mc',hmv⟩:=ownG_sh hm1.o;rw[hmv] at c5 c5' hm1;have HT:=hid (fun w2 (hB:Below w1.heap.size w1 w2)=>touch_any (hm1.below hB) (Nat.le_trans hb1 hB.size) ((k:Int),(k:Int)+1));clear h hom hk1 hm1 hck1 hv hmap hgr hN1;go_enter func102,ntmps102
 go_wp2_with fail
 refine(HT.out w1 brf).mono ?_;rintro e w5 ⟨v5,ps5,rfl,hB5,hnew,hb5⟩;obtain⟨ya,yn,yc,rfl⟩:=ownG_sh hB5.o;have hck5:=(hb5.block ib (blk_lt H.out.2.2.2.2.1)).trans H.out.2.2.2.2.1;have cf5:∀ j,w5.frozen? ⟨ib,j,none⟩=false:=fun j=>by simp[World.frozen?,hck5]
 have d5:w5.cell? ⟨ib,5,none⟩=some (.slice ma mn mc'):=(World.cell?_of_block (hb5.block ib (blk_lt H.out.2.2.2.2.1))).trans c5';have H5:=jd4 hB5 hnew hb5 hck5;clear hB5 hnew hb5 hck5 c0 c1 c2 c3 c4 c5 cf
 go_wp2_with fail
 go_end0
 obtain⟨h,hom,hk1,_,_,hsm⟩:=H.out;obtain⟨hB5,hnew,hb5,hck5⟩:=H5.out;have hlt:ib<w5.heap.size:=blk_lt hck5;have hk5:Kept w1 w5 (fun _=>True):=Kept.of_below hb5 fun k hk _=>hk;have hk6:Kept w5 (w5.setCell ⟨ib,5,none⟩ (.slice ya yn yc)) (·≠ib):=Kept.set _ _ _ _ (by simp);have hkk6:Kept w (w5.setCell ⟨ib,5,none⟩ (.slice ya yn yc)) (fun b=>b≠ib/\b≠x.om) :=
  ((hk1.imp fun b hb=>hb.2).trans (hk5.imp fun _ _=>trivial)).trans (hk6.imp fun b hb=>hb.1)
 have hT:∀ {W:World} (b:Nat) (c:Array Value) (t:TypeId) (f:Nat×Nat),W.heap[ib]? = some (.cells #[.int .i64 i.cl,.int .i64 i.size,str i.back,.map (some x.om),x.sv,x.mv] 87 (0,0))->W.heap[b]? = some (.cells c t f)->t≠87->b≠ib:=fun b c t f h1 h2 h3 e=>by rw[e,h1] at h2;cases h2;exact h3 rfl
 have hom5:OM w5 base x.om (fun j=>if j=k then some bs else i.own j) (Mx.upd x.ol (k:Int) (.slice va vn vc)):=hom.below hb5;have hmb:∀ b,b<w.heap.size->(∃ c t f,w.heap[b]? = some (.cells c t f))->b≠x.om:=fun b _ ⟨c,t,f,hb⟩ e=>by
  obtain⟨es',mc',hmap'⟩:=h.own.g.isMap;rw[e,hmap'] at hb;cases hb
 refine⟨rfl,{x with ol:=_,mv:=.slice ya yn yc,ps:=ps5},⟨?_,hom5.kept hk6 (Ne.symm hne) fun b c f hb=>hT b c 5 f hck5 hb (by decide),h.se,?_,?_,hB5.kept hk6 fun b c t f hb ht=>hT b c t f hck5 hb (by rcases ht with rfl|rfl<;>decide)⟩,rfl,rfl,rfl,hkk6⟩
 ·rw[heap_setCell_at' w5 ib 5 _ _ 87 _ hck5];rfl
 ·refine h.so.kept hkk6 fun q hq=>?_;obtain⟨c,f,h9⟩:=ownG_type h.so q hq;exact⟨hT q c 90 f h.ck h9 (by decide),hmb q (blk_lt h9) ⟨_,_,_,h9⟩⟩
 ·intro s hs;refine(h.sm s hs).kept hkk6 ⟨?_,?_⟩ fun b c f hb=>⟨hT b c 5 f h.ck hb (by decide),hmb b (blk_lt hb) ⟨_,_,_,hb⟩⟩
  ·intro e;obtain⟨es',mc',hmap'⟩:=(h.sm s hs).g.isMap;have:=h.ck;rw[<-e,hmap'] at this;cases this
  ·intro e;exact hsm (List.mem_map.2 ⟨s,hs,e⟩)
end Go.Proofs.YtgkabcaodnofnaaGreat
