import Derived.Test.YtgkabcaodnofnaaGreatB35
import Derived.Test.YtgkabcaodnofnaaGreatB06
import Derived.RangeFuncLeaves
import Derived.Test.YtgkabcaodnofnaaGreatB20
import Derived.Test.YtgkabcaodnofnaaGreatB30
import Derived.Test.YtgkabcaodnofnaaGreatB32
set_option linter.unusedSimpArgs false
set_option linter.unusedVariables false
set_option maxRecDepth 100000
set_option maxHeartbeats 4000000
open Go.Proofs.Tryz
namespace Go.Str
open Go.Crc
theorem pbind_inv {α β:Type}{p:Par α}{f:α->Par β}{l:List UInt8}{y:β}{r:List UInt8}(h:pbind p f l=some (y,r)):∃ x r',p l=some (x,r')/\f x r'=some (y,r):=by
 unfold pbind at h;split at h
 ·cases h
 ·rename_i x r' hp;exact⟨x,r',hp,h⟩
theorem pNum_lt {n x:Nat}{l r:List UInt8}(h:pNum n l=some (x,r)):x<256^n:=by
 unfold pNum at h;split at h
 ·rename_i hl;cases h
  have:=deL_lt (l.take n);rwa[List.length_take,Nat.min_eq_left hl] at this
 ·cases h
theorem pRec_small {l r:List UInt8}{x:Rec×Nat}(h:pRec l=some (x,r)):x.2<4294967296:=by
 obtain⟨_,_,_,h⟩:=pbind_inv h;obtain⟨_,_,_,h⟩:=pbind_inv h;obtain⟨_,_,_,h⟩:=pbind_inv h;obtain⟨c,_,hc,h⟩:=pbind_inv h;unfold pret at h;cases h
 exact pNum_lt hc
theorem pRecs_small:∀ (n:Nat){l r:List UInt8}{xs:List (Rec×Nat)},pRecs n l=some (xs,r)->∀ x∈xs,x.2<4294967296
 | 0,_,_,_,h,x,hx=>by unfold pRecs pret at h;cases h;cases hx
 | n+1,_,_,_,h,x,hx=>by
  unfold pRecs at h;obtain⟨y,_,hy,h⟩:=pbind_inv h;obtain⟨ys,_,hys,h⟩:=pbind_inv h;unfold pret at h;cases h
  rcases List.mem_cons.1 hx with rfl|hx
  ·exact pRec_small hy
  ·exact pRecs_small n hys x hx
theorem form_inv {b:List UInt8}{x:Raw}(h:formB b=some x):pAll b=some (x,[])/\right x.strm=true:=by
 unfold formB at h;split at h
 ·rename_i z hz;split at h
  ·rename_i hc;cases h;exact⟨hz,hc.2.1⟩
  ·cases h
 ·cases h
theorem form_small {b:List UInt8}{x:Raw}(h:formB b=some x):(∀ r∈x.recs,r.2<4294967296)/\x.last<4294967296/\4<=b.length:=by
 have hp:=(form_inv h).1;have h4:=(pAll_last b x hp).1;unfold pAll at hp;obtain⟨_,_,_,hp⟩:=pbind_inv hp;obtain⟨_,_,_,hp⟩:=pbind_inv hp;obtain⟨_,_,_,hp⟩:=pbind_inv hp;obtain⟨n,_,_,hp⟩:=pbind_inv hp;obtain⟨l,_,hl,hp⟩:=pbind_inv hp;obtain⟨c,_,hc,hp⟩:=pbind_inv hp;unfold pret at hp;cases hp
 exact⟨pRecs_small n hl,pNum_lt hc,h4⟩
theorem form_length {b:List UInt8}{x:Raw}(h:formB b=some x):x.recs.length<=4096:=by
 have:=(right_mem (form_inv h).2).2.2.1;unfold Raw.strm at this;simpa using this
theorem form_data {b:List UInt8}{x:Raw}(h:formB b=some x)(i:Nat)(hi:i<x.recs.length):(x.strm.recs.getD i default).data.length<=65536+15:=by
 have hm:=right_mem (form_inv h).2;have hmem:x.strm.recs.getD i default∈x.strm.recs:=by
  have hi':i<x.strm.recs.length:=by unfold Raw.strm;simpa using hi
  rw[List.getD_eq_getElem?_getD,List.getElem?_eq_getElem hi'];exact List.getElem_mem _
 have:=hm.2.2.2.2 _ hmem;unfold Rec.n at this;omega
end Go.Str
namespace Go.Proofs.YtgkabcaodnofnaaGreat.Sb
open Go.RowKit Go.Mx Go.Crc Go.Str
def GP (b:List UInt8)(w:World)(e:Ending)(w':World):Prop :=
 Below w.heap.size w w'/\(((getB b).2≠0/\e = .returned (.tuple #[.agg #[.bool false,.int .i64 0,.slice none 0 0],.int .i64 ((getB b).2:Nat)]))\/
  ∃ rv ps,(getB b).2=0/\right (getB b).1=true/\ps.map (·.1)=(getB b).1.recs/\e = .returned (.tuple #[strmV (getB b).1 rv,.int .i64 0])/\
   w'.ownsRow w.heap.size 98 2 rv ps.length (flatP ps)/\(∀ y∈ps,OwnB w' w.heap.size 5 y.2 y.1.data))
theorem row_base {w:World}{base base' s n:Nat}{e:TypeId}{v:Value}{xs:List Value}(h:w.ownsRow base e s v n xs)(hb:base'<=base):w.ownsRow base' e s v n xs:=by
 refine⟨h.1,?_⟩;rcases h.2 with hn|⟨g,cap,cur,rfl,hbg,rest⟩
 ·exact .inl hn
 ·exact .inr ⟨g,cap,cur,rfl,by omega,rest⟩
theorem sget_any (b:List UInt8)(bv:Value)(w:World)(hb:SlB w w.heap.size bv b)(hl:b.length<=1000000) :
  Calls prog 100 #[bv] w (GP b w):=by
 have hlb:=fun w'=>hb.len (P:=prog) (ty:=3) underlying23 w';obtain⟨w1,hw1⟩:∃ w1,w1=w.alloc (.cells #[.bool false,.int .i64 0,.slice none 0 0] 54):=⟨_,rfl⟩
 have hb1:Below w.heap.size w w1:=by rw[hw1];exact brf.alloc nlr _
 have hr1:w1.heap[w.heap.size]? = some (.cells #[.bool false,.int .i64 0,.slice none 0 0] 54 (0,0)):=by rw[hw1];exact alloc_new w _
 have hsb:=(hb.below hb1 nlr).mono hb1.size;have HC:=hid (read_any b bv w1 hsb hl);have H1:=jd3 hb1 hr1 hsb;have H1B:=hid hb1.size;clear hb hb1 hr1 hsb;go_enter func100,ntmps100
 go_wp2_with fail
 rw[<-hw1];clear hw1;refine HC.out.mono ?_;rintro e w2 ⟨hb2,⟨hf,f,z,sa,sn,sc,zv,rfl⟩|⟨x,rv,zv,ps,hf,hps,he,ho,hd,hz⟩⟩
 ·have hg:getB b=(⟨false,0,[]⟩,3):=by unfold getB;rw[hf]
  have HG:=hid hg;have hr2:=(hb2.block _ (blk_lt H1.out.2.1)).trans H1.out.2.1;obtain⟨d0,d1,d2,g0,g1,g2⟩:=res_cells hr2;have hlt:=blk_lt hr2;have HB:=hid (H1.out.1.trans (hb2.mono H1.out.1.size));clear HC H1 hb2 hf hg hr2
  go_wp2_with fail
  rw[setCell_self d0,setCell_self d1,setCell_self d2];have k:=(Below.refl w2.heap.size w2).alloc nlr (.cells #[.bool f,.int .i64 z,.slice sa sn sc] 54);have u0:=(k.cell (p:=⟨w.heap.size,0,none⟩) hlt).trans d0;have u1:=(k.cell (p:=⟨w.heap.size,1,none⟩) hlt).trans d1;have u2:=(k.cell (p:=⟨w.heap.size,2,none⟩) hlt).trans d2;exact bodyPost_ret (v:=.tuple #[.agg #[.bool false,.int .i64 0,.slice none 0 0],.int .i64 3]) (by simp[results,results100,go_sem,u0,u1,u2]) rfl ⟨HB.out.trans (k.mono HB.out.size),.inl ⟨by rw[HG.out];simp,by rw[HG.out];rfl⟩⟩
 ·obtain⟨hs1,hs2,hs4⟩:=form_small hf;have hln:=form_length hf;have HDL:=hid (form_data hf);have HG:=hid (show getB b=if x.sums=true/\(Crc.sum (b.take (b.length-4))).toNat=x.last then(x.strm,0) else(⟨false,0,[]⟩,13) by unfold getB;rw[hf]);have HRT:=hid (form_inv hf).2;have hr2:=(hb2.block _ (blk_lt H1.out.2.1)).trans H1.out.2.1;obtain⟨ra,rn,rc,rfl⟩:=row_slice ho;have hrl:x.strm.recs.length=x.recs.length:=by unfold Raw.strm;simp
  have hrg:∀ i,i<x.recs.length->x.strm.recs.getD i default=(x.recs.getD i (default,0)).1:=by
   intro i hi;unfold Raw.strm;simp[List.getD_eq_getElem?_getD,List.getElem?_eq_getElem hi]
  have hslr:=OwnPs.slR ho hd;rw[hps] at hslr;obtain⟨S,hS⟩:∃ S,S=x.strm:=⟨_,rfl⟩
  rw[<-hS] at hslr hrl hrg HDL HG HRT hps he;obtain⟨f,z,l⟩:=S;simp only at hslr hrl hrg HDL hps;unfold strmV at he;simp only at he;subst he;have HX:=jd3 hS hf hps;have HO:=jd2 ho hd;have HB2:=jd5 hb2 hr2 hslr hz.slI (H1.out.1.trans (hb2.mono H1.out.1.size));have HSM:=jd3 hs1 hrl hrg;have hsb2:=(H1.out.2.2.below hb2 nlr).mono hb2.size;have HSB:=hid hsb2;clear HC H1 hb2 hf hps hr2 hslr hz hrl hrg hs1 hsb2 ho hd;obtain rfl:rn=l.length:=by obtain⟨rows,h1,⟨_,_,he,_⟩,_⟩:=HB2.out.2.2.1;cases he;exact h1
  clear hS;obtain⟨w3,hw3⟩:∃ w3,w3=w2.alloc (.cells #[.bool f,.int .i64 z,.slice ra l.length rc] 54):=⟨_,rfl⟩
  have hb3:Below w2.heap.size w2 w3:=by rw[hw3];exact brf.alloc nlr _
  have hq3:w3.heap[w2.heap.size]? = some (.cells #[.bool f,.int .i64 z,.slice ra l.length rc] 54 (0,0)):=by rw[hw3];exact alloc_new w2 _
  have H3:=jd2 hb3 hq3;clear hb3 hq3;have hl4:l.length<=4096:=by rw[HSM.out.2.1];exact hln
  go_wp2_with fail
  rw[<-hw3];clear hw3
  go_loopw [21] (fun i wr=>∃ k:Nat,k<=l.length/\i = .int .i64 k/\Below w3.heap.size w3 wr/\Hid (∀ j,j<k->(Crc.sum (l.getD j default).data).toNat=(x.recs.getD j (default,0)).2)) (fun i _=>l.length-(intOf i).toNat)
  case atStart=>exact⟨0,by omega,rfl,brf,fun j h=>absurd h (Nat.not_lt_zero _)⟩
  case round =>
   obtain⟨k,hk,rfl,hbr,HE⟩:=hrel;have hb2r:Below w2.heap.size w2 wr:=H3.out.1.trans (hbr.mono H3.out.1.size);by_cases hlt:k<l.length
   ·obtain⟨b1,o1,dv,hbb,hi1,c0,c1,hsd⟩:=(HB2.out.2.2.1.below hb2r nlr).at k hlt;obtain⟨b2,o2,hbb2,hi2,e0⟩:=(HB2.out.2.2.2.1.below hb2r nlr).addr (P:=prog) underlying146 (fun w=>by kernel_rfl) k (by rw[HSM.out.2.1] at hlt;simp;omega);have hk':k<x.recs.length:=by rw[<-HSM.out.2.1];exact hlt
    have hse:(x.recs.map (fun r=>(r.2:Int))++[(x.last:Int)]).getD k 0=((x.recs.getD k (default,0)).2:Int):=by
     simp[List.getD_eq_getElem?_getD,List.getElem?_append_left,hk']
    rw[hse] at e0;have hs32:(x.recs.getD k (default,0)).2<4294967296:=HSM.out.1 _ (by rw[List.getD_eq_getElem?_getD,List.getElem?_eq_getElem hk'];exact List.getElem_mem _);have hdl:=HDL.out k hk';obtain⟨s,hs⟩:∃ s,s=(x.recs.getD k (default,0)).2:=⟨_,rfl⟩
    obtain⟨r,hr⟩:∃ r,r=l.getD k default:=⟨_,rfl⟩
    rw[<-hs] at e0 hs32;rw[<-hr] at c0 hsd hdl;have HSR:=jd2 hs hr;clear hs hr hse;obtain⟨at_,dat⟩:=r;simp only at c0 hsd hdl;obtain⟨da,dn,dc,rfl⟩:∃ oa n c,dv = .slice oa n c:=by obtain⟨oa1,cp1,hv1,_⟩:=hsd;exact⟨_,_,_,hv1⟩
    obtain⟨y,hy⟩:∃ y,y=wr.alloc (.cells #[.int .i64 at_,.slice da dn dc] 98):=⟨_,rfl⟩
    have hby:Below wr.heap.size wr y:=by rw[hy];exact brf.alloc nlr _
    have hqy:y.heap[wr.heap.size]? = some (.cells #[.int .i64 at_,.slice da dn dc] 98 (0,0)):=by rw[hy];exact alloc_new wr _
    have hsdy:SlB y y.heap.size (.slice da dn dc) dat:=(hsd.below hby hb2r.size).mono (by have:=hb2r.size;have:=hby.size;omega);have F1:∀ w',Below y.heap.size y w'->w'.cell? ⟨wr.heap.size,1,none⟩=some (.slice da dn dc):=fun w' hb=>(hb.cell (p:=⟨wr.heap.size,1,none⟩) (blk_lt hqy)).trans (by simp[World.cell?,hqy]);have F2:∀ w',Below y.heap.size y w'->w'.cell? ⟨b2,o2,none⟩=some (.int .i64 s):=fun w' hb=>(hb.cell (p:=⟨b2,o2,none⟩) (by show b2<_;have:=hb2r.size;have:=hby.size;omega)).trans ((hby.cell (p:=⟨b2,o2,none⟩) (by show b2<_;have:=hb2r.size;omega)).trans e0);have hwr:IntKind.u32.wrap (s:Int)=s:=by rw[IntKind.wrap_u32'];omega
    have HY:=jd2 hsdy (hbr.trans (hby.mono hbr.size));clear hsd hsdy hby hqy e0;obtain⟨g,hg⟩:∃ g,g=Crc.sum dat:=⟨_,rfl⟩
    have HGG:=hid hg;clear hg;by_cases heq:g.toNat=s
    ·have ecmp:((g.toNat:Int) != (s:Int))=false:=by rw[bne_eq_false_iff_eq];omega
     have HEQ:=hid heq;clear heq
     go_wp2_with fail
     rw[<-hy];clear hy c0 c1 hi1
     go_wp2_with fail
     go_region_held (fun w'=>Below y.heap.size y w') (first|exact brf.drew|assumption|exact Below.drew (by assumption)) (first
      | (go_at_call 137;refine(sum_any dat _ _ ((HY.out.1.below (by assumption) nlr).mono (Below.size (by assumption))) (by omega)).mono ?_;rintro e y5 ⟨rfl,hb5⟩;have hb5':Below y.heap.size y y5:=Below.trans (by assumption) (hb5.mono (Below.size (by assumption)));rw[<-HGG.out]))
     have HB5:=hid (HY.out.2.trans (hb5'.mono HY.out.2.size));have HE':=hid (show ∀ j,j<k+1->(Crc.sum (l.getD j default).data).toNat=(x.recs.getD j (default,0)).2 from fun j hj=>by
      rcases Nat.lt_or_ge j k with h|h
      ·exact HE.out j h
      ·obtain rfl:j=k:=by omega
       rw[<-HSR.out.1,<-HSR.out.2,<-HGG.out];exact HEQ.out)
     clear hb5 hb5' HE F1 F2
     go_wp2_with fail
     go_roundw
     case rel=>exact⟨k+1,by omega,by go_num,HB5.out,HE'⟩
     case measure=>simp[intOf];omega
    ·have ecmp:((g.toNat:Int) != (s:Int))=true:=by rw[bne_iff_ne];omega
     have HEQ:=hid heq;clear heq
     go_wp2_with fail
     rw[<-hy];clear hy c0 c1 hi1
     go_wp2_with fail
     go_region_held (fun w'=>Below y.heap.size y w') (first|exact brf.drew|assumption|exact Below.drew (by assumption)) (first
      | (go_at_call 137;refine(sum_any dat _ _ ((HY.out.1.below (by assumption) nlr).mono (Below.size (by assumption))) (by omega)).mono ?_;rintro e y5 ⟨rfl,hb5⟩;have hb5':Below y.heap.size y y5:=Below.trans (by assumption) (hb5.mono (Below.size (by assumption)));rw[<-HGG.out]))
     have HB5:=hid (HY.out.2.trans (hb5'.mono HY.out.2.size));have hR5:=((H3.out.1.trans (HB5.out.mono H3.out.1.size)).block _ (blk_lt HB2.out.2.1)).trans HB2.out.2.1;obtain⟨r0,r1,r2,g0,g1,g2⟩:=res_cells hR5;clear hb5 hb5' F1 F2 hR5
     go_wp2_with fail
     rw[setCell_self r0,setCell_self r1,setCell_self r2];have hno:getB b=(⟨false,0,[]⟩,13):=by
      rw[HG.out,if_neg];intro hh;apply HEQ.out;have hall:=hh.1;unfold Raw.sums at hall;rw[List.all_eq_true] at hall;have:=hall (x.recs.getD k (default,0)) (by rw[List.getD_eq_getElem?_getD,List.getElem?_eq_getElem hk'];exact List.getElem_mem _);rw[decide_eq_true_eq,<-HSM.out.2.2 k hk',<-HSR.out.1,<-HSR.out.2,<-HGG.out] at this;exact this
     exact bodyPost_ret (v:=.tuple #[.agg #[.bool false,.int .i64 0,.slice none 0 0],.int .i64 13]) (by simp[results,results100,go_sem,r0,r1,r2]) rfl
      ⟨HB2.out.2.2.2.2.trans ((H3.out.1.trans (HB5.out.mono H3.out.1.size)).mono HB2.out.2.2.2.2.size),.inl ⟨by rw[hno];simp,by rw[hno];rfl⟩⟩
   ·obtain rfl:k=l.length:=by omega
    have hsums:x.sums=true:=by
     unfold Raw.sums;rw[List.all_eq_true];intro r hr;obtain⟨i,hi,rfl⟩:=List.getElem_of_mem hr;rw[decide_eq_true_eq];have h1:=HE.out i (by rw[HSM.out.2.1];exact hi);rw[HSM.out.2.2 i hi] at h1;simpa[List.getD_eq_getElem?_getD,List.getElem?_eq_getElem hi] using h1
    have HG2:Hid (getB b=if (Crc.sum (b.take (b.length-4))).toNat=x.last then(⟨f,z,l⟩,0) else(⟨false,0,[]⟩,13)):=by
     refine HG.out.trans ?_;by_cases hc:(Crc.sum (b.take (b.length-4))).toNat=x.last
     ·rw[if_pos ⟨hsums,hc⟩,if_pos hc]
     ·rw[if_neg (fun h=>hc h.2),if_neg hc]
    clear hsums HE HG;have hsbr:=HSB.out.below hb2r nlr;obtain⟨v',hv',hsl⟩:=hsbr.to (P:=prog) underlying23 size5 (b.length-4) (by omega);have hsl':∀ (w':World) (k:IntKind),(Instr.slice 23 bv none (some (.int k ((b.length:Int)-4))) none).run prog w' = .ok v' w':=by
     rw[show(b.length:Int)-4=((b.length-4:Nat):Int) by omega];exact hsl
    have hzlen:=fun w'=>(HB2.out.2.2.2.1.below hb2r nlr).len (P:=prog) (ty:=3) underlying146 w';rw[show(x.recs.map (fun r=>(r.2:Int))++[(x.last:Int)]).length=l.length+1 by simp[HSM.out.2.1]] at hzlen;have hzlen':∀ (w':World),(Builtin.len_ #[146] 3 #[zv]).run prog w' = .ok (.int .i64 ((l.length:Int)+1)) w':=by simpa using hzlen
    obtain⟨b2,o2,hbb2,hi2,e0⟩:=(HB2.out.2.2.2.1.below hb2r nlr).addr (P:=prog) underlying146 (fun w=>by kernel_rfl) l.length (by simp[HSM.out.2.1]);have hse:(x.recs.map (fun r=>(r.2:Int))++[(x.last:Int)]).getD l.length 0=(x.last:Int):=by
     rw[HSM.out.2.1,List.getD_eq_getElem?_getD,List.getElem?_append_right (by simp)];simp
    rw[hse] at e0;have hw1':IntKind.i64.wrap ((b.length:Int)-4)=(b.length:Int)-4:=IntWalk.i64_in _ (by omega);have hw2':IntKind.i64.wrap (l.length:Int)=l.length:=IntWalk.i64_in _ (by omega);have hw3':IntKind.u32.wrap (x.last:Int)=x.last:=by rw[IntKind.wrap_u32'];omega
    obtain⟨tk,htk⟩:∃ tk,tk=b.take (b.length-4):=⟨_,rfl⟩
    have htl:tk.length<=1000000:=by rw[htk];simp;omega
    rw[<-htk] at hv' HG2;have HV:=hid (hv'.mono hb2r.size);have F2:∀ w',Below wr.heap.size wr w'->w'.cell? ⟨b2,o2,none⟩=some (.int .i64 x.last):=fun w' hb=>(hb.cell (p:=⟨b2,o2,none⟩) (by show b2<_;have:=hb2r.size;omega)).trans e0;obtain⟨ls,hls⟩:∃ ls,ls=x.last:=⟨_,rfl⟩
    rw[<-hls] at F2 hw3' HG2;obtain⟨g,hg⟩:∃ g,g=Crc.sum tk:=⟨_,rfl⟩
    rw[<-hg] at HG2;have HGG:=hid hg;clear hg hls hse hsl hzlen hv' htk e0 hsbr;by_cases heq:g.toNat=ls
    ·have ecmp:((g.toNat:Int) != (ls:Int))=false:=by rw[bne_eq_false_iff_eq];omega
     have HEQ:=hid heq;clear heq
     go_wp2_with fail
     go_region_held (fun w'=>Below wr.heap.size wr w') (first|exact brf.drew|assumption|exact Below.drew (by assumption)) (first
      | (go_at_call 137;refine(sum_any tk _ _ ((HV.out.below (by assumption) nlr).mono (Below.size (by assumption))) (by omega)).mono ?_;rintro e y5 ⟨rfl,hb5⟩;have hb5':Below wr.heap.size wr y5:=Below.trans (by assumption) (hb5.mono (Below.size (by assumption)));rw[<-HGG.out]))
     have hb35:=hbr.trans (hb5'.mono hbr.size);have hb25:=H3.out.1.trans (hb35.mono H3.out.1.size);have hR5:=(hb25.block _ (blk_lt HB2.out.2.1)).trans HB2.out.2.1;have hq5:=(hb35.block _ (blk_lt H3.out.2)).trans H3.out.2;obtain⟨r0,r1,r2,g0,g1,g2⟩:=res_cells hR5;have s0:y5.cell? ⟨w2.heap.size,0,none⟩=some (.bool f):=by simp[World.cell?,hq5]
     have s1:y5.cell? ⟨w2.heap.size,1,none⟩=some (.int .i64 z):=by simp[World.cell?,hq5]
     have s2:y5.cell? ⟨w2.heap.size,2,none⟩=some (.slice ra l.length rc):=by simp[World.cell?,hq5]
     have k:Kept y5 (((y5.setCell ⟨w.heap.size,0,none⟩ (.bool f)).setCell ⟨w.heap.size,1,none⟩ (.int .i64 z)).setCell ⟨w.heap.size,2,none⟩ (.slice ra l.length rc)) (·≠w.heap.size) :=
      ((Kept.set y5 _ _ _ fun hn=>hn rfl).trans (.set _ _ _ _ fun hn=>hn rfl)).trans (.set _ _ _ _ fun hn=>hn rfl)
     have t0:=heap_set1 _ w.heap.size 2 (.slice ra l.length rc) _ _ _ (heap_set1 _ w.heap.size 1 (.int .i64 z) _ _ _ (heap_set1 y5 w.heap.size 0 (.bool f) _ _ _ hR5));have tb:=(((HB2.out.2.2.2.2.trans (hb25.mono HB2.out.2.2.2.2.size)).setCell (p:=⟨w.heap.size,0,none⟩) nlr (.bool f)).setCell (p:=⟨w.heap.size,1,none⟩) nlr (.int .i64 z)).setCell (p:=⟨w.heap.size,2,none⟩) nlr (.slice ra l.length rc);have kb:Kept w2 y5 (fun _=>True):=Kept.of_below hb25 fun j hj _=>hj;have o5:=ownsRow_kept HO.out.1 kb (fun _ _=>trivial);have d5:=fun y' hy'=>(HO.out.2 y' hy').kept kb (fun _ _=>trivial);have of:=ownsRow_kept o5 k fun j e=>by rintro rfl;exact ownsRow_not o5 hR5 (by decide) e
     have df:∀ y'∈ps,OwnB (((y5.setCell ⟨w.heap.size,0,none⟩ (.bool f)).setCell ⟨w.heap.size,1,none⟩ (.int .i64 z)).setCell ⟨w.heap.size,2,none⟩ (.slice ra l.length rc)) w1.heap.size 5 y'.2 y'.1.data:=fun y' hy'=>(d5 y' hy').kept k fun j e=>by rintro rfl;exact(d5 y' hy').not_block hR5 (by decide) e
     have HFIN:=jd4 t0 tb of df;clear t0 tb of df k kb o5 d5 hq5 hR5 hb25 hb35 hb5 hb5' F2 hsl' hi2 hzlen'
     go_wp2_with fail
     obtain⟨zf,hzf⟩:∃ zf,zf=((y5.setCell ⟨w.heap.size,0,none⟩ (.bool f)).setCell ⟨w.heap.size,1,none⟩ (.int .i64 z)).setCell ⟨w.heap.size,2,none⟩ (.slice ra l.length rc):=⟨_,rfl⟩
     rw[<-hzf] at HFIN ⊢;clear hzf;have t0:zf.heap[w.heap.size]? = some (.cells #[.bool f,.int .i64 z,.slice ra l.length rc] 54 (0,0)):=HFIN.out.1;have u0:zf.cell? ⟨w.heap.size,0,none⟩=some (.bool f):=by simp[World.cell?,t0]
     have u1:zf.cell? ⟨w.heap.size,1,none⟩=some (.int .i64 z):=by simp[World.cell?,t0]
     have u2:zf.cell? ⟨w.heap.size,2,none⟩=some (.slice ra l.length rc):=by simp[World.cell?,t0]
     have hG:getB b=(⟨f,z,l⟩,0):=HG2.out.trans (if_pos HEQ.out);exact bodyPost_ret (v:=.tuple #[.agg #[.bool f,.int .i64 z,.slice ra l.length rc],.int .i64 0]) (by simp[results,results100,go_sem,u0,u1,u2]) rfl
      ⟨HFIN.out.2.1,.inr ⟨.slice ra l.length rc,ps,by rw[hG],by rw[hG];exact HRT.out,by rw[hG];exact HX.out.2.2,by rw[hG];rfl,row_base HFIN.out.2.2.1 H1B.out,fun y' hy'=>(HFIN.out.2.2.2 y' hy').any_base H1B.out⟩⟩
    ·have ecmp:((g.toNat:Int) != (ls:Int))=true:=by rw[bne_iff_ne];omega
     have HEQ:=hid heq;clear heq
     go_wp2_with fail
     go_region_held (fun w'=>Below wr.heap.size wr w') (first|exact brf.drew|assumption|exact Below.drew (by assumption)) (first
      | (go_at_call 137;refine(sum_any tk _ _ ((HV.out.below (by assumption) nlr).mono (Below.size (by assumption))) (by omega)).mono ?_;rintro e y5 ⟨rfl,hb5⟩;have hb5':Below wr.heap.size wr y5:=Below.trans (by assumption) (hb5.mono (Below.size (by assumption)));rw[<-HGG.out]))
     have hb25:=H3.out.1.trans ((hbr.trans (hb5'.mono hbr.size)).mono H3.out.1.size);have hR5:=(hb25.block _ (blk_lt HB2.out.2.1)).trans HB2.out.2.1;obtain⟨r0,r1,r2,g0,g1,g2⟩:=res_cells hR5;have HB25:=hid (HB2.out.2.2.2.2.trans (hb25.mono HB2.out.2.2.2.2.size));clear hb5 hb5' hb25 hR5 F2 hsl' hi2 hzlen'
     go_wp2_with fail
     rw[setCell_self r0,setCell_self r1,setCell_self r2];have hno:getB b=(⟨false,0,[]⟩,13):=HG2.out.trans (if_neg HEQ.out);exact bodyPost_ret (v:=.tuple #[.agg #[.bool false,.int .i64 0,.slice none 0 0],.int .i64 13]) (by simp[results,results100,go_sem,r0,r1,r2]) rfl
      ⟨HB25.out,.inl ⟨by rw[hno];simp,by rw[hno];rfl⟩⟩
end Go.Proofs.YtgkabcaodnofnaaGreat.Sb
namespace Go.Proofs.YtgkabcaodnofnaaGreat
open Go.RowKit Go.Mx Go.Md Go.Shelf
attribute [local go_sem] Oper.semAt_some
def NoS (z:Int)(pre:List Sp):Prop:=∀ x∈pre,¬ (x.1<=z/\z<x.2)
def SomeS (z:Int)(pre:List Sp):Prop:=∃ x∈pre,(x.1<=z/\z<x.2)
def hasB (t3 t4:Nat)(n:Int)(b:Bool)(_:Value):List Bx:=[(t3,#[.int .i64 n],(3:TypeId)),(t4,#[.bool b],(4:TypeId))]
theorem has_in (n:Nat)(hn:3<=n)(l:List Sp)(z:Int)(v:Value)(w:World)(hl:l.length<=10000000000)(h:SpS w w.heap.size v l) :
  CallsIn Fence.wide n prog 97 #[v,.int .i64 z] w fun e w'=>e = .returned (.bool (hasS l z))/\Below w.heap.size w w':=by
 have h1:1<=n:=by omega
 obtain⟨oa,sn,sc,rfl⟩:=slG_sh h;have HS:=hid h;have hb1:Below w.heap.size w ((w.alloc (.cells #[.int .i64 z] 3)).alloc (.cells #[.bool false] 4)):=(brf.alloc nlr _).alloc (by simp) _;have hq3:((w.alloc (.cells #[.int .i64 z] 3)).alloc (.cells #[.bool false] 4)).heap[w.heap.size]? = some (.cells #[.int .i64 z] 3 (0,0)):=(Below.heap_alloc _ _ _ (by simp)).trans (World.alloc_heap_new w _);have hq5:((w.alloc (.cells #[.int .i64 z] 3)).alloc (.cells #[.bool false] 4)).heap[w.heap.size+1]? = some (.cells #[.bool false] 4 (0,0)):=by
  have:=World.alloc_heap_new (w.alloc (.cells #[.int .i64 z] 3)) (.cells #[.bool false] 4);rwa[World.size_alloc] at this
 have hz1:((w.alloc (.cells #[.int .i64 z] 3)).alloc (.cells #[.bool false] 4)).heap.size=w.heap.size+2:=by simp
 have H1:=jd4 hb1 hq3 hq5 hz1;clear h hb1 hq3 hq5 hz1;refine callsIn_of_wp_marks func97 rfl trivial ?_ rfl;simp only[ntmps97,List.size_toArray,List.length_cons,List.length_nil,Nat.reduceAdd,Nat.reduceSub,Array.replicate_succ,Array.replicate_zero,List.push_toArray,List.append_toArray,List.nil_append,List.cons_append]
 gi_wp2_with fail
 refine⟨trivial,?_⟩
 gi_at_call 131
 refine(callsIn_wide.2 (all_any oa sn sc _)).mono ?_;rintro e w4 ⟨rfl,hw4⟩
 gi_wp2_with fail
 have hz4:w4.heap.size=w.heap.size+3:=by rw[<-hw4];simp
 have hb24:Below (w.heap.size+2) ((w.alloc (.cells #[.int .i64 z] 3)).alloc (.cells #[.bool false] 4)) w4:=by rw[<-hw4];exact brf.alloc (by simp) _
 have q3:w4.heap[w.heap.size]? = some (.cells #[.int .i64 z] 3 (0,0)):=(hb24.block _ (by omega)).trans H1.out.2.1;have q5:w4.heap[w.heap.size+1]? = some (.cells #[.bool false] 4 (0,0)):=(hb24.block _ (by omega)).trans H1.out.2.2.1;have qt:w4.heap[w.heap.size+2]? = some (.cells #[.slice oa sn sc] 32 (0,0)):=by
  rw[<-hw4];have:=World.alloc_heap_new ((w.alloc (.cells #[.int .i64 z] 3)).alloc (.cells #[.bool false] 4)) (.cells #[.slice oa sn sc] 32);rwa[World.size_alloc,World.size_alloc] at this
 have hb4:Below w.heap.size w w4:=H1.out.1.trans (hb24.mono (by omega));have hS4:=HS.out.below hb4 nlr;have hseq:=all_stops (n-1) (by omega) (w.heap.size+2) w.heap.size (.slice oa sn sc) l hl w4 (by simp[World.cell?,qt]) (by omega) (by omega) hS4;obtain⟨base2,hbase⟩:∃ x,x=w4.heap.size:=⟨_,rfl⟩
 obtain⟨tB,htB⟩:∃ x,x=w.heap.size+2:=⟨_,rfl⟩
 obtain⟨t5,ht5⟩:∃ x,x=w.heap.size+1:=⟨_,rfl⟩
 obtain⟨t3,ht3⟩:∃ x,x=w.heap.size:=⟨_,rfl⟩
 have hpos:t3<base2/\t5<base2/\tB<base2/\tB<base2/\t3<t5/\t5<tB/\w.heap.size<=base2/\w.heap.size<=t5/\w.heap.size<=t3/\w.heap.size<=tB:=by omega
 rw[<-htB] at qt hseq;rw[<-ht5] at q5;rw[<-ht3] at q3;have HQ:=jd5 q3 q5 qt hb4 hbase
 try simp only[World.size_alloc]
 rw[<-htB,<-ht5,<-ht3];clear hz4 hb24 q3 q5 qt hb4 hS4 hw4 htB ht5 ht3 hbase H1;obtain⟨p1,p2,p3,p4,p5,p6,p7,p8,p9,p10⟩:=hpos;refine wpIn_rangeFunc_ownH rfl h1 (gf:=158) (lb := #[.pointer (some ⟨tB,0,none⟩)]) rfl trivial (enters_of func158 (by kernel_rfl) rfl) hseq KpA.trans (KpA.putObj (by have:=HQ.out.2.2.2.2;omega) (by have:=HQ.out.2.2.2.2;simp;omega)) brf (fun _=>rfl)
  (fun pre W=>IQ w.heap.size base2 tB w4 [] (hasB t3 t5 z false) W/\NoS z pre)
  (fun c pre W=>IQ w.heap.size base2 tB w4 [] (hasB t3 t5 z true) W/\(c = .ret/\SomeS z pre))
  (OwnFrom.and (iq_from (out:=fun _=>[]) (bx:=fun _=>hasB t3 t5 z false) HQ.out.2.2.1 (by have:=HQ.out.2.2.2.2;omega) (by have:=HQ.out.2.2.2.2;omega)) (ownFrom_pure _ _))
  (fun c=>OwnFrom.and (iq_from (out:=fun _=>[]) (bx:=fun _=>hasB t3 t5 z true) HQ.out.2.2.1 (by have:=HQ.out.2.2.2.2;omega) (by have:=HQ.out.2.2.2.2;omega)) (ownFrom_pure _ _))
  ⟨⟨.slice none 0 0,OwnG.nil _ _ _ _,fun p hp=>by
   simp only[hasB,List.mem_cons,List.mem_nil_iff,or_false] at hp;rcases hp with rfl|rfl
   ·exact⟨p1,HQ.out.1⟩
   ·exact⟨p2,HQ.out.2.1⟩,rfl,brf,by rw[HQ.out.2.2.2.2];exact nlr⟩,fun _ h=>by cases h⟩
  (fun x a' W=>∃ Bx,W.heap[Bx]? = some (.cells #[.int .i64 x.1,.int .i64 x.2] 111 (0,0))/\base2<=Bx/\a'={tmps := #[.slice oa sn sc,.int .i64 z,undef,.pointer (some ⟨t3,0,none⟩),.pointer (some ⟨t5,0,none⟩),.pointer (some ⟨Bx,0,none⟩),.slice oa sn sc,.func (.func 158) #[] #[.pointer (some ⟨tB,0,none⟩)],.agg #[.int .i64 x.1,.int .i64 x.2],undef,undef,undef,undef,undef,undef,undef,undef,undef,undef],defers:=[]})
  (fun x a' _ X Y row hs hg hr=>by
   obtain⟨Bx,h2,h4,h3⟩:=hs;exact⟨Bx,cells_kept hg (fun r e=>(hr r e).2) h2,h4,h3⟩)
  ?assign ?body ?done ?stop
 case assign =>
  rintro lp pre x W K' ⟨⟨v,ho,hb,ht,hw,hs⟩,hpre⟩ hK;obtain⟨x,y⟩:=x;have hbA:Below W.heap.size W (W.alloc (.cells #[.int .i64 x,.int .i64 y] 111)):=brf.alloc nlr _;obtain⟨ho2,hb2,ht2,hw2,hs2,hk2,hkp2⟩:=iq_below p7 p4 ho hb ht hw hs hbA;have HF:=jd8 ho2 hb2 ht2 hw2 hs2 hk2 hkp2 hpre;clear ho hb ht hw ho2 hb2 ht2 hw2 hs2 hk2 hkp2 hbA hpre
  gi_wp2
  exact hK _ _ (HF.out.2.2.2.2.2.1.from _) HF.out.2.2.2.2.2.2.1 ⟨⟨v,HF.out.1,HF.out.2.1,HF.out.2.2.1,HF.out.2.2.2.1,HF.out.2.2.2.2.1⟩,HF.out.2.2.2.2.2.2.2⟩ ⟨W.heap.size,World.alloc_heap_new W _,hs,rfl⟩
 case body =>
  rintro lp pre x a' W hlp ⟨r,hr⟩ ⟨⟨v,ho,hb,ht,hw,hs⟩,hpre⟩ ⟨Bx,bX,hBx,rfl⟩ hlt2;obtain⟨x,y⟩:=x;simp only;have b5:=(hb (t5,#[.bool false],4) (by simp[hasB])).2;have b3:=(hb (t3,#[.int .i64 z],3) (by simp[hasB])).2;have c5:W.cell? ⟨t5,0,none⟩=some (.bool false):=by simp[World.cell?,b5]
  have c3:W.cell? ⟨t3,0,none⟩=some (.int .i64 z):=by simp[World.cell?,b3]
  have f5:W.frozen? ⟨t5,0,none⟩=false:=by simp[World.frozen?,b5]
  have x0:W.cell? ⟨Bx,0,none⟩=some (.int .i64 x):=by simp[World.cell?,bX]
  have x1:W.cell? ⟨Bx,1,none⟩=some (.int .i64 y):=by simp[World.cell?,bX]
  have HX:=jd8 ho hb ht hw hs b3 b5 hpre;clear ho hb ht hw b5 b3 bX hr hpre;have stay:¬ (x<=z/\z<y)->NoS z (pre++[(x,y)]):=fun hno q hq=>by
   rcases List.mem_append.1 hq with h|h
   ·exact HX.out.2.2.2.2.2.2.2 q h
   ·simp only[List.mem_singleton] at h;subst h;exact hno
  have HST:=hid stay;clear stay;by_cases h2:x<=z
  ·have t2:decide (x<=z)=true:=by simpa using h2
   by_cases h3:z<y
   ·have t3':decide (z<y)=true:=by simpa using h3
    have hin:=jd2 h2 h3;clear h2 h3
    gi_wp2
    refine⟨(KeepsOthers.setCell _ _ _).from _,⟨.slice none 0 0,OwnG.nil _ _ _ _,fun p hp=>?_,?_,?_,?_⟩,rfl,(x,y),List.mem_append.2 (.inr (List.mem_singleton.2 rfl)),hin.out⟩
    ·simp only[hasB,List.mem_cons,List.mem_nil_iff,or_false] at hp;rcases hp with rfl|rfl
     ·exact⟨p1,(Below.heap_setCell _ _ _ _ (show t3≠t5 by omega)).trans HX.out.2.2.2.2.2.1⟩
     ·exact⟨p2,by rw[heap_setCell_at' W t5 0 _ _ 4 _ HX.out.2.2.2.2.2.2.1];rfl⟩
    ·exact(Below.heap_setCell _ _ _ _ (show tB≠t5 by omega)).trans HX.out.2.2.1
    ·exact HX.out.2.2.2.1.setCell (p:=⟨t5,0,none⟩) p8 _
    ·rw[World.size_setCell];exact HX.out.2.2.2.2.1
   ·have t3':decide (z<y)=false:=by simpa using h3
    have hout:=hid (show ¬ (x<=z/\z<y) from fun h=>h3 h.2);clear h2 h3
    gi_wp2
    exact⟨KeepsFrom.refl _ _,KpA.refl _ _ _,⟨v,HX.out.1,HX.out.2.1,HX.out.2.2.1,HX.out.2.2.2.1,HX.out.2.2.2.2.1⟩,HST.out hout.out⟩
  ·have t2:decide (x<=z)=false:=by simpa using h2
   have hout:=hid (show ¬ (x<=z/\z<y) from fun h=>h2 h.1);clear h2
   gi_wp2
   exact⟨KeepsFrom.refl _ _,KpA.refl _ _ _,⟨v,HX.out.1,HX.out.2.1,HX.out.2.2.1,HX.out.2.2.2.1,HX.out.2.2.2.2.1⟩,HST.out hout.out⟩
 case done =>
  rintro D zs W hD rfl ⟨⟨v,ho,hb,ht,hw,hs⟩,hpre⟩ hK;have b5:=(hb (t5,#[.bool false],4) (by simp[hasB])).2;have c5:W.cell? ⟨t5,0,none⟩=some (.bool false):=by simp[World.cell?,b5]
  have f5:W.frozen? ⟨t5,0,none⟩=false:=by simp[World.frozen?,b5]
  have hb4:Below w.heap.size w w4:=HQ.out.2.2.2.1;have hno:hasS l z=false:=by
   unfold hasS;rw[List.any_eq_false];intro q hq;have:=hpre q hq;simp only[Bool.and_eq_true,decide_eq_true_eq];exact this
  have HNO:=hid hno;have hK':=(KeepsOthers.setCell W ⟨t5,0,none⟩ (.bool false)).same D _ hK rfl;have hc9:(W.setCell ⟨t5,0,none⟩ (.bool false)).cell? ⟨t5,0,none⟩=some (.bool false):=by
   have:=heap_setCell_at' W t5 0 (.bool false) _ 4 _ b5;simp only[World.cell?,this];rfl
  have HX:=jd3 (hb4.trans hw) hK' hc9;clear ho hb ht hw b5 hpre hK hb4 hK' hc9 hno
  gi_wp2
  refine⟨by simp,.inl ⟨_,_,rfl,run_takeDeferred HX.out.2.1,?_⟩⟩;have hc5:=cell_kept HX.out.2.2 (grownBy_putObj' _ D (.deferred none)) (fun r e=>by cases e;exact⟨_,HX.out.2.1,rfl⟩);refine⟨.bool false,?_,by rw[HNO.out],(HX.out.1.setCell (p:=⟨t5,0,none⟩) p8 _).trans (belowK_b (w:=w4) (by have:=HQ.out.2.2.2.2;omega) _ D _ _ hD HX.out.2.1 rfl rfl)⟩;simp[results,Tryz.f97,go_sem,hc5]
 case stop =>
  rintro D c pre W hD hpre ⟨⟨v,ho,hb,ht,hw,hs⟩,rfl,q,hq,hin⟩ hK;have b5:=(hb (t5,#[.bool true],4) (by simp[hasB])).2;have c5:W.cell? ⟨t5,0,none⟩=some (.bool true):=by simp[World.cell?,b5]
  have hb4:Below w.heap.size w w4:=HQ.out.2.2.2.1;have hyes:hasS l z=true:=by
   unfold hasS;rw[List.any_eq_true];exact⟨q,hpre.subset hq,by simpa using hin⟩
  have HYES:=hid hyes;have HX:=jd2 (hb4.trans hw) hK;clear ho hb ht hw b5 hpre hb4 hyes hq hin
  gi_wp2
  refine⟨by simp,.inl ⟨_,_,rfl,run_takeDeferred hK,?_⟩⟩;have hc5:=cell_kept c5 (grownBy_putObj' _ D (.deferred none)) (fun r e=>by cases e;exact⟨_,hK,rfl⟩);refine⟨.bool true,?_,by rw[HYES.out],HX.out.1.trans (belowK_b (w:=w4) (by have:=HQ.out.2.2.2.2;omega) _ D _ _ hD hK rfl rfl)⟩;simp[results,Tryz.f97,go_sem,hc5]
theorem has_any (l:List Sp)(z:Int)(v:Value)(w:World)(hl:l.length<=10000000000)(h:SpS w w.heap.size v l) :
  Calls prog 97 #[v,.int .i64 z] w fun e w'=>e = .returned (.bool (hasS l z))/\Below w.heap.size w w' :=
 callsIn_wide.1 (has_in 5 (by omega) l z v w hl h)
open Go.RowKit Go.Mx Go.Md
theorem non133 (x:UInt8)(w:World):Calls prog 133 #[u8 x] w fun e w'=>e = .returned (.bool (!(decide (x=0))))/\w'=w:=by
 by_cases hx:x=0
 ·subst hx;go_enter func133,ntmps133
  go_wp2_with fail
  go_ret
  exact⟨rfl,rfl⟩
 ·have h1:¬ (x.toNat:Int)=0:=fun e=>hx (UInt8.toNat_inj.1 (by show x.toNat=0;omega));have h2:((x.toNat:Int)==0)=false:=by simpa using h1
  rw[decide_eq_false hx];clear hx;go_enter func133,ntmps133
  go_wp2_with fail
  go_ret
  refine⟨?_,rfl⟩;simp[bne,h2]
theorem idx159 {w:World}{B:Nat}{v:Value}{bs:Bs}(h:SlB w B v bs) :
  Calls prog 159 #[v,.func (.func 133) #[] #[]] w fun e w'=>(∃ z:Int,e = .returned (.int .i64 z)/\(0<=z↔¬ ∀ x∈bs,x=0)/\z<=9223372036854775807)/\w'=w:=by
 have hl:=fun w'=>h.len (P:=prog) (t:=23) (ty:=3) underlying23 w';have hlm:bs.length<=maxLen:=by obtain⟨_,_,rfl,hc,hm,_⟩:=id h;omega
 unfold maxLen at hlm;have HA:=hid h;obtain⟨n,hn⟩:∃ n,n=bs.length:=⟨_,rfl⟩
 rw[<-hn] at hl hlm;have HN:=hid hn;clear h hn;go_enter func159,ntmps159
 go_wp2_with fail
 go_loopw [8] (fun s8 wr=>∃ k:Nat,s8 = .int .i64 k/\k<=n/\wr=w/\Hid (∀ j,j<k->bs.getD j 0=0)) (fun s8 _=>n-(intOf s8).toNat)
 case atStart=>exact⟨0,rfl,Nat.zero_le _,rfl,hid fun j hj=>absurd hj (Nat.not_lt_zero _)⟩
 case round =>
  obtain⟨k,rfl,hk,rfl,heq⟩:=hrel;by_cases hlt:k<n
  ·obtain⟨ba,oa,_,i1,c1⟩:=HA.out.addr (P:=prog) (t:=23) underlying23 size5' k (by rw[<-HN.out];exact hlt);obtain⟨x,hx⟩:∃ x,x=bs.getD k 0:=⟨_,rfl⟩
   rw[<-hx] at c1;have HX:=hid hx;have HG:=hid (non133 x wr);clear hx;by_cases hx0:x=0
   ·rw[decide_eq_true hx0] at HG;have H0:=hid hx0;clear hx0
    go_wp2_with (go_at_call 133;refine HG.out.mono ?_;rintro e w5 ⟨rfl,rfl⟩)
    go_roundw
    case rel =>
     refine⟨k+1,by go_num,by omega,(by first|rfl|trivial),hid fun j hj=>?_⟩;by_cases e:j=k
     ·rw[e,<-HX.out];exact H0.out
     ·exact heq.out j (by omega)
    case measure=>simp only[intOf];omega
   ·rw[decide_eq_false hx0] at HG;have H0:=hid hx0;clear hx0
    go_wp2_with (go_at_call 133;refine HG.out.mono ?_;rintro e w5 ⟨rfl,rfl⟩)
    go_ret
    refine⟨⟨k,rfl,⟨fun _ hall=>H0.out ?_,fun _=>by omega⟩,by omega⟩,rfl⟩;rw[HX.out,List.getD_eq_getElem?_getD,List.getElem?_eq_getElem (by rw[<-HN.out];exact hlt)];exact hall _ (List.getElem_mem _)
  ·have:k=n:=by omega
   subst this
   go_wp2_with fail
   go_ret
   refine⟨⟨-1,rfl,⟨fun h=>absurd h (by omega),fun h=>absurd ?_ h⟩,by omega⟩,rfl⟩;intro x hx;obtain⟨j,hj,e⟩:=List.mem_iff_getElem.1 hx;have:=heq.out j (by rw[HN.out];exact hj);rw[List.getD_eq_getElem?_getD,List.getElem?_eq_getElem hj,Option.getD_some,e] at this;exact this
theorem con132 {w:World}{B:Nat}{v:Value}{bs:Bs}(h:SlB w B v bs) :
  Calls prog 132 #[v,.func (.func 133) #[] #[]] w fun e w'=>e = .returned (.bool (!(bs.all (· == 0))))/\w'=w:=by
 have H:=hid (idx159 h);obtain⟨b,hb⟩:∃ b,b=bs.all (· == 0):=⟨_,rfl⟩
 have hb2:b=true↔∀ x∈bs,x=0:=by rw[hb,List.all_eq_true];simp
 rw[<-hb];have HB:=hid hb2;clear h hb hb2;go_enter func132,ntmps132
 go_wp2_with (go_at_call 159;refine H.out.mono ?_;rintro e w5 ⟨⟨z,rfl,hz,hzl⟩,rfl⟩;have HZ:=hid hz;clear hz)
 go_ret
 refine⟨?_,rfl⟩;have h1:=HZ.out;rw[<-HB.out] at h1;cases b
 ·have:0<=z:=h1.2 (by simp);simp[this]
 ·have:¬ 0<=z:=fun h=>h1.1 h rfl;simp[this]
theorem nought_any {w:World}{B:Nat}{v:Value}{bs:Bs}(h:SlB w B v bs) :
  Calls prog 98 #[v] w fun e w'=>e = .returned (.bool (bs.all (· == 0)))/\w'=w:=by
 have H:=hid (con132 h);obtain⟨b,hb⟩:∃ b,b=bs.all (· == 0):=⟨_,rfl⟩
 rw[<-hb] at H ⊢;clear h hb;go_enter func98,ntmps98
 go_wp2_with (go_at_call 132;refine H.out.mono ?_;rintro e w5 ⟨rfl,rfl⟩)
 go_ret
 exact⟨by simp,rfl⟩
end Go.Proofs.YtgkabcaodnofnaaGreat
namespace Go.Md
open Go.Proofs.YtgkabcaodnofnaaGreat Go.Str
def expR (S:IL)(i:IM)(full:Bool)(bl:List Sp)(n:Nat):Option Rec :=
 if full=true\/hasS bl n=true then
  (if full=false\/(secs (secIn S 8 i i.size i.own) (n*2^i.cl) (2^i.cl)).all (· == 0)=false then some ⟨((n*2^i.cl:Nat):Int),secs (secIn S 8 i i.size i.own) (n*2^i.cl) (2^i.cl)⟩ else none)
 else none
def expS (S:IL)(i:IM)(full:Bool)(bl:List Sp)(k:Nat):List Rec:=(List.range k).filterMap (expR S i full bl)
theorem expS_zero {S:IL}{i:IM}{full:Bool}{bl:List Sp}:expS S i full bl 0=[]:=rfl
theorem expS_succ {S:IL}{i:IM}{full:Bool}{bl:List Sp}(k:Nat):expS S i full bl (k+1)=expS S i full bl k++(expR S i full bl k).toList:=by
 unfold expS;rw[List.range_succ,List.filterMap_append];cases h:expR S i full bl k<;>simp[List.filterMap,h]
def expT (S:IL)(i:IM)(full:Bool)(bl:List Sp):Strm:=⟨full,(i.size:Int),expS S i full bl (i.size/2^i.cl)⟩
def exportF (M:MM)(c:Cm):MM×Rp×Nat:=match fnd M.all c.name with
 | none=>(M,failR 4,0)
 | some i=>if c.tt≠[]/\posN (i.maps.map (·.name)) c.tt=none then(M,failR 15,0)
  else if (putR (expT M.all i (decide (c.tt=[])) (((posN (i.maps.map (·.name)) c.tt).bind fun k=>i.maps[k]?).elim [] (·.l)))).2=0
   then(M,{data:=(putR (expT M.all i (decide (c.tt=[])) (((posN (i.maps.map (·.name)) c.tt).bind fun k=>i.maps[k]?).elim [] (·.l)))).1},0)
   else(M,failR (putR (expT M.all i (decide (c.tt=[])) (((posN (i.maps.map (·.name)) c.tt).bind fun k=>i.maps[k]?).elim [] (·.l)))).2,0)
theorem quiet_export:Quiet exportF:=fun M c=>by
 unfold exportF;split
 ·exact⟨rfl,rfl⟩
 split
 ·exact⟨rfl,rfl⟩
 split<;>exact⟨rfl,rfl⟩
theorem refuse_export:Refuse exportF:=fun M c h=>by
 revert h;unfold exportF;split
 ·exact fun _=>⟨rfl,rfl,rfl⟩
 split
 ·exact fun _=>⟨rfl,rfl,rfl⟩
 split
 ·exact fun h=>absurd rfl h
 ·exact fun _=>⟨rfl,rfl,rfl⟩
def layR (b:Bs)(r:Rec):Bs:=splice b (16*r.at_.toNat) r.data
def will0 (s:Strm)(now:Nat)(was:Bs):Bs:=if s.full=true then zer (16*now) else was.take (16*s.size.toNat)++zer (16*(now-s.size.toNat))
def willB (s:Strm)(now:Nat)(was:Bs)(k:Nat):Bs:=(s.recs.take k).foldl layR (will0 s now was)
def brI (n:Nat)(was will:Bs)(i:IM)(k:Nat):IM:=if (will.drop (k*n)).take n=(was.drop (k*n)).take n then i else putI i k ((will.drop (k*n)).take n)
def brF (n:Nat)(was will:Bs)(i:IM)(k:Nat):IM:=(List.range k).foldl (brI n was will) i
theorem brF_succ (n:Nat)(was will:Bs)(i:IM)(k:Nat):brF n was will i (k+1)=brI n was will (brF n was will i k) k:=by
 unfold brF;rw[List.range_succ,List.foldl_append];rfl
theorem brI_cl (n:Nat)(was will:Bs)(i:IM)(k:Nat):(brI n was will i k).cl=i.cl/\(brI n was will i k).size=i.size/\(brI n was will i k).back=i.back:=by
 unfold brI;split<;>exact⟨rfl,rfl,rfl⟩
theorem brF_cl (n:Nat)(was will:Bs)(i:IM):∀ k,(brF n was will i k).cl=i.cl/\(brF n was will i k).size=i.size/\(brF n was will i k).back=i.back
 | 0=>⟨rfl,rfl,rfl⟩
 | k+1=>by
  rw[brF_succ];have h:=brF_cl n was will i k;have h2:=brI_cl n was will (brF n was will i k) k;exact⟨h2.1.trans h.1,h2.2.1.trans h.2.1,h2.2.2.trans h.2.2⟩
def upTo (n cl:Nat):Nat:=(n+2^cl-1)/2^cl*2^cl
theorem upTo_mod (n cl:Nat):upTo n cl%2^cl=0:=Nat.mul_mod_left _ _
theorem upTo_le (n cl:Nat):n<=upTo n cl:=by
 unfold upTo;have hp:0<2^cl:=Nat.two_pow_pos cl;have h1:=Nat.div_add_mod (n+2^cl-1) (2^cl);have h2:=Nat.mod_lt (n+2^cl-1) hp;rw[Nat.mul_comm] at h1;omega
def brung (S:IL)(i:IM)(s:Strm):IM :=
 brF (16*2^i.cl) (secs (secIn S 8 i i.size i.own) 0 (max i.size (upTo s.size.toNat i.cl))) (willB s (upTo s.size.toNat i.cl) (secs (secIn S 8 i i.size i.own) 0 (max i.size (upTo s.size.toNat i.cl))) s.recs.length)
  (if upTo s.size.toNat i.cl=i.size then i else resizeI i (upTo s.size.toNat i.cl)) (upTo s.size.toNat i.cl/2^i.cl)
def bringF (M:MM)(c:Cm):MM×Rp×Nat:=match fnd M.all c.name with
 | none=>(M,failR 4,0)
 | some i=>if aboveN M.all c.name≠0 then(M,failR 14,0)
  else if (getB c.data).2≠0 then(M,failR (getB c.data).2,0)
  else if i.back≠[] then(M,failR 12,0)
  else if 4096<upTo (getB c.data).1.size.toNat i.cl then(M,failR 6,0)
  else({M with all:=setI M.all c.name (brung M.all i (getB c.data).1)},{},0)
theorem brung_back (S:IL)(i:IM)(s:Strm):(brung S i s).back=i.back:=by
 unfold brung;rw[(brF_cl _ _ _ _ _).2.2];split<;>rfl
theorem turns_bring:Turns bringF:=fun M c i hf=>by
 unfold bringF;rw[hf];simp only;split
 ·exact .inl ⟨rfl,rfl,by simp,rfl⟩
 split
 ·rename_i h;exact .inl ⟨rfl,rfl,by simpa using h,rfl⟩
 split
 ·exact .inl ⟨rfl,rfl,by simp,rfl⟩
 split
 ·exact .inl ⟨rfl,rfl,by simp,rfl⟩
 ·exact .inr ⟨_,_,brung_back _ _ _,Chg.set hf _,rfl,rfl,rfl⟩
theorem length_layR {b:Bs}{r:Rec}(h:16*r.at_.toNat+r.data.length<=b.length):(layR b r).length=b.length:=length_splice _ _ _ h
end Go.Md
