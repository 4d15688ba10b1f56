import Derived.Test.YtgkabcaodnofnaaGreatB31
import Derived.Test.YtgkabcaodnofnaaGreatB02
import Derived.BigQuiet
import Derived.Test.YtgkabcaodnofnaaGreatB01
import Derived.Lib.SlBytesConst
set_option linter.unusedSimpArgs false
set_option linter.unusedVariables false
set_option maxRecDepth 100000
set_option maxHeartbeats 4000000
open Go.Proofs.Tryz
namespace Go.Mx
open Go.RowKit
theorem dropD {α}(l:List α)(k:Nat)(d:α)(hk:k<l.length):l.drop k=l.getD k d :: l.drop (k+1):=by
 rw[List.drop_eq_getElem_cons hk,List.getD_eq_getElem?_getD,List.getElem?_eq_getElem hk];rfl
theorem takeD {α}(l:List α)(k:Nat)(d:α)(hk:k<l.length):l.take (k+1)=l.take k++[l.getD k d]:=by
 rw[List.take_succ_eq_append_getElem hk,List.getD_eq_getElem?_getD,List.getElem?_eq_getElem hk];rfl
end Go.Mx
namespace Go.Proofs.YtgkabcaodnofnaaGreat.Sb
open Go.RowKit Go.Mx Go.Crc Go.Str
theorem size47:∀ w,(sizeOf 98).run prog w = .ok 2 w:=fun w=>by kernel_rfl
def SlR (w:World)(B:Nat)(v:Value)(rs:List Rec):Prop :=
 ∃ rows:List (List Value),rows.length=rs.length/\SlG w B 2 v rows/\∀ i,i<rs.length->∃ dv,rows.getD i []=[.int .i64 (rs.getD i default).at_,dv]/\SlB w B dv (rs.getD i default).data
theorem SlR.below {w w':World}{B B':Nat}{v:Value}{rs:List Rec}(h:SlR w B v rs)(hb:Below B' w w')(hB:B<=B'):SlR w' B v rs:=by
 obtain⟨rows,h1,h2,h3⟩:=h;exact⟨rows,h1,h2.below hb hB,fun i hi=>by obtain⟨dv,e,hs⟩:=h3 i hi;exact⟨dv,e,hs.below hb hB⟩⟩
theorem SlR.mono {w:World}{B B':Nat}{v:Value}{rs:List Rec}(h:SlR w B v rs)(hB:B<=B'):SlR w B' v rs:=by
 obtain⟨rows,h1,h2,h3⟩:=h;exact⟨rows,h1,h2.mono hB,fun i hi=>by obtain⟨dv,e,hs⟩:=h3 i hi;exact⟨dv,e,hs.mono hB⟩⟩
theorem SlR.nil (w:World)(B:Nat):SlR w B (.slice none 0 0) []:=⟨[],rfl,SlG.nil _ _ _,fun i hi=>by simp at hi⟩
theorem SlR.len {w:World}{B:Nat}{v:Value}{rs:List Rec}(h:SlR w B v rs)(w':World){ty:TypeId}:(Builtin.len_ #[52] ty #[v]).run prog w' = .ok (.int .i64 rs.length) w':=by
 obtain⟨rows,h1,h2,h3⟩:=h;have:=h2.len (P:=prog) (ty:=ty) underlying52 w';rwa[h1] at this
theorem SlR.at {w:World}{B:Nat}{v:Value}{rs:List Rec}(h:SlR w B v rs)(i:Nat)(hi:i<rs.length) :
  ∃ b o dv,b<B/\(∀ w' (k:IntKind),(Instr.indexAt 52 v (.int k (i:Int))).run prog w' = .ok (.pointer (some ⟨b,o,none⟩)) w')/\w.cell? ⟨b,o,none⟩=some (.int .i64 (rs.getD i default).at_)/\w.cell? ⟨b,o+1,none⟩=some dv/\SlB w B dv (rs.getD i default).data:=by
 obtain⟨rows,h1,h2,h3⟩:=h;obtain⟨dv,e,hs⟩:=h3 i hi;obtain⟨b,o,hb,hia,hc⟩:=h2.addr (P:=prog) underlying52 size47 i (by omega);rw[e] at hc;exact⟨b,o,dv,hb,hia,hc 0 _ rfl,hc 1 _ rfl,hs⟩
theorem SlR.small {w:World}{B:Nat}{v:Value}{rs:List Rec}(h:SlR w B v rs):rs.length<=9223372036854775807:=by
 obtain⟨rows,h1,⟨_,c,_,q1,q2,_⟩,h3⟩:=h;unfold maxLen at q2;omega
def strmV (s:Strm)(sv:Value):Value:=.agg #[.bool s.full,.int .i64 s.size,sv]
theorem right_any (s:Strm)(sv:Value)(w:World)(h:SlR w w.heap.size sv s.recs) :
  Calls prog 134 #[strmV s sv] w fun e w'=>e = .returned (.bool (right s))/\Below w.heap.size w w':=by
 obtain⟨R,hR⟩:∃ R,R=right s:=⟨_,rfl⟩
 rw[<-hR];have hlen:=fun w'=>h.len (ty:=3) w';have H:=hid h;unfold strmV;obtain⟨f,z,l⟩:=s;have hll:l.length<=9223372036854775807:=SlR.small h;simp only at H hlen ⊢;have hb0:Below w.heap.size w (w.alloc (.cells #[.bool f,.int .i64 z,sv] 54)):=brf.alloc nlr _;by_cases h0:0<=z;rotate_left
 ·have:R=false:=by rw[hR];simp[right];omega
  subst this;clear hR h;go_enter func134,ntmps134
  go_wp2
  go_ret
  exact⟨rfl,hb0⟩
 by_cases h1:z<=4096;rotate_left
 ·have:R=false:=by rw[hR];simp[right];omega
  subst this;clear hR h;go_enter func134,ntmps134
  go_wp2
  go_ret
  exact⟨rfl,hb0⟩
 have HR:Hid (R=rightFrom z 0 l):=by unfold Hid;rw[hR];simp[right,h0,h1]
 clear hR h;have hcl:(w.alloc (.cells #[.bool f,.int .i64 z,sv] 54)).cell? ⟨w.heap.size,1,none⟩=some (.int .i64 z):=World.cell?_alloc_at #[.bool f,.int .i64 z,sv] 54 w.heap.size 1 rfl;have HC:=hid hcl;have HB0:=hid hb0;clear hcl hb0;go_enter func134,ntmps134
 go_wp2
 go_loopw [3,18] (fun a i wr=>∃ (k:Nat) (A:Int),k<=l.length/\i = .int .i64 k/\a = .int .i64 A/\0<=A/\A<=4096/\Hid (R=rightFrom z A (l.drop k))/\Below w.heap.size w wr/\wr.cell? ⟨w.heap.size,1,none⟩=some (.int .i64 z)/\w.heap.size<wr.heap.size) (fun _ i _=>l.length-(intOf i).toNat)
 case atStart=>exact⟨0,0,by omega,rfl,rfl,by omega,by omega,by rw[List.drop_zero];exact HR,HB0.out,HC.out,by simp⟩
 case round =>
  obtain⟨k,A,hk,rfl,rfl,hA0,hA1,HR2,hbl,hcz,hsz⟩:=hrel;clear HC HR;by_cases hlt:k<l.length
  ·obtain⟨b,o,dv,hbb,hia,d0,d1,hs⟩:=(H.out.below hbl nlr).at k hlt;have hR3:=HR2.out;rw[dropD l k default hlt,rightFrom] at hR3;obtain⟨r,hr⟩:∃ r,r=l.getD k default:=⟨_,rfl⟩
   rw[<-hr] at hR3 d0 hs;clear hr HR2;obtain⟨at_,dat⟩:=r;simp only at d0 hs;have hld:=fun w'=>hs.len (P:=prog) (ty:=3) underlying23 w';have hn:(Rec.mk at_ dat).n=dat.length/16:=rfl;have hml:dat.length<=9223372036854775807:=by obtain⟨_,c,_,q1,q2,_⟩:=hs;unfold maxLen at q2;omega
   have hbl1:=hbl.alloc hbl.size (.cells #[.int .i64 at_,dv] 98);have hc1:(wr.alloc (.cells #[.int .i64 at_,dv] 98)).cell? ⟨w.heap.size,1,none⟩=some (.int .i64 z):=(((Below.refl wr.heap.size wr).alloc nlr _).cell (p:=⟨w.heap.size,1,none⟩) hsz).trans hcz;obtain⟨oa,nn,cp,rfl⟩:∃ oa n c,dv = .slice oa n c:=by obtain⟨oa1,cp1,hv1,_⟩:=hs;exact⟨_,_,_,hv1⟩
   have HBL1:=hid hbl1;clear hbl1;have hokn:okR z A ⟨at_,dat⟩=false->R=false:=fun h=>by rw[hR3,h];rfl
   have hok:=okR_iff z A ⟨at_,dat⟩;rw[hn] at hok hR3;simp only at hok hR3;have HOK:=jd3 hokn hok hR3;clear hokn hok hR3 hn hs;by_cases t1:dat.length/16=0
   ·have u1:((dat.length:Int)/16==0)=true:=by rw[beq_iff_eq];omega
    have:R=false:=HOK.out.1 (by rw[<-Bool.not_eq_true,HOK.out.2.1];omega);subst this
    go_wp2
    go_ret
    exact⟨rfl,HBL1.out⟩
   have u1:((dat.length:Int)/16==0)=false:=by rw[beq_eq_false_iff_ne];omega
   by_cases t2:dat.length%16=0;rotate_left
   ·have u2:((dat.length:Int)%16 != 0)=true:=by rw[bne_iff_ne];omega
    have:R=false:=HOK.out.1 (by rw[<-Bool.not_eq_true,HOK.out.2.1];omega);subst this
    go_wp2
    go_ret
    exact⟨rfl,HBL1.out⟩
   have u2:((dat.length:Int)%16 != 0)=false:=by rw[bne_eq_false_iff_eq];omega
   by_cases t3:A<=at_;rotate_left
   ·have:R=false:=HOK.out.1 (by rw[<-Bool.not_eq_true,HOK.out.2.1];omega);subst this
    go_wp2
    go_ret
    exact⟨rfl,HBL1.out⟩
   by_cases t4:at_<=z;rotate_left
   ·have:R=false:=HOK.out.1 (by rw[<-Bool.not_eq_true,HOK.out.2.1];omega);subst this
    go_wp2
    go_ret
    exact⟨rfl,HBL1.out⟩
   by_cases t5:((dat.length/16:Nat):Int)<=z-at_;rotate_left
   ·have u5:¬ (dat.length:Int)/16<=z-at_:=by omega
    have:R=false:=HOK.out.1 (by rw[<-Bool.not_eq_true,HOK.out.2.1];omega);subst this
    go_wp2
    go_ret
    exact⟨rfl,HBL1.out⟩
   have HR3:Hid (R=rightFrom z (at_+((dat.length/16:Nat):Int)) (l.drop (k+1))):=by
    have h1:=HOK.out.2.1.2 ⟨by omega,t2,t3,t4,t5⟩;have h2:=HOK.out.2.2;rw[h1,Bool.true_and] at h2;exact h2
   have u5:(dat.length:Int)/16<=z-at_:=by omega
   clear HOK
   go_wp2
   go_roundw
   case rel=>exact⟨k+1,at_+((dat.length/16:Nat):Int),by omega,by go_num,by go_num,by omega,by omega,HR3,HBL1.out,hc1,by simp;omega⟩
   case measure=>simp[intOf];omega
  ·have hR3:=HR2.out;rw[List.drop_eq_nil_of_le (by omega)] at hR3;have hR4:R=true:=hR3;subst hR4;clear hR3 HR2
   go_wp2
   go_ret
   exact⟨rfl,hbl⟩
theorem rright_any (s:Strm)(sv:Value)(w:World)(h:SlR w w.heap.size sv s.recs) :
  Calls prog 33 #[strmV s sv] w fun e w'=>e = .returned (.bool (right s))/\Below w.heap.size w w':=by
 obtain⟨R,hR⟩:∃ R,R=right s:=⟨_,rfl⟩
 rw[<-hR];have hlen:=fun w'=>h.len (ty:=3) w';have H:=hid h;unfold strmV;obtain⟨f,z,l⟩:=s;have hll:l.length<=9223372036854775807:=SlR.small h;simp only at H hlen ⊢;have hb0:Below w.heap.size w (w.alloc (.cells #[.bool f,.int .i64 z,sv] 54)):=brf.alloc nlr _;by_cases h0:0<=z;rotate_left
 ·have:R=false:=by rw[hR];simp[right];omega
  subst this;clear hR h;go_enter func33,ntmps33
  go_wp2
  go_ret
  exact⟨rfl,hb0⟩
 by_cases h1:z<=4096;rotate_left
 ·have:R=false:=by rw[hR];simp[right];omega
  subst this;clear hR h;go_enter func33,ntmps33
  go_wp2
  go_ret
  exact⟨rfl,hb0⟩
 have HR:Hid (R=rightFrom z 0 l):=by unfold Hid;rw[hR];simp[right,h0,h1]
 clear hR h;have hcl:(w.alloc (.cells #[.bool f,.int .i64 z,sv] 54)).cell? ⟨w.heap.size,1,none⟩=some (.int .i64 z):=World.cell?_alloc_at #[.bool f,.int .i64 z,sv] 54 w.heap.size 1 rfl;have hcl2:(w.alloc (.cells #[.bool f,.int .i64 z,sv] 54)).cell? ⟨w.heap.size,2,none⟩=some sv:=World.cell?_alloc_at #[.bool f,.int .i64 z,sv] 54 w.heap.size 2 rfl;have HC:=jd2 hcl hcl2;have HB0:=hid hb0;clear hcl hcl2 hb0;go_enter func33,ntmps33
 go_wp2
 go_loopw [3,4] (fun a i wr=>∃ (k:Nat) (A:Int),k<=l.length/\i = .int .i64 k/\a = .int .i64 A/\0<=A/\A<=4096/\Hid (R=rightFrom z A (l.drop k))/\Below w.heap.size w wr/\wr.cell? ⟨w.heap.size,1,none⟩=some (.int .i64 z)/\wr.cell? ⟨w.heap.size,2,none⟩=some sv/\w.heap.size<wr.heap.size) (fun _ i _=>l.length-(intOf i).toNat)
 case atStart=>exact⟨0,0,by omega,rfl,rfl,by omega,by omega,by rw[List.drop_zero];exact HR,HB0.out,HC.out.1,HC.out.2,by simp⟩
 case round =>
  obtain⟨k,A,hk,rfl,rfl,hA0,hA1,HR2,hbl,hcz,hcy,hsz⟩:=hrel;clear HC HR;by_cases hlt:k<l.length
  ·obtain⟨b,o,dv,hbb,hia,d0,d1,hs⟩:=(H.out.below hbl nlr).at k hlt;have hR3:=HR2.out;rw[dropD l k default hlt,rightFrom] at hR3;obtain⟨r,hr⟩:∃ r,r=l.getD k default:=⟨_,rfl⟩
   rw[<-hr] at hR3 d0 hs;clear hr HR2;obtain⟨at_,dat⟩:=r;simp only at d0 hs;have hld:=fun w'=>hs.len (P:=prog) (ty:=3) underlying23 w';have hn:(Rec.mk at_ dat).n=dat.length/16:=rfl;have hml:dat.length<=9223372036854775807:=by obtain⟨_,c,_,q1,q2,_⟩:=hs;unfold maxLen at q2;omega
   have hbl1:=hbl.alloc hbl.size (.cells #[.int .i64 at_,dv] 98);have hc1:(wr.alloc (.cells #[.int .i64 at_,dv] 98)).cell? ⟨w.heap.size,1,none⟩=some (.int .i64 z):=(((Below.refl wr.heap.size wr).alloc nlr _).cell (p:=⟨w.heap.size,1,none⟩) hsz).trans hcz;have hc2:(wr.alloc (.cells #[.int .i64 at_,dv] 98)).cell? ⟨w.heap.size,2,none⟩=some sv:=(((Below.refl wr.heap.size wr).alloc nlr _).cell (p:=⟨w.heap.size,2,none⟩) hsz).trans hcy;obtain⟨oa,nn,cp,rfl⟩:∃ oa n c,dv = .slice oa n c:=by obtain⟨oa1,cp1,hv1,_⟩:=hs;exact⟨_,_,_,hv1⟩
   have HBL1:=hid hbl1;clear hbl1;have hokn:okR z A ⟨at_,dat⟩=false->R=false:=fun h=>by rw[hR3,h];rfl
   have hok:=okR_iff z A ⟨at_,dat⟩;rw[hn] at hok hR3;simp only at hok hR3;have HOK:=jd3 hokn hok hR3;clear hokn hok hR3 hn hs;by_cases t1:dat.length/16=0
   ·have u1:(dat.length:Int)/16<1:=by omega
    have:R=false:=HOK.out.1 (by rw[<-Bool.not_eq_true,HOK.out.2.1];omega);subst this
    go_wp2
    go_ret
    exact⟨rfl,HBL1.out⟩
   have u1:¬ (dat.length:Int)/16<1:=by omega
   by_cases t2:dat.length%16=0;rotate_left
   ·have u2:((dat.length:Int)%16 != 0)=true:=by rw[bne_iff_ne];omega
    have:R=false:=HOK.out.1 (by rw[<-Bool.not_eq_true,HOK.out.2.1];omega);subst this
    go_wp2
    go_ret
    exact⟨rfl,HBL1.out⟩
   have u2:((dat.length:Int)%16 != 0)=false:=by rw[bne_eq_false_iff_eq];omega
   by_cases t3:A<=at_;rotate_left
   ·have:R=false:=HOK.out.1 (by rw[<-Bool.not_eq_true,HOK.out.2.1];omega);subst this
    go_wp2
    go_ret
    exact⟨rfl,HBL1.out⟩
   by_cases t4:at_<=z;rotate_left
   ·have:R=false:=HOK.out.1 (by rw[<-Bool.not_eq_true,HOK.out.2.1];omega);subst this
    go_wp2
    go_ret
    exact⟨rfl,HBL1.out⟩
   by_cases t5:((dat.length/16:Nat):Int)<=z-at_;rotate_left
   ·have u5:¬ (dat.length:Int)/16<=z-at_:=by omega
    have:R=false:=HOK.out.1 (by rw[<-Bool.not_eq_true,HOK.out.2.1];omega);subst this
    go_wp2
    go_ret
    exact⟨rfl,HBL1.out⟩
   have HR3:Hid (R=rightFrom z (at_+((dat.length/16:Nat):Int)) (l.drop (k+1))):=by
    have h1:=HOK.out.2.1.2 ⟨by omega,t2,t3,t4,t5⟩;have h2:=HOK.out.2.2;rw[h1,Bool.true_and] at h2;exact h2
   have u5:(dat.length:Int)/16<=z-at_:=by omega
   clear HOK
   go_wp2
   go_roundw
   case rel=>exact⟨k+1,at_+((dat.length/16:Nat):Int),by omega,by go_num,by go_num,by omega,by omega,HR3,HBL1.out,hc1,hc2,by simp;omega⟩
   case measure=>simp[intOf];omega
  ·have hR3:=HR2.out;rw[List.drop_eq_nil_of_le (by omega)] at hR3;have hR4:R=true:=hR3;subst hR4;clear hR3 HR2
   go_wp2
   go_ret
   exact⟨rfl,hbl⟩
end Go.Proofs.YtgkabcaodnofnaaGreat.Sb
namespace Go.Mx
open Go.RowKit
theorem sl_litm (w:World)(l:List UInt8)(e:TypeId)(p:Nat×Nat)(hl:l.length<=maxLen):SlB (w.alloc (.cells (l.map u8).toArray e p)) (w.heap.size+1) (.slice (some ⟨w.heap.size,0,none⟩) l.length l.length) l:=by
 refine⟨_,_,rfl,nlr,hl,fun _=>⟨w.heap.size,0,rfl,by omega,fun i hi=>?_⟩⟩;rw[World.cell?_alloc_mark,Nat.zero_add];simp[List.getElem?_eq_getElem hi]
theorem SlB.kept1 {w w':World}{N:Nat->Prop}{B b o n c:Nat}{bs:List UInt8}(h:SlB w B (.slice (some ⟨b,o,none⟩) n c) bs)(hk:Kept w w' N)(hb:b<w.heap.size)(hN:N b):SlB w' B (.slice (some ⟨b,o,none⟩) n c) bs:=by
 obtain⟨oa,cap,he,h1,h2,h3⟩:=h;cases he
 refine⟨_,_,rfl,h1,h2,fun hn=>?_⟩;obtain⟨bb,bo,hh,hl,hr⟩:=h3 hn;cases hh
 exact⟨_,_,rfl,hl,fun i hi=>(hk.cell hb hN).trans (hr i hi)⟩
end Go.Mx
namespace Go.Str
open Go.Crc
def putR (s:Strm):List UInt8×Int:=if right s then(putB s,0) else([],1)
theorem flat_take (l:List Rec)(k:Nat)(hk:k<l.length):(l.take (k+1)).flatMap recB=(l.take k).flatMap recB++recB (l.getD k default):=by
 rw[Mx.takeD l k default hk,List.flatMap_append];simp
theorem part_len {s:Strm}(h:right s=true)(k:Nat):(headB s++(s.recs.take k).flatMap recB).length<=98317:=by
 have h1:=putB_short h;have h2:(s.recs.flatMap recB).length=((s.recs.take k).flatMap recB).length+((s.recs.drop k).flatMap recB).length:=by
  rw[<-List.length_append,<-List.flatMap_append,List.take_append_drop]
 simp only[putB,bodyB,List.length_append] at h1 ⊢;omega
end Go.Str
namespace Go.Proofs.YtgkabcaodnofnaaGreat.Sb
open Go.RowKit Go.Mx Go.Crc Go.Str
theorem sum_nil:(sum []).toNat=0:=by decide +kernel
theorem Sm.new (w:World):Sm (w.alloc (.cells #[.slice none 0 0,.int .u32 0] 192)) w.heap.size (.slice none 0 0) []:=by
 refine⟨?_,OwnB.nil _ _ _⟩;rw[sum_nil];exact alloc_new w _
theorem snum' (p:Nat)(v:Value)(bs:List UInt8)(n x:Nat)(X:Int)(w:World)(hX:X=(x:Int))(h:Sm w p v bs)(hl:bs.length<=900000000)(h1:1<=n)(h4:n<=4)(hv:x<256^n) :
  Calls prog 136 #[.pointer (some ⟨p,0,none⟩),.int .i64 n,.int .i64 X] w fun e w'=>e = .returned (.tuple #[])/\∃ v',Sm w' p v' (bs++le n x)/\Below p w w'/\Kept w w' (SmN p v):=by
 subst hX;exact snum_any p v bs n x w h hl h1 h4 hv
structure St (w0 w:World)(p:Nat)(s:Strm)(sv v:Value)(bs:List UInt8):Prop where
 sm:Sm w p v bs
 box:w.heap[w0.heap.size]? = some (.cells #[.bool s.full,.int .i64 s.size,sv] 54 (0,0))
 lt:w0.heap.size<p
 bel:Below w0.heap.size w0 w
theorem St.cells {w0 w:World}{p:Nat}{s:Strm}{sv v:Value}{bs:List UInt8}(h:St w0 w p s sv v bs) :
  w.cell? ⟨w0.heap.size,0,none⟩=some (.bool s.full)/\w.cell? ⟨w0.heap.size,1,none⟩=some (.int .i64 s.size)/\w.cell? ⟨w0.heap.size,2,none⟩=some sv:=by
 have h:=h.box;refine⟨?_,?_,?_⟩<;>simp[World.cell?,h]
theorem St.step {w0 w w':World}{p:Nat}{s:Strm}{sv v v':Value}{bs bs':List UInt8}(h:St w0 w p s sv v bs)(hs:Sm w' p v' bs')(hb:Below p w w'):St w0 w' p s sv v' bs' :=
 ⟨hs,(hb.block _ h.lt).trans h.box,h.lt,h.bel.trans (hb.mono (Nat.le_of_lt h.lt))⟩
theorem St.below {w0 w w':World}{p:Nat}{s:Strm}{sv v:Value}{bs:List UInt8}(h:St w0 w p s sv v bs)(hb:Below w.heap.size w w'):St w0 w' p s sv v bs :=
 h.step (h.sm.below hb) (hb.mono (Nat.le_of_lt h.sm.lt))
theorem sput_any (s:Strm)(sv:Value)(w:World)(h:SlR w w.heap.size sv s.recs) :
  Calls prog 99 #[strmV s sv] w fun e w'=>∃ v,e = .returned (.tuple #[v,.int .i64 (putR s).2])/\OwnB w' w.heap.size 5 v (putR s).1/\Below w.heap.size w w':=by
 have hlen:=fun w'=>h.len (ty:=3) w';have H:=hid h;have hb0:Below w.heap.size w (w.alloc (.cells #[.bool s.full,.int .i64 s.size,sv] 54)):=brf.alloc nlr _;have hbx:(w.alloc (.cells #[.bool s.full,.int .i64 s.size,sv] 54)).heap[w.heap.size]? = some (.cells #[.bool s.full,.int .i64 s.size,sv] 54 (0,0)):=alloc_new w _;have HB0:=jd2 hb0 hbx;have HC:=hid (right_any s sv _ ((h.below hb0 nlr).mono hb0.size));clear h hb0 hbx;cases hr:right s
 ·have e:putR s=([],1):=by unfold putR;rw[hr];rfl
  rw[e];rw[hr] at HC;clear hr e;unfold strmV;go_enter func99,ntmps99
  go_wp2_with fail
  refine HC.out.mono ?_;rintro e w2 ⟨rfl,hb2⟩
  go_wp2
  go_ret2
  exact⟨_,rfl,OwnB.nil _ _ _,HB0.out.1.trans (hb2.mono HB0.out.1.size)⟩
 have e:putR s=(putB s,0):=by unfold putR;rw[hr];rfl
 rw[e];rw[hr] at HC;have HR:=hid hr;clear e hr;unfold strmV;obtain⟨f,z,l⟩:=s;simp only at hlen H HB0 HC ⊢;obtain⟨zn,rfl⟩:∃ n:Nat,z=n:=Int.eq_ofNat_of_zero_le (right_mem HR.out).1;go_enter func99,ntmps99
 go_wp2_with fail
 refine HC.out.mono ?_;rintro e w2 ⟨rfl,hb2⟩;have hw2:=HB0.out.1.trans (hb2.mono HB0.out.1.size);have hx2:=(hb2.block w.heap.size (by simp)).trans HB0.out.2;have hb3:Below w2.heap.size w2 (w2.alloc (.cells #[.slice none 0 0,.int .u32 0] 192)):=brf.alloc nlr _;have S3:St w (w2.alloc (.cells #[.slice none 0 0,.int .u32 0] 192)) w2.heap.size ⟨f,zn,l⟩ sv (.slice none 0 0) [] :=
  ⟨Sm.new w2,(hb3.block _ (Array.getElem?_eq_some_iff.1 hx2).1).trans hx2,(Array.getElem?_eq_some_iff.1 hx2).1,hw2.trans (hb3.mono hw2.size)⟩
 have HS3:=hid S3;have kc1:(convert 23 23 (.slice (some ⟨w2.heap.size+1,0,none⟩) 4 4)).run prog ((w2.alloc (.cells #[.slice none 0 0,.int .u32 0] 192)).alloc (.cells #[.int .u8 77,.int .u8 84,.int .u8 82,.int .u8 75] 5)) = .ok (.slice (some ⟨w2.heap.size+1,0,none⟩) 4 4) ((w2.alloc (.cells #[.slice none 0 0,.int .u32 0] 192)).alloc (.cells #[.int .u8 77,.int .u8 84,.int .u8 82,.int .u8 75] 5 (4,5))):=by
  have:=Lib.run_convert_bytes_const (P:=prog) (w2.alloc (.cells #[.slice none 0 0,.int .u32 0] 192)) 23 5 #[.int .u8 77,.int .u8 84,.int .u8 82,.int .u8 75] 4 4 underlying23 underlying5;rwa[show(w2.alloc (.cells #[.slice none 0 0,.int .u32 0] 192)).heap.size=w2.heap.size+1 by simp] at this
 clear HC HB0 hb2 hw2 hx2 hb3 S3
 go_wp2_with fail
 obtain⟨W4,hW4⟩:∃ W4,W4=(w2.alloc (.cells #[.slice none 0 0,.int .u32 0] 192)).alloc (.cells #[.int .u8 77,.int .u8 84,.int .u8 82,.int .u8 75] 5 (4,5)):=⟨_,rfl⟩
 have hsz4:W4.heap.size=w2.heap.size+2:=by rw[hW4];simp
 have hb4:Below (w2.alloc (.cells #[.slice none 0 0,.int .u32 0] 192)).heap.size (w2.alloc (.cells #[.slice none 0 0,.int .u32 0] 192)) W4:=by
  rw[hW4];exact brf.alloc nlr _
 have S4:=HS3.out.below hb4;have hs4:SlB W4 (w2.heap.size+2) (.slice (some ⟨w2.heap.size+1,0,none⟩) 4 4) Str.mark:=by
  have:=sl_litm (w2.alloc (.cells #[.slice none 0 0,.int .u32 0] 192)) Str.mark 5 (4,5) (by simp[Str.mark,maxLen]);rw[show(w2.alloc (.cells #[.slice none 0 0,.int .u32 0] 192)).heap.size=w2.heap.size+1 by simp] at this;rw[hW4];exact this
 rw[<-hW4];clear hW4 hb4 HS3 kc1;obtain⟨p,hp⟩:∃ p,p=w2.heap.size:=⟨_,rfl⟩
 rw[<-hp] at S4 hs4 hsz4 ⊢;clear hp;refine(write_any p _ _ [] Str.mark W4 S4.sm (fun w' hk=>(hs4.kept1 hk (by omega) ⟨by omega,by simp[Value.ownBlock]⟩).mono (by omega)) (by simp[Str.mark])).mono ?_;rintro e w5 ⟨⟨r5,rfl⟩,v5,S5,hb5,_⟩;have T5:=S4.step S5 hb5;rw[List.nil_append] at T5;obtain⟨c0,c1,c2⟩:=T5.cells;have HT5:=hid T5;clear S4 hs4 S5 hb5 T5 hsz4;have HHB:Hid (headB ⟨f,zn,l⟩=Str.mark++(le 1 (if f then 1 else 0)++(le 2 zn++le 2 l.length))):=rfl;have hl4:l.length<=4096:=(right_mem HR.out).2.2.1;have hz4:zn<=4096:=by have:=(right_mem HR.out).2.1;simp only at this;omega
 cases f
 ·go_wp2_with fail
  refine(snum' p v5 Str.mark 1 0 0 w5 rfl HT5.out.sm (by simp[Str.mark]) (by omega) (by omega) (by omega)).mono ?_;rintro e w6 ⟨rfl,v6,S6,hb6,_⟩;have T6:=HT5.out.step S6 hb6;clear c0 c1 c2 S6 hb6 HT5;obtain⟨c0,c1,c2⟩:=T6.cells;have HT6:=hid T6;clear T6
  go_wp2_with fail
  refine(snum' p v6 _ 2 zn zn w6 rfl HT6.out.sm (by simp[Str.mark,le_length]) (by omega) (by omega) (by omega)).mono ?_;rintro e w7 ⟨rfl,v7,S7,hb7,_⟩;have T7:=HT6.out.step S7 hb7;clear c0 c1 c2 S7 hb7 HT6;obtain⟨c0,c1,c2⟩:=T7.cells;have HT7:=hid T7;clear T7
  go_wp2_with fail
  refine(snum' p v7 _ 2 l.length l.length w7 rfl HT7.out.sm (by simp[Str.mark,le_length]) (by omega) (by omega) (by omega)).mono ?_;rintro e w8 ⟨rfl,v8,S8,hb8,_⟩;have T8:=HT7.out.step S8 hb8;rw[show((Str.mark++le 1 0)++le 2 zn)++le 2 l.length=headB ⟨false,zn,l⟩ by rw[HHB.out];simp] at T8;clear c0 c1 c2 S8 hb8 HT7;have HT8:=hid T8;obtain⟨c0,c1,c2⟩:=T8.cells;clear T8 HHB
  go_wp2_with fail
  clear c0 c1 c2
  go_loopw [34] (fun i wr=>∃ (k:Nat) (v:Value),k<=l.length/\i = .int .i64 k/\St w wr p ⟨false,zn,l⟩ sv v (headB ⟨false,zn,l⟩++(l.take k).flatMap recB)) (fun i _=>l.length-(intOf i).toNat)
  case atStart=>exact⟨0,v8,by omega,rfl,by simpa using HT8.out⟩
  case round =>
   obtain⟨k,v,hk,rfl,hst⟩:=hrel;clear HT8;by_cases hlt:k<l.length
   ·obtain⟨b,o,dv,hbb,hia,d0,d1,hs⟩:=(H.out.below hst.bel nlr).at k hlt;have hmem:l.getD k default∈l:=by rw[List.getD_eq_getElem?_getD,List.getElem?_eq_getElem hlt];exact List.getElem_mem _
    have hrm:=(right_mem HR.out).2.2.2.2 _ hmem;have HFT:=hid (flat_take l k hlt);have hpl:=part_len HR.out k;simp only at hpl;obtain⟨r,hr⟩:∃ r,r=l.getD k default:=⟨_,rfl⟩
    rw[<-hr] at d0 hs hrm HFT;clear hr hmem;obtain⟨at_,dat⟩:=r;obtain⟨an,rfl⟩:∃ n:Nat,at_=n:=Int.eq_ofNat_of_zero_le hrm.1;simp only at d0 hs hrm;have hn:(Rec.mk (an:Int) dat).n=dat.length/16:=rfl;have hrb:recB ⟨(an:Int),dat⟩=le 2 an++(le 2 (dat.length/16)++(dat++le 4 (sum dat).toNat)):=rfl;rw[hn] at hrm;obtain⟨hr0,hr1,hr2,hr3,hr4⟩:=hrm;have hld:=fun w'=>hs.len (P:=prog) (ty:=3) underlying23 w';have hs0:=hs;obtain⟨oa,nn,cp,rfl⟩:∃ oa n c,dv = .slice oa n c:=by obtain⟨oa1,cp1,hv1,_⟩:=hs;exact⟨_,_,_,hv1⟩
    obtain⟨pre,hpre⟩:∃ pre,pre=headB ⟨false,zn,l⟩++(l.take k).flatMap recB:=⟨_,rfl⟩
    rw[<-hpre] at hst hpl;have HPRE:=hid hpre;have HRB:=hid hrb;obtain⟨q,hq⟩:∃ q,q=wr.heap.size:=⟨_,rfl⟩
    have hba:Below wr.heap.size wr (wr.alloc (.cells #[.int .i64 an,.slice oa nn cp] 98)):=brf.alloc nlr _;have U0:=hst.below hba;have hq0:(wr.alloc (.cells #[.int .i64 an,.slice oa nn cp] 98)).heap[q]? = some (.cells #[.int .i64 an,.slice oa nn cp] 98 (0,0)):=by rw[hq];exact alloc_new wr _
    have hvq:q≠p/\v.ownBlock≠some q:=⟨by have:=hst.sm.lt;omega,fun e=>by have:=hst.sm.own.lt q e;omega⟩
    have HS:=hid hs;have HU:=jd3 U0 hq0 hvq;clear hpre hrb hn hba U0 hq0 hvq hst hs hs0;have HQ:=hid hq;clear hq
    go_wp2_with fail
    refine(snum' p v pre 2 an an _ rfl HU.out.1.sm (by omega) (by omega) (by omega) (by omega)).mono ?_;rintro e y1 ⟨rfl,x1,S1,b1,k1⟩;have U1:=HU.out.1.step S1 b1;have q1:=(k1.block q (by have:=HQ.out;simp;omega) HU.out.2.2).trans HU.out.2.1;have n1:=S1.own.not_block q1 (by decide);have b1':Below p wr y1:=((Below.refl p wr).alloc (by have:=HU.out.1.sm.lt;simp at this;omega) _).trans b1;have f1:y1.cell? ⟨wr.heap.size,1,none⟩=some (.slice oa nn cp):=by rw[<-HQ.out];simp[World.cell?,q1]
    have HU1:=jd5 U1 q1 HU.out.2.2.1 n1 b1';clear HU S1 b1 k1 U1 q1 n1 b1' d0 d1 hia
    go_wp2_with fail
    refine(snum' p x1 _ 2 (dat.length/16) _ y1 (by omega) HU1.out.1.sm (by simp[le_length];omega) (by omega) (by omega) (by omega)).mono ?_;rintro e y2 ⟨rfl,x2,S2,b2,k2⟩;have U2:=HU1.out.1.step S2 b2;have hql:=HU1.out.2.1;have q2:=(k2.block q (Array.getElem?_eq_some_iff.1 hql).1 ⟨HU1.out.2.2.1,HU1.out.2.2.2.1⟩).trans HU1.out.2.1;have n2:=S2.own.not_block q2 (by decide);have b2':=HU1.out.2.2.2.2.trans b2;have f2:y2.cell? ⟨wr.heap.size,1,none⟩=some (.slice oa nn cp):=by rw[<-HQ.out];simp[World.cell?,q2]
    have HU2:=jd5 U2 q2 HU1.out.2.2.1 n2 b2';clear HU1 S2 b2 k2 U2 q2 n2 b2' hql f1
    go_wp2_with fail
    have hs2:SlB y2 w.heap.size (.slice oa nn cp) dat:=HS.out.below HU2.out.2.2.2.2 (Nat.le_of_lt HU2.out.1.lt);refine(write_any p x2 _ _ dat y2 HU2.out.1.sm (fun w' hk=>(hs2.kept HU2.out.1.bel.size hk fun k h=>⟨by have:=HU2.out.1.lt;omega,fun e=>by have:=(World.ownsRow.lt HU2.out.1.sm.own k e).1;have:=HU2.out.1.lt;omega⟩).mono HU2.out.1.bel.size) (by simp[le_length];omega)).mono ?_;rintro e y3 ⟨⟨r3,rfl⟩,x3,S3,b3,k3⟩;have U3:=HU2.out.1.step S3 b3;have hql:=HU2.out.2.1;have q3:=(k3.block q (Array.getElem?_eq_some_iff.1 hql).1 ⟨HU2.out.2.2.1,HU2.out.2.2.2.1⟩).trans HU2.out.2.1;have b3':=HU2.out.2.2.2.2.trans b3;have f3:y3.cell? ⟨wr.heap.size,1,none⟩=some (.slice oa nn cp):=by rw[<-HQ.out];simp[World.cell?,q3]
    have HU3:=jd2 U3 b3';clear HU2 S3 b3 k3 U3 q3 b3' hql f2 hs2
    go_wp2_with fail
    have hs3:SlB y3 w.heap.size (.slice oa nn cp) dat:=HS.out.below HU3.out.2 (Nat.le_of_lt HU3.out.1.lt);refine(sum_any dat _ y3 (hs3.mono HU3.out.1.bel.size) (by omega)).mono ?_;rintro e y4 ⟨rfl,b4⟩;have hsl:=(sum dat).isLt;have HU4:=hid (HU3.out.1.below b4);clear b4 HU3 f3 hs3
    go_wp2_with fail
    refine(snum' p x3 _ 4 (sum dat).toNat _ y4 (by rfl) HU4.out.sm (by simp[le_length];omega) (by omega) (by omega) (by omega)).mono ?_;rintro e y5 ⟨rfl,x5,S5,b5,_⟩;have U5:=HU4.out.step S5 b5;have ebs:(((pre++le 2 an)++le 2 (dat.length/16))++dat)++le 4 (sum dat).toNat=headB ⟨false,zn,l⟩++(l.take (k+1)).flatMap recB:=by
     rw[HFT.out,HRB.out,HPRE.out];simp
    rw[ebs] at U5;clear S5 b5 HU4 ebs hsl
    go_wp2_with fail
    go_roundw
    case rel=>exact⟨k+1,x5,by omega,by go_num,U5⟩
    case measure=>simp[intOf];omega
   ·obtain rfl:k=l.length:=by omega
    rw[List.take_length] at hst;have HBL:=hid (show(putB ⟨false,zn,l⟩).length<=98317 from putB_short HR.out);have HPB:=hid (show putB ⟨false,zn,l⟩=(headB ⟨false,zn,l⟩++l.flatMap recB)++le 4 (sum (headB ⟨false,zn,l⟩++l.flatMap recB)).toNat from rfl);obtain⟨pre,hpre⟩:∃ pre,pre=headB ⟨false,zn,l⟩++l.flatMap recB:=⟨_,rfl⟩
    rw[<-hpre] at hst HPB;have hpl:pre.length<=98317:=by have:=HBL.out;rw[HPB.out,List.length_append] at this;omega
    obtain⟨pb,hpb⟩:∃ pb,pb=putB ⟨false,zn,l⟩:=⟨_,rfl⟩
    rw[<-hpb] at HPB HBL;have HPB0:=hid hpb;have hsl:=(sum pre).isLt;obtain⟨c0,c1,fz⟩:=hst.sm.cells;have HST:=hid hst;clear hst hpre hpb fz
    go_wp2_with fail
    refine(snum' p v _ 4 (sum pre).toNat _ wr (by rfl) HST.out.sm (by omega) (by omega) (by omega) (by omega)).mono ?_;rintro e y1 ⟨rfl,x1,S1,b1,_⟩;rw[<-HPB.out] at S1;clear c0 c1;obtain⟨c0,c1,fz⟩:=S1.cells;have hlx:=fun w'=>S1.own.slB.len (P:=prog) (ty:=3) underlying23 w';have hpbl:=HBL.out;have HE:=jd2 (S1.own.any_base (base':=w.heap.size) (by have:=HST.out.lt;omega)) (HST.out.bel.trans (b1.mono (Nat.le_of_lt HST.out.lt)));clear S1 b1 HST fz c1
    go_wp2_with fail
    go_ret2
    exact⟨_,rfl,HPB0.out▸HE.out.1,HE.out.2⟩
 ·go_wp2_with fail
  refine(snum' p v5 Str.mark 1 1 1 w5 rfl HT5.out.sm (by simp[Str.mark]) (by omega) (by omega) (by omega)).mono ?_;rintro e w6 ⟨rfl,v6,S6,hb6,_⟩;have T6:=HT5.out.step S6 hb6;clear c0 c1 c2 S6 hb6 HT5;obtain⟨c0,c1,c2⟩:=T6.cells;have HT6:=hid T6;clear T6
  go_wp2_with fail
  refine(snum' p v6 _ 2 zn zn w6 rfl HT6.out.sm (by simp[Str.mark,le_length]) (by omega) (by omega) (by omega)).mono ?_;rintro e w7 ⟨rfl,v7,S7,hb7,_⟩;have T7:=HT6.out.step S7 hb7;clear c0 c1 c2 S7 hb7 HT6;obtain⟨c0,c1,c2⟩:=T7.cells;have HT7:=hid T7;clear T7
  go_wp2_with fail
  refine(snum' p v7 _ 2 l.length l.length w7 rfl HT7.out.sm (by simp[Str.mark,le_length]) (by omega) (by omega) (by omega)).mono ?_;rintro e w8 ⟨rfl,v8,S8,hb8,_⟩;have T8:=HT7.out.step S8 hb8;rw[show((Str.mark++le 1 1)++le 2 zn)++le 2 l.length=headB ⟨true,zn,l⟩ by rw[HHB.out];simp] at T8;clear c0 c1 c2 S8 hb8 HT7;have HT8:=hid T8;obtain⟨c0,c1,c2⟩:=T8.cells;clear T8 HHB
  go_wp2_with fail
  clear c0 c1 c2
  go_loopw [34] (fun i wr=>∃ (k:Nat) (v:Value),k<=l.length/\i = .int .i64 k/\St w wr p ⟨true,zn,l⟩ sv v (headB ⟨true,zn,l⟩++(l.take k).flatMap recB)) (fun i _=>l.length-(intOf i).toNat)
  case atStart=>exact⟨0,v8,by omega,rfl,by simpa using HT8.out⟩
  case round =>
   obtain⟨k,v,hk,rfl,hst⟩:=hrel;clear HT8;by_cases hlt:k<l.length
   ·obtain⟨b,o,dv,hbb,hia,d0,d1,hs⟩:=(H.out.below hst.bel nlr).at k hlt;have hmem:l.getD k default∈l:=by rw[List.getD_eq_getElem?_getD,List.getElem?_eq_getElem hlt];exact List.getElem_mem _
    have hrm:=(right_mem HR.out).2.2.2.2 _ hmem;have HFT:=hid (flat_take l k hlt);have hpl:=part_len HR.out k;simp only at hpl;obtain⟨r,hr⟩:∃ r,r=l.getD k default:=⟨_,rfl⟩
    rw[<-hr] at d0 hs hrm HFT;clear hr hmem;obtain⟨at_,dat⟩:=r;obtain⟨an,rfl⟩:∃ n:Nat,at_=n:=Int.eq_ofNat_of_zero_le hrm.1;simp only at d0 hs hrm;have hn:(Rec.mk (an:Int) dat).n=dat.length/16:=rfl;have hrb:recB ⟨(an:Int),dat⟩=le 2 an++(le 2 (dat.length/16)++(dat++le 4 (sum dat).toNat)):=rfl;rw[hn] at hrm;obtain⟨hr0,hr1,hr2,hr3,hr4⟩:=hrm;have hld:=fun w'=>hs.len (P:=prog) (ty:=3) underlying23 w';have hs0:=hs;obtain⟨oa,nn,cp,rfl⟩:∃ oa n c,dv = .slice oa n c:=by obtain⟨oa1,cp1,hv1,_⟩:=hs;exact⟨_,_,_,hv1⟩
    obtain⟨pre,hpre⟩:∃ pre,pre=headB ⟨true,zn,l⟩++(l.take k).flatMap recB:=⟨_,rfl⟩
    rw[<-hpre] at hst hpl;have HPRE:=hid hpre;have HRB:=hid hrb;obtain⟨q,hq⟩:∃ q,q=wr.heap.size:=⟨_,rfl⟩
    have hba:Below wr.heap.size wr (wr.alloc (.cells #[.int .i64 an,.slice oa nn cp] 98)):=brf.alloc nlr _;have U0:=hst.below hba;have hq0:(wr.alloc (.cells #[.int .i64 an,.slice oa nn cp] 98)).heap[q]? = some (.cells #[.int .i64 an,.slice oa nn cp] 98 (0,0)):=by rw[hq];exact alloc_new wr _
    have hvq:q≠p/\v.ownBlock≠some q:=⟨by have:=hst.sm.lt;omega,fun e=>by have:=hst.sm.own.lt q e;omega⟩
    have HS:=hid hs;have HU:=jd3 U0 hq0 hvq;clear hpre hrb hn hba U0 hq0 hvq hst hs hs0;have HQ:=hid hq;clear hq
    go_wp2_with fail
    refine(snum' p v pre 2 an an _ rfl HU.out.1.sm (by omega) (by omega) (by omega) (by omega)).mono ?_;rintro e y1 ⟨rfl,x1,S1,b1,k1⟩;have U1:=HU.out.1.step S1 b1;have q1:=(k1.block q (by have:=HQ.out;simp;omega) HU.out.2.2).trans HU.out.2.1;have n1:=S1.own.not_block q1 (by decide);have b1':Below p wr y1:=((Below.refl p wr).alloc (by have:=HU.out.1.sm.lt;simp at this;omega) _).trans b1;have f1:y1.cell? ⟨wr.heap.size,1,none⟩=some (.slice oa nn cp):=by rw[<-HQ.out];simp[World.cell?,q1]
    have HU1:=jd5 U1 q1 HU.out.2.2.1 n1 b1';clear HU S1 b1 k1 U1 q1 n1 b1' d0 d1 hia
    go_wp2_with fail
    refine(snum' p x1 _ 2 (dat.length/16) _ y1 (by omega) HU1.out.1.sm (by simp[le_length];omega) (by omega) (by omega) (by omega)).mono ?_;rintro e y2 ⟨rfl,x2,S2,b2,k2⟩;have U2:=HU1.out.1.step S2 b2;have hql:=HU1.out.2.1;have q2:=(k2.block q (Array.getElem?_eq_some_iff.1 hql).1 ⟨HU1.out.2.2.1,HU1.out.2.2.2.1⟩).trans HU1.out.2.1;have n2:=S2.own.not_block q2 (by decide);have b2':=HU1.out.2.2.2.2.trans b2;have f2:y2.cell? ⟨wr.heap.size,1,none⟩=some (.slice oa nn cp):=by rw[<-HQ.out];simp[World.cell?,q2]
    have HU2:=jd5 U2 q2 HU1.out.2.2.1 n2 b2';clear HU1 S2 b2 k2 U2 q2 n2 b2' hql f1
    go_wp2_with fail
    have hs2:SlB y2 w.heap.size (.slice oa nn cp) dat:=HS.out.below HU2.out.2.2.2.2 (Nat.le_of_lt HU2.out.1.lt);refine(write_any p x2 _ _ dat y2 HU2.out.1.sm (fun w' hk=>(hs2.kept HU2.out.1.bel.size hk fun k h=>⟨by have:=HU2.out.1.lt;omega,fun e=>by have:=(World.ownsRow.lt HU2.out.1.sm.own k e).1;have:=HU2.out.1.lt;omega⟩).mono HU2.out.1.bel.size) (by simp[le_length];omega)).mono ?_;rintro e y3 ⟨⟨r3,rfl⟩,x3,S3,b3,k3⟩;have U3:=HU2.out.1.step S3 b3;have hql:=HU2.out.2.1;have q3:=(k3.block q (Array.getElem?_eq_some_iff.1 hql).1 ⟨HU2.out.2.2.1,HU2.out.2.2.2.1⟩).trans HU2.out.2.1;have b3':=HU2.out.2.2.2.2.trans b3;have f3:y3.cell? ⟨wr.heap.size,1,none⟩=some (.slice oa nn cp):=by rw[<-HQ.out];simp[World.cell?,q3]
    have HU3:=jd2 U3 b3';clear HU2 S3 b3 k3 U3 q3 b3' hql f2 hs2
    go_wp2_with fail
    have hs3:SlB y3 w.heap.size (.slice oa nn cp) dat:=HS.out.below HU3.out.2 (Nat.le_of_lt HU3.out.1.lt);refine(sum_any dat _ y3 (hs3.mono HU3.out.1.bel.size) (by omega)).mono ?_;rintro e y4 ⟨rfl,b4⟩;have hsl:=(sum dat).isLt;have HU4:=hid (HU3.out.1.below b4);clear b4 HU3 f3 hs3
    go_wp2_with fail
    refine(snum' p x3 _ 4 (sum dat).toNat _ y4 (by rfl) HU4.out.sm (by simp[le_length];omega) (by omega) (by omega) (by omega)).mono ?_;rintro e y5 ⟨rfl,x5,S5,b5,_⟩;have U5:=HU4.out.step S5 b5;have ebs:(((pre++le 2 an)++le 2 (dat.length/16))++dat)++le 4 (sum dat).toNat=headB ⟨true,zn,l⟩++(l.take (k+1)).flatMap recB:=by
     rw[HFT.out,HRB.out,HPRE.out];simp
    rw[ebs] at U5;clear S5 b5 HU4 ebs hsl
    go_wp2_with fail
    go_roundw
    case rel=>exact⟨k+1,x5,by omega,by go_num,U5⟩
    case measure=>simp[intOf];omega
   ·obtain rfl:k=l.length:=by omega
    rw[List.take_length] at hst;have HBL:=hid (show(putB ⟨true,zn,l⟩).length<=98317 from putB_short HR.out);have HPB:=hid (show putB ⟨true,zn,l⟩=(headB ⟨true,zn,l⟩++l.flatMap recB)++le 4 (sum (headB ⟨true,zn,l⟩++l.flatMap recB)).toNat from rfl);obtain⟨pre,hpre⟩:∃ pre,pre=headB ⟨true,zn,l⟩++l.flatMap recB:=⟨_,rfl⟩
    rw[<-hpre] at hst HPB;have hpl:pre.length<=98317:=by have:=HBL.out;rw[HPB.out,List.length_append] at this;omega
    obtain⟨pb,hpb⟩:∃ pb,pb=putB ⟨true,zn,l⟩:=⟨_,rfl⟩
    rw[<-hpb] at HPB HBL;have HPB0:=hid hpb;have hsl:=(sum pre).isLt;obtain⟨c0,c1,fz⟩:=hst.sm.cells;have HST:=hid hst;clear hst hpre hpb fz
    go_wp2_with fail
    refine(snum' p v _ 4 (sum pre).toNat _ wr (by rfl) HST.out.sm (by omega) (by omega) (by omega) (by omega)).mono ?_;rintro e y1 ⟨rfl,x1,S1,b1,_⟩;rw[<-HPB.out] at S1;clear c0 c1;obtain⟨c0,c1,fz⟩:=S1.cells;have hlx:=fun w'=>S1.own.slB.len (P:=prog) (ty:=3) underlying23 w';have hpbl:=HBL.out;have HE:=jd2 (S1.own.any_base (base':=w.heap.size) (by have:=HST.out.lt;omega)) (HST.out.bel.trans (b1.mono (Nat.le_of_lt HST.out.lt)));clear S1 b1 HST fz c1
    go_wp2_with fail
    go_ret2
    exact⟨_,rfl,HPB0.out▸HE.out.1,HE.out.2⟩
end Go.Proofs.YtgkabcaodnofnaaGreat.Sb
