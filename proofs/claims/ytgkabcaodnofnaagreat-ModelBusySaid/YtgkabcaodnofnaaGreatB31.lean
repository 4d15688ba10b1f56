import Derived.Test.YtgkabcaodnofnaaGreatB30
import Derived.Test.YtgkabcaodnofnaaGreatB01
import Derived.Test.YtgkabcaodnofnaaGreatB02
set_option linter.unusedSimpArgs false
set_option linter.unusedVariables false
set_option maxRecDepth 100000
set_option maxHeartbeats 2000000
open Go.Proofs.Tryz
namespace Go.Proofs.YtgkabcaodnofnaaGreat.Sb
open Go.RowKit Go.Mx Go.Crc
theorem xor_u8 (c:BitVec 32)(x:UInt8):bits .xor .u32 (c.toNat:Int) (x.toNat:Int)=((c ^^^ z8 x).toNat:Int):=by
 have h:=x.toNat_lt;have e:(x.toNat:Int)=((z8 x).toNat:Int):=by
  unfold z8;rw[BitVec.toNat_ofNat];omega
 rw[e,xor_u32]
theorem word_step (c:BitVec 32):bits .xor .u32 ((tab (c.toNat%16)).toNat:Int) ((c.toNat:Int)/(16:Int))=((stpN 4 c).toNat:Int):=by
 have e1:(c.toNat:Int)/(16:Int)=((c >>> 4).toNat:Int):=by
  rw[BitVec.toNat_ushiftRight,Nat.shiftRight_eq_div_pow];simp
 rw[e1,xor_u32]
 conv=>rhs;rw[stp4]
 have e2:tab (c.toNat%16)=stpN 4 (c &&& 15#32):=by
  unfold tab
  congr 1
  apply BitVec.eq_of_toNat_eq;rw[BitVec.toNat_and,BitVec.toNat_ofNat,Nat.mod_eq_of_lt (by omega)];exact(Nat.and_two_pow_sub_one_eq_mod c.toNat 4).symm
 rw[e2]
theorem crcB_two (c:BitVec 32)(x:UInt8):stpN 4 (stpN 4 (c ^^^ z8 x))=crcB c x:=by
 unfold crcB;rw[<-stpN_add]
theorem RdB.grown {w w':World}{b o r:Nat}{bs:List UInt8}(h:RdB w b o bs)(hg:w.grownBy w' (some r))(hr:b≠r):RdB w' b o bs :=
 fun i hi=>hg.cell (h i hi) (by simp;omega)
theorem below_grown {B b:Nat}{a w w':World}(h:Below B a w)(hg:w.grownBy w' (some b))(hb:B<=b)(hB:B<=w.heap.size):Below B a w' :=
 h.grown hg hB (fun k hk=>by cases hk;exact hb)
theorem cells_new (w:World)(n:Nat)(c:Array Value)(e:TypeId)(i:Nat):(w.alloc (.cells c e)).cell? ⟨w.heap.size,i,none⟩=c[i]? := World.cell?_alloc_at c e w.heap.size i rfl
theorem not_u32 (c:BitVec 32):bits .xor .u32 IntKind.u32.max (c.toNat:Int)=((~~~ c).toNat:Int):=by
 have e:IntKind.u32.max=((4294967295#32:BitVec 32).toNat:Int):=by decide
 rw[e,xor_u32];rw[show(4294967295#32:BitVec 32)=BitVec.allOnes 32 by decide,BitVec.allOnes_xor]
def zcells:Array Value := #[.int .u32 0,.int .i32 0,.int .u32 0,.int .u32 0,.int .u32 0,.int .u32 0,.int .u32 0,.int .u32 0,.int .u32 0,.int .u32 0,.int .u32 0,.int .u32 0,.int .u32 0,.int .u32 0,.int .u32 0,.int .u32 0,.int .u32 0,.int .u32 0,.int .u32 0]
theorem tabOk_new (w:World):TabOk (w.alloc (.cells zcells 244)) w.heap.size:=by
 refine⟨⟨fun i hi=>?_,fun o=>World.frozen?_alloc_at zcells 244 w.heap.size o rfl⟩,?_,.inl ?_⟩
 ·rw[cells_new w w.heap.size];have:3+i<zcells.size:=by show 3+i<19;omega
  exact⟨_,Array.getElem?_eq_getElem this⟩
 ·rw[cells_new w w.heap.size];rfl
 ·rw[cells_new w w.heap.size];rfl
theorem TabOk.below {w w':World}{b B:Nat}(h:TabOk w b)(hb:Below B w w')(hB:b<B):TabOk w' b:=by
 have hc:∀ i,w'.cell? ⟨b,i,none⟩=w.cell? ⟨b,i,none⟩:=fun i=>hb.cell (p:=⟨b,i,none⟩) hB;refine⟨⟨fun i hi=>by rw[hc];exact h.room.ent i hi,fun o=>by rw[hb.frozen (p:=⟨b,o,none⟩) hB];exact h.room.fz o⟩,by rw[hc];exact h.mu,?_⟩;rw[hc];exact h.once.imp id fun⟨x,y⟩=>⟨x,fun i hi=>by rw[hc];exact y i hi⟩
theorem more_any (s:BitVec 32)(bs:List UInt8)(bv:Value)(w:World)(hb:SlB w w.heap.size bv bs)(hlen:bs.length<=1000000000) :
  Calls prog 160 #[.int .u32 s.toNat,bv] w fun e w'=>e = .returned (.int .u32 (more s bs).toNat)/\Below w.heap.size w w':=by
 obtain⟨oa,cap,rfl,h1,h2,h3⟩:=hb;have H3:=hid h3;clear h3;obtain⟨R,hR⟩:∃ R,R=more s bs:=⟨_,rfl⟩
 rw[<-hR];obtain⟨c0,hc0⟩:∃ c0,c0 = ~~~ s:=⟨_,rfl⟩
 have hns:=not_u32 s;rw[<-hc0] at hns;have HR:Hid (R = ~~~ (crcL c0 bs)):=by unfold Hid;rw[hR,hc0];rfl
 clear hR hc0;have hsl:=s.isLt;go_enter func160,ntmps160
 go_wp2
 have ht0:TabOk (w.alloc (.cells zcells 244)) w.heap.size:=tabOk_new w;have hb0:Below w.heap.size w (w.alloc (.cells zcells 244)):=brf.alloc nlr _;have hz0:w.heap.size<(w.alloc (.cells zcells 244)).heap.size:=by simp
 unfold zcells at ht0 hb0 hz0;obtain⟨w1,hw1⟩:∃ w1,w1=w.alloc (.cells #[.int .u32 0,.int .i32 0,.int .u32 0,.int .u32 0,.int .u32 0,.int .u32 0,.int .u32 0,.int .u32 0,.int .u32 0,.int .u32 0,.int .u32 0,.int .u32 0,.int .u32 0,.int .u32 0,.int .u32 0,.int .u32 0,.int .u32 0,.int .u32 0,.int .u32 0] 244):=⟨_,rfl⟩
 rw[<-hw1] at ht0 hb0 hz0 ⊢;clear hw1 hns
 go_loopw [6,13] (fun c i wr=>∃ (k:Nat) (d:BitVec 32),k<=bs.length/\i = .int .i64 k/\c = .int .u32 d.toNat/\TabOk wr w.heap.size/\Below w.heap.size w wr/\w.heap.size<wr.heap.size/\Hid (R = ~~~ (crcL d (bs.drop k))))
  (fun _ i _=>bs.length-(intOf i).toNat)
 case atStart=>exact⟨0,c0,by omega,rfl,rfl,ht0,hb0,hz0,by rw[List.drop_zero];exact HR⟩
 case round =>
  obtain⟨k,d,hk,rfl,rfl,htab,hbel,hz,HR2⟩:=hrel;clear ht0 hb0 hz0 HR;by_cases hlt:k<bs.length
  ·obtain⟨bb,bo,rfl,hbb,hrd⟩:=H3.out (by rintro rfl;simp at hlt);have hcell:=(hrd.below hbel hbb).at hlt;obtain⟨x,hx⟩:∃ x,x=bs.getD k 0:=⟨_,rfl⟩
   rw[<-hx] at hcell;have hR3:=HR2.out;rw[drop_getD bs k hlt,<-hx] at hR3;simp only[crcL,List.foldl_cons] at hR3;rw[<-crcB_two] at hR3;have HR3:=hid hR3;clear hR3 HR2 hx hrd;have hx1:=xor_u8 d x;have hxl:=x.toNat_lt;obtain⟨d1,hd1⟩:∃ d1,d1=d ^^^ z8 x:=⟨_,rfl⟩
   rw[<-hd1] at hx1 HR3;clear hd1;have hd1l:=d1.isLt
   go_wp2_with fail
   refine(word_any w.heap.size d1 _ hz htab).mono ?_;rintro e w2 ⟨rfl,htab2,hg2⟩;have hb2:=below_grown hbel hg2 nlr hbel.size;have hz2:=hg2.size;have hw1:=word_step d1;obtain⟨d2,hd2⟩:∃ d2,d2=stpN 4 d1:=⟨_,rfl⟩
   obtain⟨t1,htt1⟩:∃ t1,t1=tab (d1.toNat%16):=⟨_,rfl⟩
   rw[<-hd2] at hw1 HR3;rw[<-htt1] at hw1 ⊢;clear hd2 htt1 hcell hx1 hg2 htab hbel;have hd2l:=d2.isLt
   go_wp2_with fail
   refine(word_any w.heap.size d2 _ (by omega) htab2).mono ?_;rintro e w3 ⟨rfl,htab3,hg3⟩;have hb3:=below_grown hb2 hg3 nlr hb2.size;have hz3:=hg3.size;have hw2:=word_step d2;obtain⟨d3,hd3⟩:∃ d3,d3=stpN 4 d2:=⟨_,rfl⟩
   obtain⟨t2,htt2⟩:∃ t2,t2=tab (d2.toNat%16):=⟨_,rfl⟩
   rw[<-hd3] at hw2 HR3;rw[<-htt2] at hw2 ⊢;clear hd3 htt2 hw1 hg3 htab2 hb2
   go_wp2
   go_roundw
   case rel=>exact⟨k+1,d3,by omega,by go_num,rfl,htab3,hb3,by omega,HR3⟩
   case measure=>simp[intOf];omega
  ·have hR3:=HR2.out;rw[List.drop_eq_nil_of_le (by omega)] at hR3;have hR4:R = ~~~ d:=hR3;have hn:=not_u32 d;rw[<-hR4] at hn;clear hR3 HR2 hR4
   go_wp2
   go_ret
   exact⟨rfl,hbel⟩
theorem rmore_any (s:BitVec 32)(bs:List UInt8)(bv:Value)(w:World)(hb:SlB w w.heap.size bv bs)(hlen:bs.length<=1000000000) :
  Calls prog 69 #[.int .u32 s.toNat,bv] w fun e w'=>e = .returned (.int .u32 (more s bs).toNat)/\w=w':=by
 obtain⟨oa,cap,rfl,h1,h2,h3⟩:=hb;have H3:=hid h3;clear h3;obtain⟨R,hR⟩:∃ R,R=more s bs:=⟨_,rfl⟩
 rw[<-hR];obtain⟨c0,hc0⟩:∃ c0,c0 = ~~~ s:=⟨_,rfl⟩
 have hns:=not_u32 s;rw[<-hc0] at hns;have HR:Hid (R = ~~~ (crcL c0 bs)):=by unfold Hid;rw[hR,hc0];rfl
 clear hR hc0;have hsl:=s.isLt;go_enter func69,ntmps69
 go_wp2
 clear hns
 go_loop [5,6] (fun c i=>∃ (k:Nat) (d:BitVec 32),k<=bs.length/\i = .int .i64 k/\c = .int .u32 d.toNat/\Hid (R = ~~~ (crcL d (bs.drop k))))
  (fun _ i=>bs.length-(intOf i).toNat)
 case atStart=>exact⟨0,c0,by omega,rfl,rfl,by rw[List.drop_zero];exact HR⟩
 case round =>
  obtain⟨k,d,hk,rfl,rfl,HR2⟩:=hrel;clear HR;by_cases hlt:k<bs.length
  ·obtain⟨bb,bo,rfl,hbb,hrd⟩:=H3.out (by rintro rfl;simp at hlt);have hcell:=hrd.at hlt;obtain⟨x,hx⟩:∃ x,x=bs.getD k 0:=⟨_,rfl⟩
   rw[<-hx] at hcell;have hR3:=HR2.out;rw[drop_getD bs k hlt,<-hx] at hR3;simp only[crcL,List.foldl_cons,crcB] at hR3;clear HR2 hx hrd;have hx1:=xor_u8 d x;have hxl:=x.toNat_lt;obtain⟨d1,hd1⟩:∃ d1,d1=d ^^^ z8 x:=⟨_,rfl⟩
   rw[<-hd1] at hx1 hR3;have HR3:=hid hR3;clear hd1 hR3;have hd1l:=d1.isLt
   go_wp2
   clear hx1 hcell
   go_loop [5,7] (fun c i=>∃ (j:Nat) (g:BitVec 32),j<=8/\i = .int .i64 j/\c = .int .u32 g.toNat/\Hid (R = ~~~ (List.foldl (fun h b=>stpN 8 (h ^^^ z8 b)) (stpN (8-j) g) (bs.drop (k+1)))))
    (fun _ i=>8-(intOf i).toNat)
   case atStart=>exact⟨0,d1,by omega,rfl,rfl,HR3⟩
   case round =>
    obtain⟨j,g,hj,rfl,rfl,HT2⟩:=hrel;clear HR3 hd1l;by_cases hj8:j<8
    ·have hT3:=HT2.out;rw[show 8-j=(8-(j+1))+1 by omega,stpN] at hT3;have HT3:=hid hT3;clear hT3 HT2;have hdl:=g.isLt;cases hb:g.getLsbD 0
     ·have hm:=lsb_false g hb;have HS:=hid (stp_false g hb);clear hb
      go_wp2
      go_round
      case rel=>exact⟨j+1,stp g,by omega,by go_num,by rw[HS.out],HT3⟩
      case measure=>simp[intOf];omega
     ·have hm:=lsb_true g hb;have HS:=hid (stp_true g hb);clear hb
      go_wp2
      go_round
      case rel=>exact⟨j+1,stp g,by omega,by go_num,by rw[HS.out],HT3⟩
      case measure=>simp[intOf];omega
    ·obtain rfl:j=8:=by omega
     go_wp2
     go_round
     case rel=>exact⟨k+1,g,by omega,by go_num,rfl,HT2⟩
     case measure=>simp[intOf];omega
  ·have hR3:=HR2.out;rw[List.drop_eq_nil_of_le (by omega)] at hR3;have hR4:R = ~~~ d:=hR3;have hn:=not_u32 d;rw[<-hR4] at hn;clear hR3 HR2 hR4
   go_wp2
   go_ret
   exact⟨rfl,rfl⟩
theorem sum_any (bs:List UInt8)(bv:Value)(w:World)(hb:SlB w w.heap.size bv bs)(hlen:bs.length<=1000000000) :
  Calls prog 137 #[bv] w fun e w'=>e = .returned (.int .u32 (sum bs).toNat)/\Below w.heap.size w w':=by
 have hc:Calls prog 160 #[.int .u32 0,bv] w _:=more_any 0 bs bv w hb hlen;have HC:=hid hc;clear hc;go_enter func137,ntmps137
 go_wp2_with fail
 refine HC.out.mono ?_;rintro e w' ⟨rfl,hbel⟩
 go_wp2
 go_ret
 exact⟨rfl,hbel⟩
theorem rsum_any (bs:List UInt8)(bv:Value)(w:World)(hb:SlB w w.heap.size bv bs)(hlen:bs.length<=1000000000) :
  Calls prog 32 #[bv] w fun e w'=>e = .returned (.int .u32 (sum bs).toNat)/\w=w':=by
 have hc:Calls prog 69 #[.int .u32 0,bv] w _:=rmore_any 0 bs bv w hb hlen;have HC:=hid hc;clear hc;go_enter func32,ntmps32
 go_wp2_with fail
 refine HC.out.mono ?_;rintro e w' ⟨rfl,rfl⟩
 go_wp2
 go_ret
 exact⟨rfl,rfl⟩
end Go.Proofs.YtgkabcaodnofnaaGreat.Sb
namespace Go.Str
open Go.Crc
def le (n:Nat)(v:Nat):List UInt8:=(List.range n).map fun i=>UInt8.ofNat (v/256^i)
theorem le_succ (n v:Nat):le (n+1) v=le n v++[UInt8.ofNat (v/256^n)]:=by simp[le,List.range_succ]
theorem le_length (n v:Nat):(le n v).length=n:=by simp[le]
def deL:List UInt8->Nat
 | []=>0
 | x :: r=>x.toNat+256*deL r
theorem deL_lt:∀ l:List UInt8,deL l<256^l.length
 | []=>by simp[deL]
 | x :: r=>by
  have:=deL_lt r;have hx:=x.toNat_lt;simp only[deL,List.length_cons,Nat.pow_succ];omega
abbrev Par (α:Type):=List UInt8->Option (α×List UInt8)
def Ok {α:Type}(p:Par α):Prop:=∀ l x r,p l=some (x,r)->∃ c,l=c++r/\∀ q,p (c++q)=some (x,q)
def pbind {α β:Type}(p:Par α)(f:α->Par β):Par β:=fun l=>match p l with|none=>none|some (x,r)=>f x r
def pret {α:Type}(x:α):Par α:=fun l=>some (x,l)
theorem Ok.bind {α β:Type}{p:Par α}{f:α->Par β}(h:Ok p)(hf:∀ x,Ok (f x)):Ok (pbind p f):=by
 intro l x r e;unfold pbind at e;split at e
 ·cases e
 ·rename_i y r' hp;obtain⟨c,rfl,hc⟩:=h l y r' hp;obtain⟨d,rfl,hd⟩:=hf y r' x r e;refine⟨c++d,by simp,fun q=>?_⟩;unfold pbind;rw[List.append_assoc,hc];exact hd q
theorem Ok.ret {α:Type}(x:α):Ok (pret x):=by
 intro l y r e;unfold pret at e;cases e
 exact⟨[],rfl,fun q=>rfl⟩
def pTake (n:Nat):Par (List UInt8):=fun l=>if n<=l.length then some (l.take n,l.drop n) else none
def pNum (n:Nat):Par Nat:=fun l=>if n<=l.length then some (deL (l.take n),l.drop n) else none
theorem Ok.take (n:Nat):Ok (pTake n):=by
 intro l x r e;unfold pTake at e;split at e
 ·rename_i h;cases e
  refine⟨l.take n,(List.take_append_drop n l).symm,fun q=>?_⟩;unfold pTake;have:(l.take n).length=n:=by simp;omega
  rw[if_pos (by simp;omega),List.take_left' this,List.drop_left' this]
 ·cases e
theorem Ok.num (n:Nat):Ok (pNum n):=by
 intro l x r e;unfold pNum at e;split at e
 ·rename_i h;cases e
  refine⟨l.take n,(List.take_append_drop n l).symm,fun q=>?_⟩;unfold pNum;have:(l.take n).length=n:=by simp;omega
  rw[if_pos (by simp;omega),List.take_left' this,List.drop_left' this]
 ·cases e
structure Rec where
 at_:Int
 data:List UInt8
instance:Inhabited Rec:=⟨⟨0,[]⟩⟩
structure Strm where
 full:Bool
 size:Int
 recs:List Rec
instance:Inhabited Strm:=⟨⟨false,0,[]⟩⟩
def Rec.n (r:Rec):Nat:=r.data.length/16
def okR (size last:Int)(r:Rec):Bool:=decide (1<=r.n)&&decide (r.data.length%16=0)&&decide (last<=r.at_)&&decide (r.at_<=size)&&decide ((r.n:Int)<=size-r.at_)
def rightFrom (size:Int):Int->List Rec->Bool
 | _,[]=>true
 | last,r :: rs=>okR size last r&&rightFrom size (r.at_+r.n) rs
def right (s:Strm):Bool:=decide (0<=s.size/\s.size<=4096)&&rightFrom s.size 0 s.recs
def recB (r:Rec):List UInt8:=le 2 r.at_.toNat++(le 2 r.n++(r.data++le 4 (sum r.data).toNat))
def mark:List UInt8:=[77,84,82,75]
def headB (s:Strm):List UInt8:=mark++(le 1 (if s.full then 1 else 0)++(le 2 s.size.toNat++le 2 s.recs.length))
def bodyB (s:Strm):List UInt8:=headB s++s.recs.flatMap recB
def putB (s:Strm):List UInt8:=bodyB s++le 4 (sum (bodyB s)).toNat
theorem okR_iff (size last:Int)(r:Rec):okR size last r=true↔1<=r.n/\r.data.length%16=0/\last<=r.at_/\r.at_<=size/\(r.n:Int)<=size-r.at_:=by
 simp[okR];constructor
 ·rintro⟨⟨⟨⟨a,b⟩,c⟩,d⟩,e⟩;exact⟨a,b,c,d,e⟩
 ·rintro⟨a,b,c,d,e⟩;exact⟨⟨⟨⟨a,b⟩,c⟩,d⟩,e⟩
theorem rightFrom_mem (size:Int):∀ (l:List Rec) (last:Int),0<=last->rightFrom size last l=true->∀ r∈l,0<=r.at_/\r.at_<=size/\r.data.length%16=0/\1<=r.n/\(r.n:Int)<=size
 | [],_,_,_,r,hr=>absurd hr (by simp)
 | x :: l,last,h0,h,r,hr=>by
  rw[rightFrom,Bool.and_eq_true] at h;have hx:=(okR_iff _ _ _).1 h.1;rcases List.mem_cons.1 hr with rfl|hr
  ·exact⟨by omega,hx.2.2.2.1,hx.2.1,hx.1,by omega⟩
  ·exact rightFrom_mem size l _ (by omega) h.2 r hr
theorem rightFrom_len (size:Int):∀ (l:List Rec) (last:Int),last<=size->rightFrom size last l=true->(l.length:Int)<=size-last/\(((l.flatMap fun r=>r.data).length:Nat):Int)<=16*(size-last)
 | [],last,h,_=>by simp;omega
 | x :: l,last,h0,h=>by
  rw[rightFrom,Bool.and_eq_true] at h;have hx:=(okR_iff _ _ _).1 h.1;have:=rightFrom_len size l (x.at_+x.n) (by omega) h.2;have hn:x.data.length=16*x.n:=by unfold Rec.n;omega
  simp only[List.length_cons,List.flatMap_cons,List.length_append];omega
theorem right_mem {s:Strm}(h:right s=true):0<=s.size/\s.size<=4096/\s.recs.length<=4096/\(s.recs.flatMap fun r=>r.data).length<=65536/\∀ r∈s.recs,0<=r.at_/\r.at_<=4096/\r.data.length%16=0/\1<=r.n/\r.n<=4096:=by
 rw[right,Bool.and_eq_true,decide_eq_true_eq] at h;obtain⟨⟨h1,h2⟩,h3⟩:=h;have:=rightFrom_len s.size s.recs 0 h1 h3;refine⟨h1,h2,by omega,by omega,fun r hr=>?_⟩;have:=rightFrom_mem s.size s.recs 0 (by omega) h3 r hr;exact⟨this.1,by omega,this.2.2.1,this.2.2.2.1,by omega⟩
theorem recB_length (r:Rec):(recB r).length=8+r.data.length:=by simp[recB,le_length];omega
theorem flat_len:∀ l:List Rec,(l.flatMap recB).length=8*l.length+(l.flatMap fun r=>r.data).length
 | []=>rfl
 | x :: l=>by simp only[List.flatMap_cons,List.length_append,flat_len l,recB_length,List.length_cons];omega
theorem headB_length (s:Strm):(headB s).length=9:=by simp[headB,mark,le_length]
theorem putB_length (s:Strm):(putB s).length=13+(8*s.recs.length+(s.recs.flatMap fun r=>r.data).length):=by
 simp only[putB,bodyB,List.length_append,headB_length,flat_len,le_length];omega
theorem putB_short {s:Strm}(h:right s=true):(putB s).length<=98317:=by
 have:=right_mem h;rw[putB_length];omega
/- reading -/
def pRec:Par (Rec×Nat):=pbind (pNum 2) fun a=>pbind (pNum 2) fun k=>pbind (pTake (k*16)) fun d=>pbind (pNum 4) fun c=>pret (⟨a,d⟩,c)
def pRecs:Nat->Par (List (Rec×Nat))
 | 0=>pret []
 | n+1=>pbind pRec fun x=>pbind (pRecs n) fun xs=>pret (x :: xs)
structure Raw where
 full:Nat
 size:Nat
 recs:List (Rec×Nat)
 last:Nat
def pMark:Par Unit:=pbind (pTake 4) fun m=>if m=mark then pret () else fun _=>none
def pAll:Par Raw:=pbind pMark fun _=>pbind (pNum 1) fun f=>pbind (pNum 2) fun z=>pbind (pNum 2) fun n=>pbind (pRecs n) fun l=>pbind (pNum 4) fun c=>pret ⟨f,z,l,c⟩
theorem okNone {α:Type}:Ok (fun _=>none:Par α):=fun _ _ _ e=>by cases e
theorem pRec_ok:Ok pRec:=(Ok.num 2).bind fun _=>(Ok.num 2).bind fun _=>(Ok.take _).bind fun _=>(Ok.num 4).bind fun _=>Ok.ret _
theorem pRecs_ok:∀ n,Ok (pRecs n)
 | 0=>Ok.ret _
 | n+1=>pRec_ok.bind fun _=>(pRecs_ok n).bind fun _=>Ok.ret _
theorem pMark_ok:Ok pMark:=(Ok.take 4).bind fun m=>by
 by_cases h:m=mark
 ·simp only[h,if_true];exact Ok.ret _
 ·simp only[h,if_false];exact okNone
def Raw.strm (x:Raw):Strm:=⟨x.full==1,x.size,x.recs.map (·.1)⟩
def Raw.sums (x:Raw):Bool:=x.recs.all fun r=>decide ((sum r.1.data).toNat=r.2)
def formB (b:List UInt8):Option Raw:=match pAll b with
 | some (x,[])=>if x.full<=1/\right x.strm=true/\b.length<=262144 then some x else none
 | _=>none
def getB (b:List UInt8):Strm×Nat:=match formB b with
 | none=>(⟨false,0,[]⟩,3)
 | some x=>if x.sums=true/\(sum (b.take (b.length-4))).toNat=x.last then(x.strm,0) else(⟨false,0,[]⟩,13)
theorem pbind_eq {α β:Type}{p:Par α}{f:α->Par β}{l:List UInt8}{x:α}{r:List UInt8}(h:p l=some (x,r)):pbind p f l=f x r:=by unfold pbind;rw[h]
def Fit (r:Rec):Prop:=0<=r.at_/\r.at_<65536/\r.data.length%16=0/\r.n<65536
theorem pAll_last (b:List UInt8)(x:Raw)(h:pAll b=some (x,[])):4<=b.length/\x.last=deL (b.drop (b.length-4)):=by
 have key:∀ (p:Par (Nat×Nat×List (Rec×Nat))) (hp:Ok p),pbind p (fun y=>pbind (pNum 4) fun c=>pret ⟨y.1,y.2.1,y.2.2,c⟩) b=some (x,[])->4<=b.length/\x.last=deL (b.drop (b.length-4)):=by
  clear h;intro p hp h5;unfold pbind at h5;split at h5
  ·cases h5
  ·rename_i y r hy;obtain⟨c,rfl,_⟩:=hp _ _ _ hy;unfold pNum at h5;simp only at h5;split at h5
   ·cases h5
   ·rename_i z r' hz;split at hz
    ·rename_i h4;cases hz
     unfold pret at h5;simp only[Option.some.injEq,Prod.mk.injEq] at h5;obtain⟨rfl,hd⟩:=h5;have hl:r.length=4:=by have:=congrArg List.length hd;simp at this;omega
     refine⟨by simp;omega,?_⟩;have e:(c++r).length-4=c.length:=by simp;omega
     rw[e,List.drop_left' rfl];rw[List.take_of_length_le (by omega)]
    ·cases hz
 refine key (pbind pMark fun _=>pbind (pNum 1) fun f=>pbind (pNum 2) fun z=>pbind (pNum 2) fun n=>pbind (pRecs n) fun l=>pret (f,z,l)) ?_ ?_
 ·exact pMark_ok.bind fun _=>(Ok.num 1).bind fun _=>(Ok.num 2).bind fun _=>(Ok.num 2).bind fun n=>(pRecs_ok n).bind fun _=>Ok.ret _
 ·rw[<-h];have assoc:∀ {α β γ:Type} (p:Par α) (f:α->Par β) (g:β->Par γ),pbind (pbind p f) g=pbind p fun x=>pbind (f x) g:=by
   intro α β γ p f g;funext l;unfold pbind;cases p l<;>rfl
  have unit:∀ {α β:Type} (x:α) (f:α->Par β),pbind (pret x) f=f x:=by intro α β x f;rfl
  unfold pAll;simp only[assoc,unit]
end Go.Str
namespace Go.Proofs.YtgkabcaodnofnaaGreat.Sb
open Go.RowKit Go.Mx Go.Crc Go.Str
theorem Tryz.info5:(prog.info? 5).map (fun i=>(i.zero,i.size,i.bytes))=some (some (.int .u8 0),1,1):=by kernel_rfl
theorem make_empty {P:Program}(w:World){ops:Array Oper}{rest:List Oper}{o:Oper}{a:Act}{Q:Exit->Act->World->Prop}(hg:o.guard=none)(l c:Operand)(t e:TypeId)
  (hop:o.op=Op.makeSlice t l c) (ht:P.underlying t=some (.slice e)) (hi:(P.info? e).map (fun i=>(i.zero,i.size,i.bytes))=some (some (.int .u8 0),1,1))
  (base:Nat) (kl kc:IntKind) (C:Int) (n:Nat) (hl:a.eval l = .int kl 0) (hc:a.eval c = .int kc C) (hC:C=(n:Int)) (hn:n<=140737488355328) (hB:base<=w.heap.size)
  (h:∀ v w',OwnB w' base e v []->Below w.heap.size w w'->v = .slice (some ⟨w.heap.size,0,none⟩) 0 n->wpList P ops Q rest (a.put o.dst v) w'):wpList P ops Q (o :: rest) a w:=by
 obtain⟨i0,hi0,hz0,hz1,hz2⟩:=info_parts hi;refine wpList_make_own w hg l c t hop base e i0 _ 1 ht hi0 hz0 hz1 kl kc C n hl hc hC (by rw[hz2];omega) (by unfold maxLen;omega) hB ?_;intro w' ho hgr;exact h _ w' ho ⟨hgr.os,hgr.tape,hgr.output,hgr.size,fun k hk=>hgr.block k hk (by simp)⟩ rfl
theorem pow8 (k:Nat):256^k=2^(8*k):=by rw[Nat.pow_mul]
theorem shr_none (n v:Nat)(h:v<256^n):(((v:Int)/2^(8*n)) != 0)=false:=by
 rw[bne_eq_false_iff_eq,show(2:Int)^(8*n)=((2^(8*n):Nat):Int) by simp,<-Int.natCast_ediv,Nat.div_eq_of_lt (by rw[<-pow8];exact h)];rfl
theorem byte_at (k v:Nat):((v:Int)/2^(8*k))%256=((UInt8.ofNat (v/256^k)).toNat:Int):=by
 rw[show(2:Int)^(8*k)=((2^(8*k):Nat):Int) by simp,<-Int.natCast_ediv,UInt8.toNat_ofNat',pow8];simp
theorem put_any (bs:List UInt8)(bv:Value)(n v:Nat)(w:World)(hb:SlB w w.heap.size bv bs)(hlen:bs.length<=1000000000)(h1:1<=n)(h4:n<=4)(hv:v<256^n) :
  Calls prog 161 #[bv,.int .i64 n,.bool false,.int .u64 v] w fun e w'=>∃ ov,e = .returned (.tuple #[ov,.int .i64 0])/\OwnB w' w.heap.size 5 ov (bs++le n v)/\Below w.heap.size w w':=by
 have hlb:=fun w'=>hb.len (P:=prog) (ty:=3) underlying23 w';have hsn:=shr_none n v hv;have hk4:∀ k,k<n->(v/256^k:Nat)<=v:=fun k _=>Nat.div_le_self _ _;go_enter func161,ntmps161
 go_wp2_with (refine make_empty _ rfl _ _ 23 5 rfl underlying23 Tryz.info5 w.heap.size _ _ _ (bs.length+n) rfl rfl ?_ ?_ nlr ?_)
 ·simp
 ·omega
 intro v1 w1 ho1 hb1 hv1;clear hv1;have hs1:=hb.below hb1 nlr
 go_wp2_with (at_builtin;refine append_sl _ rfl _ _ 23 5 rfl underlying23 Tryz.info5 w.heap.size _ [] rfl ho1 _ bs w.heap.size rfl hs1 ?_ ?_ ?_)
 ·simp;omega
 ·exact hb1.size
 intro v2 w2 ho2 hb2;have hbel:=hb1.trans hb2;clear hs1 ho1 hb1 hb2
 go_wp2_with fail
 go_loopw [10,38] (fun o i wr=>∃ k:Nat,k<=n/\i = .int .i64 k/\OwnB wr w.heap.size 5 o (bs++le k v)/\Below w.heap.size w wr) (fun _ i _=>n-(intOf i).toNat)
 case atStart=>exact⟨0,by omega,rfl,by simpa[le] using ho2,hbel⟩
 case round =>
  obtain⟨k,hk,rfl,ho,hbl⟩:=hrel;clear ho2 hbel;by_cases hlt:k<n
  ·have hby:=byte_at k v;have HS:=hid (le_succ k v);obtain⟨x,hx⟩:∃ x,x=UInt8.ofNat (v/256^k):=⟨_,rfl⟩
   rw[<-hx] at hby HS;clear hx;have hll:(bs++le k v).length=bs.length+k:=by simp[le_length]
   obtain⟨l,hl⟩:∃ l,l=bs++le k v:=⟨_,rfl⟩
   rw[<-hl] at ho hll;have HL:=hid hl;have HLL:=hid hll;clear hl hll
   go_wp2_with (at_builtin;refine append_byte _ rfl _ _ 23 5 rfl underlying23 Tryz.info5 w.heap.size _ l x rfl (ho.alloc _) _ _ rfl ?_ ?_ ?_ ?_)
   ·exact cell_alloc1 _ _ _
   ·have:=HLL.out;omega
   ·have:=hbl.size;simp;omega
   intro v3 w3 ho3 hb3;have hbl3:=(hbl.alloc (hbl.size) _).trans hb3;have ho4:OwnB w3 w.heap.size 5 v3 (bs++le (k+1) v):=by rw[HS.out,<-List.append_assoc,<-HL.out];exact ho3
   clear ho3 hb3 ho hby
   go_wp2
   go_roundw
   case rel=>exact⟨k+1,by omega,by go_num,ho4,hbl3⟩
   case measure=>simp[intOf];omega
  ·obtain rfl:k=n:=by omega
   go_wp2
   go_ret2
   exact⟨_,rfl,ho,hbl⟩
theorem wr_u64 (v:Nat)(h:v<18446744073709551616):IntKind.u64.wrap (v:Int)=(v:Int):=by rw[IntKind.wrap_u64];omega
structure Sm (w:World)(p:Nat)(v:Value)(bs:List UInt8):Prop where
 at_:w.heap[p]? = some (.cells #[v,.int .u32 (sum bs).toNat] 192 (0,0))
 own:OwnB w (p+1) 5 v bs
def SmN (p:Nat)(v:Value)(k:Nat):Prop:=k≠p/\v.ownBlock≠some k
theorem Sm.cells {w:World}{p:Nat}{v:Value}{bs:List UInt8}(h:Sm w p v bs):w.cell? ⟨p,0,none⟩=some v/\w.cell? ⟨p,1,none⟩=some (.int .u32 (sum bs).toNat)/\(∀ o,w.frozen? ⟨p,o,none⟩=false):=by
 have h:=h.at_;refine⟨?_,?_,fun o=>?_⟩<;>simp[World.cell?,World.frozen?,h]
theorem Sm.lt {w:World}{p:Nat}{v:Value}{bs:List UInt8}(h:Sm w p v bs):p<w.heap.size:=(Array.getElem?_eq_some_iff.1 h.at_).1
theorem Sm.below {w w':World}{p:Nat}{v:Value}{bs:List UInt8}(h:Sm w p v bs)(hb:Below w.heap.size w w'):Sm w' p v bs :=
 ⟨(hb.block p h.lt).trans h.at_,h.own.below hb h.own.lt⟩
theorem heap_set1 (w:World)(p i:Nat)(u:Value)(cur:Array Value)(e:TypeId)(fr:Nat×Nat)(h:w.heap[p]? = some (.cells cur e fr)) :
 (w.setCell ⟨p,i,none⟩ u).heap[p]? = some (.cells (cur.setIfInBounds i u) e fr):=heap_setCell_at w p i u cur e fr h
theorem write_any (p:Nat)(v xv:Value)(bs xs:List UInt8)(w:World)(h:Sm w p v bs)(hx:∀ w',Kept w w' (SmN p v)->SlB w' w.heap.size xv xs)(hl:bs.length+xs.length<=1000000000) :
  Calls prog 135 #[.pointer (some ⟨p,0,none⟩),xv] w fun e w'=>(∃ r,e = .returned r)/\∃ v',Sm w' p v' (bs++xs)/\Below p w w'/\Kept w w' (SmN p v):=by
 have hsx:=hx w (Kept.refl _ _);obtain⟨c0,c1,fz⟩:=h.cells;have fz0:=fz 0;have fz1:=fz 1;have hpl:=h.lt;go_enter func135,ntmps135
 go_wp2_with (at_builtin;refine append_slg _ rfl _ _ 23 5 rfl underlying23 Tryz.info5 (p+1) _ bs rfl h.own _ xs w.heap.size rfl hsx ?_ ?_ ?_)
 ·omega
 ·omega
 intro v1 w1 ho1 hg1;obtain⟨oa1,n1,cp1,hv1⟩:∃ oa n c,v1 = .slice oa n c:=by obtain⟨oa1,cp1,hv1,_⟩:=ho1.slB;exact⟨_,_,_,hv1⟩
 subst hv1;have hvp:∀ k,v.ownBlock=some k->p+1<=k:=fun k hk=>(World.ownsRow.lt h.own k hk).1;have k1:Kept w w1 (SmN p v):=.grown hg1 fun k hk hn=>hn.2 hk;have hp1:w1.heap[p]? = some (.cells #[v,.int .u32 (sum bs).toNat] 192 (0,0)):=(hg1.block p hpl (fun e=>by have:=hvp p e.symm;omega)).trans h.at_;have hbel1:Below p w w1:=(Below.refl p w).grown hg1 (Nat.le_of_lt hpl) (fun k hk=>by have:=hvp k hk;omega);have d1:w1.cell? ⟨p,1,none⟩=some (.int .u32 (sum bs).toNat):=by simp[World.cell?,hp1]
 have d0:w1.cell? ⟨p,0,none⟩=some v:=by simp[World.cell?,hp1]
 have g0:w1.frozen? ⟨p,0,none⟩=false:=by simp[World.frozen?,hp1]
 have hp2:(w1.setCell ⟨p,0,none⟩ (.slice oa1 n1 cp1)).heap[p]? = some (.cells #[.slice oa1 n1 cp1,.int .u32 (sum bs).toNat] 192 (0,0)):=heap_set1 w1 p 0 _ _ _ _ hp1;have k2:Kept w (w1.setCell ⟨p,0,none⟩ (.slice oa1 n1 cp1)) (SmN p v):=k1.trans (.set _ _ _ _ fun hn=>hn.1 rfl);have hbel2:Below p w (w1.setCell ⟨p,0,none⟩ (.slice oa1 n1 cp1)):=hbel1.setCell (p:=⟨p,0,none⟩) nlr _;have ho2:OwnB (w1.setCell ⟨p,0,none⟩ (.slice oa1 n1 cp1)) (p+1) 5 (.slice oa1 n1 cp1) (bs++xs):=ho1.setCell (Nat.lt_succ_self p) _;obtain⟨w2,hw2⟩:∃ w2,w2=w1.setCell ⟨p,0,none⟩ (.slice oa1 n1 cp1):=⟨_,rfl⟩
 rw[<-hw2] at hp2 k2 hbel2 ho2;have hsx2:=(hx w2 k2).mono k2.size;have e1:w2.cell? ⟨p,1,none⟩=some (.int .u32 (sum bs).toNat):=by simp[World.cell?,hp2]
 have hpl2:p<w2.heap.size:=(Array.getElem?_eq_some_iff.1 hp2).1;have HW:=jd4 k2 hbel2 ho2 hp2;clear ho1 hg1 k1 hp1 hbel1 k2 hbel2 ho2 hp2 hx h hvp c0 c1 fz fz0 fz1
 go_wp2_with fail
 rw[<-hw2];clear hw2 d0 d1 g0;refine(more_any (sum bs) xs xv w2 hsx2 (by omega)).mono ?_;rintro e w3 ⟨rfl,hb3⟩;have hp3:=(hb3.block p hpl2).trans HW.out.2.2.2;have f1:w3.cell? ⟨p,1,none⟩=some (.int .u32 (sum bs).toNat):=by simp[World.cell?,hp3]
 have g1:w3.frozen? ⟨p,1,none⟩=false:=by simp[World.frozen?,hp3]
 have hlx:=fun w'=>hsx2.len (P:=prog) (ty:=3) underlying23 w';rw[show more (sum bs) xs=sum (bs++xs) from more_parts 0 bs xs];obtain⟨S,hS⟩:∃ S,S=sum (bs++xs):=⟨_,rfl⟩
 rw[<-hS];have HS:=jd3 hS hp3 hb3;clear hS hp3 hb3 e1 hsx2
 go_wp2_with fail
 go_ret2
 refine⟨⟨_,rfl⟩,.slice oa1 n1 cp1,⟨?_,?_⟩,?_,(HW.out.1.trans (.of_below HS.out.2.2 fun _ h _=>h)).trans (.set _ _ _ _ fun hn=>hn.1 rfl)⟩
 ·have:=heap_set1 w3 p 1 (.int .u32 S.toNat) _ _ _ HS.out.2.1;rw[HS.out.1] at this ⊢;exact this
 ·exact(HW.out.2.2.1.below HS.out.2.2 HW.out.2.2.1.lt).setCell (Nat.lt_succ_self p) _
 ·exact(HW.out.2.1.trans (HS.out.2.2.mono (Nat.le_of_lt hpl2))).setCell (p:=⟨p,1,none⟩) nlr _
theorem snum_any (p:Nat)(v:Value)(bs:List UInt8)(n x:Nat)(w:World)(h:Sm w p v bs)(hl:bs.length<=900000000)(h1:1<=n)(h4:n<=4)(hv:x<256^n) :
  Calls prog 136 #[.pointer (some ⟨p,0,none⟩),.int .i64 n,.int .i64 x] w fun e w'=>e = .returned (.tuple #[])/\∃ v',Sm w' p v' (bs++le n x)/\Below p w w'/\Kept w w' (SmN p v):=by
 have hv4:x<256^4:=Nat.lt_of_lt_of_le hv (Nat.pow_le_pow_right (by omega) h4);have hv':x<4294967296:=hv4;have HC:=hid (put_any [] (.slice none 0 0) n x w (SlB.nil _ _) (by simp) h1 h4 hv);have hw:=wr_u64 x (by omega);have H:=hid h;clear h hv hv4;go_enter func136,ntmps136
 go_wp2_with fail
 refine HC.out.mono ?_;rintro e w1 ⟨ov,rfl,ho,hb1⟩;have hpl:=H.out.lt;have HC2:=hid (write_any p v ov bs (le n x) w1 (H.out.below hb1) (fun w' hk=>ho.sl_kept hk fun k h1 h2=>⟨by omega,fun e=>by have:=H.out.own.lt k e;omega⟩) (by rw[le_length];omega));have HB:=jd2 (hb1.mono (Nat.le_of_lt hpl)) (Kept.of_below (N:=SmN p v) hb1 fun _ h _=>h);clear HC ho hb1
 go_wp2_with fail
 refine HC2.out.mono ?_;rintro e w2 ⟨⟨r,rfl⟩,v',hs,hb2,hk2⟩
 go_wp2
 go_end0
 exact⟨rfl,v',hs,HB.out.1.trans hb2,HB.out.2.trans hk2⟩
end Go.Proofs.YtgkabcaodnofnaaGreat.Sb
