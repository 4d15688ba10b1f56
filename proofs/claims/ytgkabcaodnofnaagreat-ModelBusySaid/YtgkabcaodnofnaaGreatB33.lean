import Derived.Test.YtgkabcaodnofnaaGreatB32
import Derived.Test.YtgkabcaodnofnaaGreatB02
import Derived.BigQuiet
set_option linter.unusedSimpArgs false
set_option linter.unusedVariables false
set_option maxRecDepth 100000
set_option maxHeartbeats 2000000
open Go.Proofs.Tryz
namespace Go.Mx
open Go.RowKit
theorem SlB.cutm {w:World}{B n cap:Nat}{oa:Option Addr}{bs:List UInt8}(h:SlB w B (.slice oa n cap) bs)(lo hi m:Nat)(h1:lo<=hi)(h2:hi<=bs.length)(h3:hi<=m)(h4:m<=cap):SlB w B (sliced oa lo hi m 1) ((bs.take hi).drop lo):=by
 obtain⟨oa',cap',he,hc,hm,hr⟩:=h;cases he
 have hl:((bs.take hi).drop lo).length=hi-lo:=by simp;omega
 unfold sliced;refine⟨_,_,by rw[hl],by rw[hl];omega,by omega,fun hn=>?_⟩;have hlt:lo<hi:=by
  rcases Nat.lt_or_ge lo hi with h|h
  ·exact h
  ·exact absurd (List.eq_nil_of_length_eq_zero (by rw[hl];omega)) hn
 obtain⟨bb,bo,rfl,hlb,hrd⟩:=hr (by rintro rfl;simp at h2;omega);refine⟨bb,bo+lo,?_,hlb,hrd.cut lo hi⟩;rw[if_neg (by omega)];simp[Addr.add]
theorem SlB.part3 {w:World}{B:Nat}{v:Value}{bs:List UInt8}{P:Program}{t e:TypeId}(h:SlB w B v bs)(ht:P.underlying t=some (.slice e))(hs:∀ w,(sizeOf e).run P w = .ok 1 w)(lo hi:Nat)(h1:lo<=hi)(h2:hi<=bs.length) :
  ∃ v',SlB w B v' ((bs.take hi).drop lo)/\∀ w' (k k' k'':IntKind),(Instr.slice t v (some (.int k (lo:Int))) (some (.int k' (hi:Int))) (some (.int k'' (hi:Int)))).run P w' = .ok v' w':=by
 obtain⟨oa',cap',rfl,hc,hm,hr⟩:=id h;have ht':P.underlying t=some (.slice (P.elem t)):=by rw[ht];simp[Program.elem,ht]
 have hel:P.elem t=e:=by simp[Program.elem,ht]
 refine⟨sliced oa' lo hi hi 1,h.cutm lo hi hi h1 h2 nlr (by omega),fun w' k k' k''=>?_⟩;rw[run_slice_lhm (l:=(lo:Int)) (h:=(hi:Int)) (m:=(hi:Int)) (ht:=ht') (h0:=by omega) (h1:=by omega) (h2:=by omega) (h3:=by omega),hel,hs];simp[Result.andThen]
end Go.Mx
namespace Go.Proofs.YtgkabcaodnofnaaGreat.Sb
open Go.RowKit Go.Mx Go.Crc Go.Str
theorem size5:∀ w,(sizeOf 5).run prog w = .ok 1 w:=fun w=>by kernel_rfl
def atB (b:List UInt8)(a n:Nat):List UInt8:=(b.take (a+n)).drop a
theorem atB_eq (b:List UInt8)(a n:Nat):atB b a n=(b.drop a).take n:=by unfold atB;rw[List.drop_take];congr 1;omega
theorem atB_length (b:List UInt8)(a n:Nat)(h:a+n<=b.length):(atB b a n).length=n:=by rw[atB_eq];simp;omega
theorem there_any (b:List UInt8)(bv:Value)(a n:Nat)(w:World)(hb:SlB w w.heap.size bv b)(hl:b.length<=1000000000)(ha:a<=4000000000)(hn:n<=4000000000) :
  Calls prog 202 #[bv,.int .i64 a,.int .i64 n] w fun e w'=>w=w'/\(if a+n<=b.length then ∃ v,e = .returned (.tuple #[v,.bool true])/\SlB w w.heap.size v (atB b a n) else e = .returned (.tuple #[.slice none 0 0,.bool false])):=by
 have hlb:=fun w'=>hb.len (P:=prog) (ty:=3) underlying23 w';by_cases h:a+n<=b.length
 ·simp only[h,if_true];obtain⟨v',hv,hs⟩:=hb.part3 (P:=prog) underlying23 size5 a (a+n) (by omega) h;have hs':∀ w' (k k' k'':IntKind),(Instr.slice 23 bv (some (.int k (a:Int))) (some (.int k' ((a:Int)+(n:Int)))) (some (.int k'' ((a:Int)+(n:Int))))).run prog w' = .ok v' w':=by simpa using hs
  have g1:(a:Int)<=b.length:=by omega
  have g2:(n:Int)<=b.length-(a:Int):=by omega
  have HV:=hid hv;clear hs hv hb;go_enter func202,ntmps202
  go_wp2
  go_ret2
  exact⟨rfl,_,rfl,HV.out⟩
 ·simp only[h,if_false];clear hb;by_cases h1:a<=b.length
  ·have g1:(a:Int)<=b.length:=by omega
   have g2:¬ (n:Int)<=b.length-(a:Int):=by omega
   go_enter func202,ntmps202
   go_wp2
   go_ret2
   exact⟨rfl,rfl⟩
  ·have g1:¬ (a:Int)<=b.length:=by omega
   go_enter func202,ntmps202
   go_wp2
   go_ret2
   exact⟨rfl,rfl⟩
theorem drop_succ_deL (l:List UInt8)(i n:Nat)(hl:l.length=n)(hi:i<n):deL (l.drop (n-(i+1)))=deL (l.drop (n-i))*256+(l.getD (n-1-i) 0).toNat:=by
 have e:l.drop (n-(i+1))=l.getD (n-1-i) 0 :: l.drop (n-i):=by
  have:=dropD l (n-(i+1)) 0 (by omega);rw[this]
  congr 2<;>omega
 rw[e,deL];omega
theorem or_u64 (v x:Nat)(hv:v<16777216)(hx:x<256):bits .or .u64 ((v:Int)*256) (x:Int)=((v*256+x:Nat):Int):=by
 rw[show(v:Int)*256=((v*256:Nat):Int) by simp,u64_or_nat _ _ (by omega) (by omega)];have:=Nat.shiftLeft_add_eq_or_of_lt (i:=8) (b:=x) (by omega) v;rw[Nat.shiftLeft_eq] at this;rw[<-show v*2^8=v*256 by rfl,<-this]
theorem get_any (b:List UInt8)(bv:Value)(a n:Nat)(w:World)(hb:SlB w w.heap.size bv b)(hl:b.length<=1000000000)(ha:a<=4000000000)(h1:1<=n)(h4:n<=4) :
  Calls prog 188 #[bv,.int .i64 a,.int .i64 n,.bool false] w fun e w'=>w=w'/\(if a+n<=b.length then e = .returned (.tuple #[.int .u64 (deL (atB b a n)),.int .i64 0]) else e = .returned (.tuple #[.int .u64 0,.int .i64 6])):=by
 have HC:=hid (there_any b bv a n w hb hl ha (by omega));clear hb;by_cases h:a+n<=b.length
 ·simp only[h,if_true] at HC ⊢;have hL:=atB_length b a n h;obtain⟨l,hll⟩:∃ l,l=atB b a n:=⟨_,rfl⟩
  rw[<-hll] at HC hL ⊢;clear hll h;go_enter func188,ntmps188
  go_wp2_with fail
  refine HC.out.mono ?_;rintro e w' ⟨rfl,v,rfl,hv⟩;have HL:=hid hL;clear hL HC
  go_wp2_with fail
  go_loop [12,31] (fun x i=>∃ k:Nat,k<=n/\i = .int .i64 k/\x = .int .u64 (deL (l.drop (n-k)))) (fun _ i=>n-(intOf i).toNat)
  case atStart=>exact⟨0,by omega,rfl,by rw[List.drop_eq_nil_of_le (by have:=HL.out;omega)];rfl⟩
  case round =>
   obtain⟨k,hk,rfl,rfl⟩:=hrel;by_cases hlt:k<n
   ·obtain⟨bb,bo,hbb,hia,hc⟩:=hv.addr (P:=prog) underlying23 size5 (n-1-k) (by have:=HL.out;omega);have HD:=hid (drop_succ_deL l k n HL.out hlt);have hvb:deL (l.drop (n-k))<256^k:=by
     have:=deL_lt (l.drop (n-k));rwa[List.length_drop,HL.out,show n-(n-k)=k by omega] at this
    have hv3:deL (l.drop (n-k))<16777216:=Nat.lt_of_lt_of_le hvb (Nat.pow_le_pow_right (n:=256) (by omega) (show k<=3 by omega));obtain⟨x,hx⟩:∃ x,x=l.getD (n-1-k) 0:=⟨_,rfl⟩
    obtain⟨y,hy⟩:∃ y,y=deL (l.drop (n-k)):=⟨_,rfl⟩
    rw[<-hx] at HD hc;rw[<-hy] at HD hv3 hvb ⊢;have hor:=or_u64 y x.toNat hv3 x.toNat_lt;have hwr:IntKind.u64.wrap ((y:Int)*256)=(y:Int)*256:=by rw[IntKind.wrap_u64];omega
    have hwx:=wr_u64 x.toNat (by have:=x.toNat_lt;omega);have hia':∀ (w':World) (k_1:IntKind),(Instr.indexAt 23 v (.int k_1 ((n:Int)-1-(k:Int)))).run prog w' = .ok (.pointer (some ⟨bb,bo,none⟩)) w':=by
     rw[show(n:Int)-1-(k:Int)=((n-1-k:Nat):Int) by omega];exact hia
    clear hx hy hvb hia
    go_wp2_with fail
    go_round
    case rel=>exact⟨k+1,by omega,by go_num,by rw[HD.out];simp⟩
    case measure=>simp[intOf];omega
   ·obtain rfl:k=n:=by omega
    rw[Nat.sub_self,List.drop_zero]
    go_wp2_with fail
    go_ret2
    exact⟨rfl,rfl⟩
 ·simp only[h,if_false] at HC ⊢;clear h;go_enter func188,ntmps188
  go_wp2_with fail
  refine HC.out.mono ?_;rintro e w' ⟨rfl,rfl⟩
  go_wp2
  go_ret2
  exact⟨rfl,rfl⟩
def Rd (w:World)(p:Nat)(bv:Value)(a:Nat)(bad:Bool):Prop:=w.heap[p]? = some (.cells #[bv,.int .i64 a,.bool bad] 221 (0,0))
theorem Rd.cells {w:World}{p:Nat}{bv:Value}{a:Nat}{bad:Bool}(h:Rd w p bv a bad):w.cell? ⟨p,0,none⟩=some bv/\w.cell? ⟨p,1,none⟩=some (.int .i64 a)/\w.cell? ⟨p,2,none⟩=some (.bool bad)/\∀ o,w.frozen? ⟨p,o,none⟩=false:=by
 unfold Rd at h;refine⟨?_,?_,?_,fun o=>?_⟩<;>simp[World.cell?,World.frozen?,h]
theorem Rd.lt {w:World}{p:Nat}{bv:Value}{a:Nat}{bad:Bool}(h:Rd w p bv a bad):p<w.heap.size:=(Array.getElem?_eq_some_iff.1 h).1
theorem Rd.below {w w':World}{p:Nat}{bv:Value}{a:Nat}{bad:Bool}(h:Rd w p bv a bad)(hb:Below w.heap.size w w'):Rd w' p bv a bad:=(hb.block p h.lt).trans h
theorem rdnum_any (b:List UInt8)(bv:Value)(p a n:Nat)(bad:Bool)(w:World)(h:Rd w p bv a bad)(hb:SlB w p bv b)(hl:b.length<=1000000000)(ha:a<=3000000000)(h1:1<=n)(h4:n<=4) :
  Calls prog 163 #[.pointer (some ⟨p,0,none⟩),.int .i64 n] w fun e w'=>(e = .returned (.int .i64 ((if a+n<=b.length then deL (atB b a n) else 0:Nat):Int))/\Rd w' p bv (a+n) (bad||!decide (a+n<=b.length)))/\Below p w w'/\Kept w w' (·≠p):=by
 have hpl:=h.lt;have C0:∀ w',Below w.heap.size w w'->w'.cell? ⟨p,0,none⟩=some bv:=fun w' hb=>(hb.cell (p:=⟨p,0,none⟩) hpl).trans h.cells.1;have C1:∀ w',Below w.heap.size w w'->w'.cell? ⟨p,1,none⟩=some (.int .i64 a):=fun w' hb=>(hb.cell (p:=⟨p,1,none⟩) hpl).trans h.cells.2.1;have HC:=hid (fun w' (hbl:Below w.heap.size w w')=>get_any b bv a n w' ((hb.below hbl (Nat.le_of_lt hpl)).mono (by have:=hbl.size;omega)) hl (by omega) h1 h4);have H:=hid h;clear h hb;cases bad
 ·by_cases hc:a+n<=b.length
  ·simp only[hc,if_true] at HC;have hdl:deL (atB b a n)<256^n:=by have:=deL_lt (atB b a n);rwa[atB_length b a n hc] at this
   have hd4:deL (atB b a n)<4294967296:=Nat.lt_of_lt_of_le hdl (Nat.pow_le_pow_right (n:=256) (by omega) h4);have HV:=hid (show(if a+n<=b.length then deL (atB b a n) else 0)=deL (atB b a n) from if_pos hc);have HD:=hid (show decide (a+n<=b.length)=true from decide_eq_true hc);rw[HV.out,HD.out];obtain⟨x,hx⟩:∃ x,x=deL (atB b a n):=⟨_,rfl⟩
   rw[<-hx] at HC hd4 ⊢;clear hx hdl HV HD hc;go_enter func163,ntmps163
   go_wp2_with fail
   go_region_held (fun w'=>Below w.heap.size w w') (first|exact brf.drew|assumption|exact Below.drew (by assumption)) (first|(go_at_call 188;refine(HC.out _ (by assumption)).mono ?_;rintro e w5 ⟨rfl,rfl⟩))
   have hb1:Below w.heap.size w w.drew:=brf.drew;have R1:=H.out.below hb1;obtain⟨w1,hw1⟩:∃ w1,w1=w.drew:=⟨_,rfl⟩
   rw[<-hw1] at hb1 R1 ⊢;clear hw1 C0 C1;obtain⟨c0,c1,c2,fz⟩:=R1.cells;have fz1:=fz 1;have fz2:=fz 2;have hr2:(w1.setCell ⟨p,2,none⟩ (.bool false)).heap[p]? = some (.cells #[bv,.int .i64 a,.bool false] 221 (0,0)):=heap_set1 w1 p 2 _ _ _ _ R1;have hr3:((w1.setCell ⟨p,2,none⟩ (.bool false)).setCell ⟨p,1,none⟩ (.int .i64 ((a:Int)+(n:Int)))).heap[p]? = some (.cells #[bv,.int .i64 ((a:Int)+(n:Int)),.bool false] 221 (0,0)):=heap_set1 _ p 1 _ _ _ _ hr2;have k3:Kept w ((w1.setCell ⟨p,2,none⟩ (.bool false)).setCell ⟨p,1,none⟩ (.int .i64 ((a:Int)+(n:Int)))) (·≠p):=((Kept.of_below hb1 fun _ h _=>h).trans (.set _ _ _ _ fun hn=>hn rfl)).trans (.set _ _ _ _ fun hn=>hn rfl);have b3:Below p w ((w1.setCell ⟨p,2,none⟩ (.bool false)).setCell ⟨p,1,none⟩ (.int .i64 ((a:Int)+(n:Int)))):=((hb1.mono (Nat.le_of_lt hpl)).setCell (p:=⟨p,2,none⟩) nlr _).setCell (p:=⟨p,1,none⟩) nlr _
   have e1:(w1.setCell ⟨p,2,none⟩ (.bool false)).cell? ⟨p,1,none⟩=some (.int .i64 a):=by simp[World.cell?,hr2]
   have HE:=jd3 hr3 b3 k3;clear HC H hb1 R1 hr2 hr3 k3 b3 fz hpl c0
   go_wp2_with fail
   go_ret
   exact⟨⟨rfl,HE.out.1⟩,HE.out.2.1,HE.out.2.2⟩
  ·simp only[hc,if_false] at HC;have HV:=hid (show(if a+n<=b.length then deL (atB b a n) else 0)=0 from if_neg hc);have HD:=hid (show decide (a+n<=b.length)=false from decide_eq_false hc);rw[HV.out,HD.out];clear HV HD hc;go_enter func163,ntmps163
   go_wp2_with fail
   go_region_held (fun w'=>Below w.heap.size w w') (first|exact brf.drew|assumption|exact Below.drew (by assumption)) (first|(go_at_call 188;refine(HC.out _ (by assumption)).mono ?_;rintro e w5 ⟨rfl,rfl⟩))
   have hb1:Below w.heap.size w w.drew:=brf.drew;have R1:=H.out.below hb1;obtain⟨w1,hw1⟩:∃ w1,w1=w.drew:=⟨_,rfl⟩
   rw[<-hw1] at hb1 R1 ⊢;clear hw1 C0 C1;obtain⟨c0,c1,c2,fz⟩:=R1.cells;have fz1:=fz 1;have fz2:=fz 2;have hr2:(w1.setCell ⟨p,2,none⟩ (.bool true)).heap[p]? = some (.cells #[bv,.int .i64 a,.bool true] 221 (0,0)):=heap_set1 w1 p 2 _ _ _ _ R1;have hr3:((w1.setCell ⟨p,2,none⟩ (.bool true)).setCell ⟨p,1,none⟩ (.int .i64 ((a:Int)+(n:Int)))).heap[p]? = some (.cells #[bv,.int .i64 ((a:Int)+(n:Int)),.bool true] 221 (0,0)):=heap_set1 _ p 1 _ _ _ _ hr2;have k3:Kept w ((w1.setCell ⟨p,2,none⟩ (.bool true)).setCell ⟨p,1,none⟩ (.int .i64 ((a:Int)+(n:Int)))) (·≠p):=((Kept.of_below hb1 fun _ h _=>h).trans (.set _ _ _ _ fun hn=>hn rfl)).trans (.set _ _ _ _ fun hn=>hn rfl);have b3:Below p w ((w1.setCell ⟨p,2,none⟩ (.bool true)).setCell ⟨p,1,none⟩ (.int .i64 ((a:Int)+(n:Int)))):=((hb1.mono (Nat.le_of_lt hpl)).setCell (p:=⟨p,2,none⟩) nlr _).setCell (p:=⟨p,1,none⟩) nlr _
   have e1:(w1.setCell ⟨p,2,none⟩ (.bool true)).cell? ⟨p,1,none⟩=some (.int .i64 a):=by simp[World.cell?,hr2]
   have HE:=jd3 hr3 b3 k3;clear HC H hb1 R1 hr2 hr3 k3 b3 fz hpl c0
   go_wp2_with fail
   go_ret
   exact⟨⟨rfl,HE.out.1⟩,HE.out.2.1,HE.out.2.2⟩
 ·by_cases hc:a+n<=b.length
  ·simp only[hc,if_true] at HC;have hdl:deL (atB b a n)<256^n:=by have:=deL_lt (atB b a n);rwa[atB_length b a n hc] at this
   have hd4:deL (atB b a n)<4294967296:=Nat.lt_of_lt_of_le hdl (Nat.pow_le_pow_right (n:=256) (by omega) h4);have HV:=hid (show(if a+n<=b.length then deL (atB b a n) else 0)=deL (atB b a n) from if_pos hc);have HD:=hid (show decide (a+n<=b.length)=true from decide_eq_true hc);rw[HV.out,HD.out];obtain⟨x,hx⟩:∃ x,x=deL (atB b a n):=⟨_,rfl⟩
   rw[<-hx] at HC hd4 ⊢;clear hx hdl HV HD hc;go_enter func163,ntmps163
   go_wp2_with fail
   go_region_held (fun w'=>Below w.heap.size w w') (first|exact brf.drew|assumption|exact Below.drew (by assumption)) (first|(go_at_call 188;refine(HC.out _ (by assumption)).mono ?_;rintro e w5 ⟨rfl,rfl⟩))
   have hb1:Below w.heap.size w w.drew:=brf.drew;have R1:=H.out.below hb1;obtain⟨w1,hw1⟩:∃ w1,w1=w.drew:=⟨_,rfl⟩
   rw[<-hw1] at hb1 R1 ⊢;clear hw1 C0 C1;obtain⟨c0,c1,c2,fz⟩:=R1.cells;have fz1:=fz 1;have fz2:=fz 2;have hr2:(w1.setCell ⟨p,2,none⟩ (.bool true)).heap[p]? = some (.cells #[bv,.int .i64 a,.bool true] 221 (0,0)):=heap_set1 w1 p 2 _ _ _ _ R1;have hr3:((w1.setCell ⟨p,2,none⟩ (.bool true)).setCell ⟨p,1,none⟩ (.int .i64 ((a:Int)+(n:Int)))).heap[p]? = some (.cells #[bv,.int .i64 ((a:Int)+(n:Int)),.bool true] 221 (0,0)):=heap_set1 _ p 1 _ _ _ _ hr2;have k3:Kept w ((w1.setCell ⟨p,2,none⟩ (.bool true)).setCell ⟨p,1,none⟩ (.int .i64 ((a:Int)+(n:Int)))) (·≠p):=((Kept.of_below hb1 fun _ h _=>h).trans (.set _ _ _ _ fun hn=>hn rfl)).trans (.set _ _ _ _ fun hn=>hn rfl);have b3:Below p w ((w1.setCell ⟨p,2,none⟩ (.bool true)).setCell ⟨p,1,none⟩ (.int .i64 ((a:Int)+(n:Int)))):=((hb1.mono (Nat.le_of_lt hpl)).setCell (p:=⟨p,2,none⟩) nlr _).setCell (p:=⟨p,1,none⟩) nlr _
   have e1:(w1.setCell ⟨p,2,none⟩ (.bool true)).cell? ⟨p,1,none⟩=some (.int .i64 a):=by simp[World.cell?,hr2]
   have HE:=jd3 hr3 b3 k3;clear HC H hb1 R1 hr2 hr3 k3 b3 fz hpl c0
   go_wp2_with fail
   go_ret
   exact⟨⟨rfl,HE.out.1⟩,HE.out.2.1,HE.out.2.2⟩
  ·simp only[hc,if_false] at HC;have HV:=hid (show(if a+n<=b.length then deL (atB b a n) else 0)=0 from if_neg hc);have HD:=hid (show decide (a+n<=b.length)=false from decide_eq_false hc);rw[HV.out,HD.out];clear HV HD hc;go_enter func163,ntmps163
   go_wp2_with fail
   go_region_held (fun w'=>Below w.heap.size w w') (first|exact brf.drew|assumption|exact Below.drew (by assumption)) (first|(go_at_call 188;refine(HC.out _ (by assumption)).mono ?_;rintro e w5 ⟨rfl,rfl⟩))
   have hb1:Below w.heap.size w w.drew:=brf.drew;have R1:=H.out.below hb1;obtain⟨w1,hw1⟩:∃ w1,w1=w.drew:=⟨_,rfl⟩
   rw[<-hw1] at hb1 R1 ⊢;clear hw1 C0 C1;obtain⟨c0,c1,c2,fz⟩:=R1.cells;have fz1:=fz 1;have fz2:=fz 2;have hr2:(w1.setCell ⟨p,2,none⟩ (.bool true)).heap[p]? = some (.cells #[bv,.int .i64 a,.bool true] 221 (0,0)):=heap_set1 w1 p 2 _ _ _ _ R1;have hr3:((w1.setCell ⟨p,2,none⟩ (.bool true)).setCell ⟨p,1,none⟩ (.int .i64 ((a:Int)+(n:Int)))).heap[p]? = some (.cells #[bv,.int .i64 ((a:Int)+(n:Int)),.bool true] 221 (0,0)):=heap_set1 _ p 1 _ _ _ _ hr2;have k3:Kept w ((w1.setCell ⟨p,2,none⟩ (.bool true)).setCell ⟨p,1,none⟩ (.int .i64 ((a:Int)+(n:Int)))) (·≠p):=((Kept.of_below hb1 fun _ h _=>h).trans (.set _ _ _ _ fun hn=>hn rfl)).trans (.set _ _ _ _ fun hn=>hn rfl);have b3:Below p w ((w1.setCell ⟨p,2,none⟩ (.bool true)).setCell ⟨p,1,none⟩ (.int .i64 ((a:Int)+(n:Int)))):=((hb1.mono (Nat.le_of_lt hpl)).setCell (p:=⟨p,2,none⟩) nlr _).setCell (p:=⟨p,1,none⟩) nlr _
   have e1:(w1.setCell ⟨p,2,none⟩ (.bool true)).cell? ⟨p,1,none⟩=some (.int .i64 a):=by simp[World.cell?,hr2]
   have HE:=jd3 hr3 b3 k3;clear HC H hb1 R1 hr2 hr3 k3 b3 fz hpl c0
   go_wp2_with fail
   go_ret
   exact⟨⟨rfl,HE.out.1⟩,HE.out.2.1,HE.out.2.2⟩
end Go.Proofs.YtgkabcaodnofnaaGreat.Sb
namespace Go.Mx
open Go.RowKit
theorem op_append_sl {P:Program}(w:World){o:Oper}{a:Act}{K:Act->World->Prop}{Q:Exit->Act->World->Prop}(s x:Operand)(t e:TypeId)
  (ho:o.op = .call {callee:=.builtin .append,args := #[s,x],argTypes := #[t,t]})
  (ht:P.underlying t=some (.slice e)) (hi:(P.info? e).map (fun i=>(i.zero,i.size,i.bytes))=some (some (.int .u8 0),1,1))
  (base:Nat) (v:Value) (l:List UInt8) (hs:a.eval s=v) (hown:OwnB w base e v l) (xv:Value) (bs:List UInt8) (B:Nat) (hx:a.eval x=xv) (hsl:SlB w B xv bs)
  (hlen:l.length+bs.length<=140737488355328) (hB:base<=w.heap.size)
  (h:∀ v' w',OwnB w' base e v' (l++bs)->Below base w w'->K (a.put o.dst v') w'):o.wp P a w K Q:=by
 obtain⟨i0,hi0,hz0,hz1,hz2⟩:=info_parts hi;obtain⟨oa,cap,rfl,h1,h2,h3⟩:=hsl;cases oa with
 | none =>
  have hb:bs=[]:=by
   cases bs with
   | nil=>rfl
   | cons y r=>obtain⟨_,_,hh,_⟩:=h3 (by simp);cases hh
  subst hb;have hrun:=run_append_nosrc (P:=P) (w:=w) (ty:=o.type) ht hi0 hown cap;unfold Oper.wp;simp[execOp,ho,resolve,invoke,builtin,hs,hx,hrun,Result.andThen];exact h v w (by simpa using hown) brf
 | some ad =>
  refine wp_append_own w s x t ho base e i0 _ 1 1 ht hi0 hz0 hz1 hz2 rfl (by decide) v l.length _ hs hown ad bs.length cap (bs.map u8) hx (by simp) ?_ ?_ ?_ ?_ hB ?_
  ·intro j u hj;simp only[List.getElem?_map] at hj;cases hb:bs[j]? with
   | none=>rw[hb] at hj;cases hj
   | some y =>
    rw[hb] at hj;simp only[Option.map_some,Option.some.injEq] at hj;subst hj;have hjl:j<bs.length:=(List.getElem?_eq_some_iff.1 hb).1;obtain⟨bb,bo,hh,_,hr⟩:=h3 (by rintro rfl;simp at hjl);cases hh
    have e:(⟨bb,bo,none⟩:Addr).add j=⟨bb,bo+j,none⟩:=by unfold Addr.add;split<;>simp_all
    rw[e,hr j hjl,List.getD_eq_getElem?_getD,hb];rfl
  ·intro u hu;simp at hu;obtain⟨y,_,rfl⟩:=hu;rfl
  ·unfold maxLen;omega
  ·omega
  ·intro v' w' ho' hg' _;exact h v' w' (by unfold OwnB;simpa using ho') ((Below.refl base w).grown hg' hB (fun k hk=>(World.ownsRow.lt hown k hk).1))
end Go.Mx
namespace Go.Proofs.YtgkabcaodnofnaaGreat.Sb
open Go.RowKit Go.Mx Go.Crc Go.Str
theorem rdtake_ok (b:List UInt8)(bv:Value)(p a n:Nat)(w:World)(h:Rd w p bv a false)(hb:SlB w p bv b)(hl:b.length<=1000000000)(hc:a+n<=b.length) :
  Calls prog 162 #[.pointer (some ⟨p,0,none⟩),.int .i64 n] w fun e w'=>∃ v,e = .returned v/\OwnB w' w.heap.size 5 v (atB b a n)/\Rd w' p bv (a+n) false/\Below p w w'/\Kept w w' (·≠p):=by
 have hpl:=h.lt;have hlb:=fun w'=>hb.len (P:=prog) (ty:=3) underlying23 w';obtain⟨v',hv,hs⟩:=hb.part (P:=prog) underlying23 size5 a (a+n) (by omega) hc;have hle:decide ((b.length:Int)-(a:Int)<(n:Int))=false:=decide_eq_false (by omega);have hw1:IntKind.i64.wrap ((b.length:Int)-(a:Int))=(b.length:Int)-(a:Int):=IntWalk.i64_in _ (by omega);have hw2:IntKind.i64.wrap (a:Int)=(a:Int):=IntWalk.i64_in _ (by omega);obtain⟨c0,c1,c2,fz⟩:=h.cells;have fz1:=fz 1;have HV:=hid hv;have H:=hid h;clear h fz hv hb;go_enter func162,ntmps162
 go_wp2_with fail
 go_quiet (fail)
 rename_i nq;have hb1:Below w.heap.size w (w.drewN nq):=below_drewN brf nq;have R1:=H.out.below hb1;obtain⟨w1,hw1x⟩:∃ w1,w1=w.drewN nq:=⟨_,rfl⟩
 rw[<-hw1x] at hb1 R1 ⊢;clear hw1x c0 c1 c2 fz1 hw1 hle;obtain⟨c0,c1,c2,fz⟩:=R1.cells;have fz1:=fz 1;have hs':∀ w' (k k':IntKind),(Instr.slice 23 bv (some (.int k (a:Int))) (some (.int k' ((a:Int)+(n:Int)))) none).run prog w' = .ok v' w':=by simpa using hs
 obtain⟨w2,hw2x⟩:∃ w2,w2=w1.setCell ⟨p,1,none⟩ (.int .i64 ((a:Int)+(n:Int))):=⟨_,rfl⟩
 have hr2:w2.heap[p]? = some (.cells #[bv,.int .i64 ((a:Int)+(n:Int)),.bool false] 221 (0,0)):=by rw[hw2x];exact heap_set1 w1 p 1 _ _ _ _ R1
 have k2:Kept w w2 (·≠p):=by rw[hw2x];exact(Kept.of_below hb1 fun _ h _=>h).trans (.set _ _ _ _ fun hn=>hn rfl)
 have b2:Below p w w2:=by rw[hw2x];exact(hb1.mono (Nat.le_of_lt hpl)).setCell (p:=⟨p,1,none⟩) nlr _
 have hv2:SlB w2 p v' (atB b a n):=HV.out.below b2 nlr;have hpl2:p<w2.heap.size:=(Array.getElem?_eq_some_iff.1 hr2).1;have C0:∀ w',Below w2.heap.size w2 w'->w'.cell? ⟨p,0,none⟩=some bv:=fun w' hb=>(hb.cell (p:=⟨p,0,none⟩) hpl2).trans (by simp[World.cell?,hr2]);have C1:∀ w',Below w2.heap.size w2 w'->w'.cell? ⟨p,1,none⟩=some (.int .i64 ((a:Int)+(n:Int))):=fun w' hb=>(hb.cell (p:=⟨p,1,none⟩) hpl2).trans (by simp[World.cell?,hr2]);have HE:=jd4 hr2 b2 k2 hv2;clear hs HV H hb1 R1 hr2 k2 b2 hv2 fz c0
 go_wp2_with fail
 rw[<-hw2x];clear hw2x c1 c2 fz1
 go_wp2_with fail
 refine wp_region_held_drew (S:=(fun w'=>Below w2.heap.size w2 w')) (by kernel_rfl) (brf.drew) (fun hHeld=>?_);refine sk 1 ?_;try simp only[nk]
 refine sk 2 ?_;try simp only[nk]
 refine sk 3 ?_;try simp only[nk]
 refine sk 4 ?_;try simp only[nk]
 refine sk 5 ?_;try simp only[nk]
 refine sk 6 ?_;try simp only[nk]
 refine sk 7 ?_;try simp only[nk]
 refine sk 8 ?_;try simp only[nk]
 refine sk 9 ?_;try simp only[nk]
 refine sk 10 ?_;try simp only[nk]
 refine sk 11 ?_;try simp only[nk]
 refine sk 12 ?_;try simp only[nk]
 refine sk 13 ?_;try simp only[nk]
 refine sk 14 ?_;try simp only[nk]
 refine sk 15 ?_;try simp only[nk]
 refine wpAnyH_ready (rs:=[0]) (by kernel_rfl) (by simp) (AllReadyH.cons rfl (fun K hK=>?_) AllReadyH.nil);go_simp
 refine hK.out _ _ (hHeld.alloc hHeld.size _) (fun hHeld5=>?_);clear hK K
 try simp only[nk]
 refine wpAnyH_ready (rs:=[16]) (by kernel_rfl) (by simp) (AllReadyH.cons rfl (fun K hK=>?_) AllReadyH.nil);refine op_append_sl _ _ _ 23 5 rfl underlying23 Tryz.info5 w2.heap.size _ [] rfl (own_empty _ 5) _ (atB b a n) p rfl (HE.out.2.2.2.below hHeld5 (Nat.le_of_lt hpl2)) ?_ ?_ ?_
 ·rw[atB_length b a n hc];simp;omega
 ·exact hHeld5.size
 intro v8 w8 ho8 hb8;rw[List.nil_append] at ho8;have hb8':=hHeld5.trans hb8;refine hK.out _ _ hb8' (fun hHeld8=>?_);clear hK K hHeld
 try simp only[nk]
 refine sk 17 ?_;try simp only[nk]
 refine wpAnyH_done (by kernel_rfl) ?_ _
 go_wp2_with fail
 go_ret
 exact⟨_,rfl,ho8.any_base (by have:=HE.out.2.2.1.size;omega),(hb8'.block p hpl2).trans HE.out.1,HE.out.2.1.trans (hb8'.mono (Nat.le_of_lt hpl2)),HE.out.2.2.1.trans (.of_below hb8' fun _ h _=>h)⟩
theorem rdtake_no (b:List UInt8)(bv:Value)(p a n:Nat)(bad:Bool)(w:World)(h:Rd w p bv a bad)(hb:SlB w p bv b)(hl:b.length<=1000000000)(hc:bad=true\/(a<=b.length/\b.length<a+n))(hn:n<=1000000000) :
  Calls prog 162 #[.pointer (some ⟨p,0,none⟩),.int .i64 n] w fun e w'=>e = .returned (.slice none 0 0)/\Rd w' p bv a true/\Below p w w'/\Kept w w' (·≠p):=by
 have hpl:=h.lt;have hlb:=fun w'=>hb.len (P:=prog) (ty:=3) underlying23 w';obtain⟨c0,c1,c2,fz⟩:=h.cells;have H:=hid h;clear h fz hb;cases bad
 ·have hc:a<=b.length/\b.length<a+n:=hc.resolve_left (by simp);have hle:decide ((b.length:Int)-(a:Int)<(n:Int))=true:=decide_eq_true (by omega);have hw1:IntKind.i64.wrap ((b.length:Int)-(a:Int))=(b.length:Int)-(a:Int):=IntWalk.i64_in _ (by omega);go_enter func162,ntmps162
  go_wp2_with fail
  go_quiet (fail)
  rename_i nq;have hb1:Below w.heap.size w (w.drewN nq):=below_drewN brf nq;have R1:=H.out.below hb1;obtain⟨w1,hw1x⟩:∃ w1,w1=w.drewN nq:=⟨_,rfl⟩
  rw[<-hw1x] at hb1 R1 ⊢;clear hw1x c0 c1 c2;obtain⟨c0,c1,c2,fz⟩:=R1.cells;have fz2:=fz 2;have hr2:(w1.setCell ⟨p,2,none⟩ (.bool true)).heap[p]? = some (.cells #[bv,.int .i64 a,.bool true] 221 (0,0)):=heap_set1 w1 p 2 _ _ _ _ R1;have HE:=jd3 hr2 ((hb1.mono (Nat.le_of_lt hpl)).setCell (p:=⟨p,2,none⟩) nlr (.bool true)) ((Kept.of_below (N:=(·≠p)) hb1 fun _ h _=>h).trans (.set _ _ 2 (.bool true) fun hn=>hn rfl));clear R1 hr2 hb1 fz
  go_wp2_with fail
  go_ret
  exact⟨rfl,HE.out.1,HE.out.2.1,HE.out.2.2⟩
 ·clear hc;go_enter func162,ntmps162
  go_wp2_with fail
  go_quiet (fail)
  rename_i nq;have hb1:Below w.heap.size w (w.drewN nq):=below_drewN brf nq;have R1:=H.out.below hb1;obtain⟨w1,hw1x⟩:∃ w1,w1=w.drewN nq:=⟨_,rfl⟩
  rw[<-hw1x] at hb1 R1 ⊢;clear hw1x c0 c1 c2;obtain⟨c0,c1,c2,fz⟩:=R1.cells;have fz2:=fz 2;have hr2:(w1.setCell ⟨p,2,none⟩ (.bool true)).heap[p]? = some (.cells #[bv,.int .i64 a,.bool true] 221 (0,0)):=heap_set1 w1 p 2 _ _ _ _ R1;have HE:=jd3 hr2 ((hb1.mono (Nat.le_of_lt hpl)).setCell (p:=⟨p,2,none⟩) nlr (.bool true)) ((Kept.of_below (N:=(·≠p)) hb1 fun _ h _=>h).trans (.set _ _ 2 (.bool true) fun hn=>hn rfl));clear R1 hr2 hb1 fz
  go_wp2_with fail
  go_ret
  exact⟨rfl,HE.out.1,HE.out.2.1,HE.out.2.2⟩
def flatP (ps:List (Rec×Value)):List Value:=ps.flatMap fun x=>[.int .i64 x.1.at_,x.2]
theorem Tryz.info98:(prog.info? 98).map (fun i=>(i.zero,i.size,i.bytes))=some (some (.agg #[.int .i64 0,.slice none 0 0]),2,32):=by kernel_rfl
theorem Tryz.info3:(prog.info? 3).map (fun i=>(i.zero,i.size,i.bytes))=some (some (.int .i64 0),1,8):=by kernel_rfl
theorem append_rec (w:World){ops:Array Oper}{rest:List Oper}{o:Oper}{a:Act}{Q:Exit->Act->World->Prop}(hgd:o.guard=none)(s x:Operand)
  (ho:o.op = .call {callee:=.builtin .append,args := #[s,x],argTypes := #[52,52]})
  (base:Nat) (v:Value) (ps:List (Rec×Value)) (hs:a.eval s=v) (hown:w.ownsRow base 98 2 v ps.length (flatP ps)) (g c:Nat) (y:Rec×Value) (hx:a.eval x = .slice (some ⟨g,0,none⟩) 1 c)
  (hc0:w.cell? ⟨g,0,none⟩=some (.int .i64 y.1.at_)) (hc1:w.cell? ⟨g,1,none⟩=some y.2) (hone:y.2.oneCell'=true) (hlen:ps.length<=1000000000) (hB:base<=w.heap.size)
  (h:∀ v' w',w'.ownsRow base 98 2 v' (ps++[y]).length (flatP (ps++[y]))->w.grownBy w' v.ownBlock->wpList prog ops Q rest (a.put o.dst v') w'):wpList prog ops Q (o :: rest) a w:=by
 obtain⟨i0,hi0,hz0,hz1,hz2⟩:=info_parts Tryz.info98;refine wpList_append_own w hgd s x 52 ho base 98 i0 _ 2 32 underlying52 hi0 hz0 hz1 hz2 rfl (by decide) v ps.length _ hs hown ⟨g,0,none⟩ 1 c [.int .i64 y.1.at_,y.2] hx rfl ?_ ?_ ?_ ?_ hB ?_
 ·intro j u hj;have e:(⟨g,0,none⟩:Addr).add j=⟨g,j,none⟩:=by unfold Addr.add;split<;>simp_all
  rw[e]
  match j,hj with
  | 0,hj=>simp at hj;subst hj;exact hc0
  | 1,hj=>simp at hj;subst hj;exact hc1
 ·intro u hu;simp at hu;rcases hu with rfl|rfl
  ·rfl
  ·exact hone
 ·unfold maxLen;omega
 ·omega
 ·intro v' w' ho' hg' _;refine h v' w' ?_ hg';unfold flatP at *;simpa[List.flatMap_append] using ho'
theorem _root_.Go.RowKit.Below.trans_drew {z z5:World}(h:Below z.drew.heap.size z.drew z5):Below z.heap.size z z5:=((Below.refl z.heap.size z).drew).trans h
structure Inv (w0 w:World)(p q:Nat)(bv:Value)(a:Nat)(bad f:Bool)(z:Int)(rv:Value)(ps:List (Rec×Value))(zv:Value)(zs:List Int):Prop where
 rd:Rd w p bv a bad
 st:w.heap[q]? = some (.cells #[.bool f,.int .i64 z,rv] 54 (0,0))
 rs:w.heap[w0.heap.size]? = some (.cells #[.bool false,.int .i64 0,.slice none 0 0] 54 (0,0))
 own:w.ownsRow w0.heap.size 98 2 rv ps.length (flatP ps)
 dat:∀ x∈ps,OwnB w w0.heap.size 5 x.2 x.1.data
 sums:OwnI w w0.heap.size zv zs
 bel:Below w0.heap.size w0 w
 hp:w0.heap.size<=p
 hq:w0.heap.size<q
section
variable {w0 w w':World}{p q a:Nat}{bv rv zv:Value}{bad f:Bool}{z:Int}{ps:List (Rec×Value)}{zs:List Int}
theorem blk_ne {w:World}{b b':Nat}{c c':Array Value}{t t':TypeId}{fr fr':Nat×Nat}(h:w.heap[b]? = some (.cells c t fr))(h':w.heap[b']? = some (.cells c' t' fr'))(ht:t≠t'):b≠b':=by
 rintro rfl;rw[h] at h';simp only[Option.some.injEq,Obj.cells.injEq] at h';exact ht h'.2.1
theorem blk_lt {w:World}{b:Nat}{o:Obj}(h:w.heap[b]? = some o):b<w.heap.size:=(Array.getElem?_eq_some_iff.1 h).1
theorem Inv.keep (h:Inv w0 w p q bv a bad f z rv ps zv zs)(hk:Kept w w' (·≠p)){a':Nat}{bad':Bool}(hr:Rd w' p bv a' bad')(hb:Below p w w'):Inv w0 w' p q bv a' bad' f z rv ps zv zs where
 rd:=hr
 st:=(hk.block q (blk_lt h.st) (blk_ne h.st h.rd (by decide))).trans h.st
 rs:=(hk.block _ (blk_lt h.rs) (blk_ne h.rs h.rd (by decide))).trans h.rs
 own:=ownsRow_kept h.own hk fun k e=>by rintro rfl;exact ownsRow_not h.own h.rd (by decide) e
 dat:=fun x hx=>(h.dat x hx).kept hk fun k e=>by rintro rfl;exact(h.dat x hx).not_block h.rd (by decide) e
 sums:=ownsRow_kept h.sums hk fun k e=>by rintro rfl;exact ownsRow_not h.sums h.rd (by decide) e
 bel:=h.bel.trans (hb.mono h.hp)
 hp:=h.hp
 hq:=h.hq
theorem Inv.below (h:Inv w0 w p q bv a bad f z rv ps zv zs)(hb:Below w.heap.size w w'):Inv w0 w' p q bv a bad f z rv ps zv zs :=
 h.keep (.of_below hb fun _ h _=>h) (h.rd.below hb) (hb.mono (Nat.le_of_lt (blk_lt h.rd)))
theorem Inv.set (h:Inv w0 w p q bv a bad f z rv ps zv zs){x:Nat}{c:Array Value}{fr:Nat×Nat}(hx:w.heap[x]? = some (.cells c 98 fr))(hv:rv.ownBlock≠some x)(hx0:w0.heap.size<=x)(o:Nat)(u:Value):Inv w0 (w.setCell ⟨x,o,none⟩ u) p q bv a bad f z rv ps zv zs:=by
 have hk:Kept w (w.setCell ⟨x,o,none⟩ u) (·≠x):=.set _ _ _ _ fun hn=>hn rfl;exact{
  rd:=(hk.block p (blk_lt h.rd) (blk_ne h.rd hx (by decide))).trans h.rd
  st:=(hk.block q (blk_lt h.st) (blk_ne h.st hx (by decide))).trans h.st
  rs:=(hk.block _ (blk_lt h.rs) (blk_ne h.rs hx (by decide))).trans h.rs
  own:=ownsRow_kept h.own hk fun k e=>by rintro rfl;exact hv e
  dat:=fun x hx'=>(h.dat x hx').kept hk fun k e=>by rintro rfl;exact(h.dat x hx').not_block hx (by decide) e
  sums:=ownsRow_kept h.sums hk fun k e=>by rintro rfl;exact ownsRow_not h.sums hx (by decide) e
  bel:=h.bel.setCell (p:=⟨x,o,none⟩) hx0 u
  hp:=h.hp
  hq:=h.hq}
theorem Inv.app (h:Inv w0 w p q bv a bad f z rv ps zv zs){rv':Value}{y:Rec×Value}(hg:w.grownBy w' rv.ownBlock)(ho:w'.ownsRow w0.heap.size 98 2 rv' (ps++[y]).length (flatP (ps++[y])))(hy:OwnB w w0.heap.size 5 y.2 y.1.data) :
  Inv w0 (w'.setCell ⟨q,2,none⟩ rv') p q bv a bad f z rv' (ps++[y]) zv zs:=by
 have hk0:Kept w w' (fun k=>rv.ownBlock≠some k):=.grown hg fun k e hn=>hn e;have hq':w'.heap[q]? = some (.cells #[.bool f,.int .i64 z,rv] 54 (0,0)):=(hk0.block q (blk_lt h.st) (ownsRow_not h.own h.st (by decide))).trans h.st;have hk1:Kept w' (w'.setCell ⟨q,2,none⟩ rv') (·≠q):=.set _ _ _ _ fun hn=>hn rfl;have hk:Kept w (w'.setCell ⟨q,2,none⟩ rv') (fun k=>rv.ownBlock≠some k/\k≠q) :=
  ⟨Nat.le_trans hk0.size hk1.size,fun k hk hn=>(hk1.block k (Nat.lt_of_lt_of_le hk hk0.size) hn.2).trans (hk0.block k hk hn.1),hk1.st.1.trans hk0.st.1,hk1.st.2.1.trans hk0.st.2.1,hk1.st.2.2.trans hk0.st.2.2⟩
 exact{
  rd:=(hk.block p (blk_lt h.rd) ⟨ownsRow_not h.own h.rd (by decide),blk_ne h.rd h.st (by decide)⟩).trans h.rd
  st:=by have:=heap_set1 w' q 2 rv' _ _ _ hq';exact this
  rs:=(hk.block _ (blk_lt h.rs) ⟨ownsRow_not h.own h.rs (by decide),fun e=>by have:=h.hq;omega⟩).trans h.rs
  own:=ownsRow_kept ho hk1 fun k e=>by rintro rfl;exact ownsRow_not ho hq' (by decide) e
  dat:=fun x hx=>by
   have hx':OwnB w w0.heap.size 5 x.2 x.1.data:=by
    rcases List.mem_append.1 hx with hx|hx
    ·exact h.dat x hx
    ·obtain rfl:x=y:=by simpa using hx
     exact hy
   exact hx'.kept hk fun k e=>⟨ownsRow_apart hx' h.own (by decide) k e,by rintro rfl;exact hx'.not_block h.st (by decide) e⟩
  sums:=ownsRow_kept h.sums hk fun k e=>⟨ownsRow_apart h.sums h.own (by decide) k e,by rintro rfl;exact ownsRow_not h.sums h.st (by decide) e⟩
  bel:=(h.bel.grown hg h.bel.size (fun k hk=>(World.ownsRow.lt h.own k hk).1)).setCell (p:=⟨q,2,none⟩) (Nat.le_of_lt h.hq) rv'
  hp:=h.hp
  hq:=h.hq}
theorem Inv.app_q (h:Inv w0 w p q bv a bad f z rv ps zv zs)(hg:w.grownBy w' rv.ownBlock):w'.heap[q]? = some (.cells #[.bool f,.int .i64 z,rv] 54 (0,0)) :=
 (hg.block q (blk_lt h.st) (fun e=>ownsRow_not h.own h.st (by decide) e.symm)).trans h.st
theorem row_slice {base s n:Nat}{e:TypeId}{v:Value}{xs:List Value}(h:w.ownsRow base e s v n xs):∃ oa m c,v = .slice oa m c:=by
 rcases h.2 with⟨rfl,_⟩|⟨g,cap,cur,rfl,_⟩
 ·exact⟨_,_,_,rfl⟩
 ·exact⟨_,_,_,rfl⟩
theorem Inv.sum (h:Inv w0 w p q bv a bad f z rv ps zv zs){zv':Value}{zs':List Int}(hg:w.grownBy w' zv.ownBlock)(ho:OwnI w' w0.heap.size zv' zs'):Inv w0 w' p q bv a bad f z rv ps zv' zs':=by
 have hk:Kept w w' (fun k=>zv.ownBlock≠some k):=.grown hg fun k e hn=>hn e;exact{
  rd:=(hk.block p (blk_lt h.rd) (ownsRow_not h.sums h.rd (by decide))).trans h.rd
  st:=(hk.block q (blk_lt h.st) (ownsRow_not h.sums h.st (by decide))).trans h.st
  rs:=(hk.block _ (blk_lt h.rs) (ownsRow_not h.sums h.rs (by decide))).trans h.rs
  own:=ownsRow_kept h.own hk fun k e=>ownsRow_apart h.own h.sums (by decide) k e
  dat:=fun x hx=>(h.dat x hx).kept hk fun k e=>ownsRow_apart (h.dat x hx) h.sums (by decide) k e
  sums:=ho
  bel:=h.bel.grown hg h.bel.size (fun k hk=>(World.ownsRow.lt h.sums k hk).1)
  hp:=h.hp
  hq:=h.hq}
theorem Inv.cells (h:Inv w0 w p q bv a bad f z rv ps zv zs) :
  w.cell? ⟨p,1,none⟩=some (.int .i64 a)/\w.cell? ⟨p,2,none⟩=some (.bool bad)/\w.cell? ⟨q,0,none⟩=some (.bool f)/\w.cell? ⟨q,1,none⟩=some (.int .i64 z)/\w.cell? ⟨q,2,none⟩=some rv/\w.frozen? ⟨q,2,none⟩=false:=by
 have h1:=h.rd;have h2:=h.st;unfold Rd at h1;refine⟨?_,?_,?_,?_,?_,?_⟩<;>simp[World.cell?,World.frozen?,h1,h2]
end
theorem Inv.store {w0 w:World}{p q a:Nat}{bv rv zv:Value}{bad f:Bool}{z:Int}{ps:List (Rec×Value)}{zs:List Int}(h:Inv w0 w p q bv a bad f z rv ps zv zs)(x0 x1 x2:Value) :
  (((w.setCell ⟨w0.heap.size,0,none⟩ x0).setCell ⟨w0.heap.size,1,none⟩ x1).setCell ⟨w0.heap.size,2,none⟩ x2).heap[w0.heap.size]? = some (.cells #[x0,x1,x2] 54 (0,0))/\
  (((w.setCell ⟨w0.heap.size,0,none⟩ x0).setCell ⟨w0.heap.size,1,none⟩ x1).setCell ⟨w0.heap.size,2,none⟩ x2).ownsRow w0.heap.size 98 2 rv ps.length (flatP ps)/\
  (∀ y∈ps,OwnB (((w.setCell ⟨w0.heap.size,0,none⟩ x0).setCell ⟨w0.heap.size,1,none⟩ x1).setCell ⟨w0.heap.size,2,none⟩ x2) w0.heap.size 5 y.2 y.1.data)/\
  OwnI (((w.setCell ⟨w0.heap.size,0,none⟩ x0).setCell ⟨w0.heap.size,1,none⟩ x1).setCell ⟨w0.heap.size,2,none⟩ x2) w0.heap.size zv zs/\
  Below w0.heap.size w0 (((w.setCell ⟨w0.heap.size,0,none⟩ x0).setCell ⟨w0.heap.size,1,none⟩ x1).setCell ⟨w0.heap.size,2,none⟩ x2):=by
 have k:Kept w (((w.setCell ⟨w0.heap.size,0,none⟩ x0).setCell ⟨w0.heap.size,1,none⟩ x1).setCell ⟨w0.heap.size,2,none⟩ x2) (·≠w0.heap.size) :=
  ((Kept.set w _ 0 x0 fun hn=>hn rfl).trans (.set _ _ 1 x1 fun hn=>hn rfl)).trans (.set _ _ 2 x2 fun hn=>hn rfl)
 have h1:=heap_set1 w w0.heap.size 0 x0 _ _ _ h.rs;have h2:=heap_set1 _ w0.heap.size 1 x1 _ _ _ h1;have h3:=heap_set1 _ w0.heap.size 2 x2 _ _ _ h2;exact⟨h3,ownsRow_kept h.own k fun j e=>by rintro rfl;exact ownsRow_not h.own h.rs (by decide) e,
  fun y hy=>(h.dat y hy).kept k fun j e=>by rintro rfl;exact(h.dat y hy).not_block h.rs (by decide) e,
  ownsRow_kept h.sums k fun j e=>by rintro rfl;exact ownsRow_not h.sums h.rs (by decide) e,
  ((h.bel.setCell (p:=⟨w0.heap.size,0,none⟩) nlr x0).setCell (p:=⟨w0.heap.size,1,none⟩) nlr x1).setCell (p:=⟨w0.heap.size,2,none⟩) nlr x2⟩
theorem OwnPs.slR {w:World}{base:Nat}{rv:Value}{ps:List (Rec×Value)}(h:w.ownsRow base 98 2 rv ps.length (flatP ps))(hd:∀ x∈ps,OwnB w base 5 x.2 x.1.data):SlR w w.heap.size rv (ps.map (·.1)):=by
 have hf:flatP ps=(ps.map fun x=>[Value.int .i64 x.1.at_,x.2]).flatten:=by unfold flatP;rw[List.flatMap_def]
 refine⟨ps.map fun x=>[.int .i64 x.1.at_,x.2],by simp,?_,fun i hi=>?_⟩
 ·refine ownsRow_slG (e:=98) (base:=base) (by rw[List.length_map,<-hf];exact h) ?_;intro r hr;simp at hr;obtain⟨a,b,_,rfl⟩:=hr;rfl
 ·rw[List.length_map] at hi;refine⟨ps[i].2,?_,?_⟩
  ·simp[List.getD_eq_getElem?_getD,hi]
  ·have:=(hd ps[i] (List.getElem_mem _)).slB;simpa[List.getD_eq_getElem?_getD,hi] using this
end Go.Proofs.YtgkabcaodnofnaaGreat.Sb
