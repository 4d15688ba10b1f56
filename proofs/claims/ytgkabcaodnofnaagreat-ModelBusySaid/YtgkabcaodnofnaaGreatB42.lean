import Derived.Test.YtgkabcaodnofnaaGreatB41
import Derived.Test.YtgkabcaodnofnaaGreatB39
import Derived.Test.YtgkabcaodnofnaaGreatB14
import Derived.Test.YtgkabcaodnofnaaGreatB40
set_option linter.unusedSimpArgs false
set_option linter.unusedVariables false
set_option maxRecDepth 100000
set_option maxHeartbeats 3000000
open Go.Proofs.Tryz
namespace Go.Proofs.YtgkabcaodnofnaaGreat
open Go.RowKit Go.Mx Go.Md Go.Str
theorem zcells54 {w:World}{rb:Nat}(h:w.heap[rb]? = some (.cells #[.bool false,.int .i64 0,.slice none 0 0] 54 (0,0))):w.cell? ⟨rb,0,none⟩=some (.bool false)/\w.cell? ⟨rb,1,none⟩=some (.int .i64 0)/\w.cell? ⟨rb,2,none⟩=some (.slice none 0 0)/\∀ j,w.frozen? ⟨rb,j,none⟩=false:=by
 refine⟨?_,?_,?_,fun j=>?_⟩<;>simp[World.cell?,World.frozen?,h]
theorem st3_heap {w:World}{rb:Nat}{a0 a1 a2:Value}{t:TypeId}(v0 v1 v2:Value)(h:w.heap[rb]? = some (.cells #[a0,a1,a2] t (0,0))):(((w.setCell ⟨rb,0,none⟩ v0).setCell ⟨rb,1,none⟩ v1).setCell ⟨rb,2,none⟩ v2).heap[rb]? = some (.cells #[v0,v1,v2] t (0,0)):=by
 have h0:=heap_setCell_at' w rb 0 v0 _ t _ h;have h1:=heap_setCell_at' _ rb 1 v1 _ t _ h0;exact heap_setCell_at' _ rb 2 v2 _ t _ h1
section
variable {w2 wr wr':World}{bx:Nat}{full:Bool}{size:Nat}{ps:List (Rec×Value)}{rv:Value}
theorem ER.app2 (h:ER w2 wr bx full size ps rv)(p:Rec×Value)(hd:OwnB wr w2.heap.size 5 p.2 p.1.data) :
  OwnG (wr.alloc (.cells #[.int .i64 p.1.at_,p.2] 98)) w2.heap.size 98 2 rv (ps.map fun p=>[.int .i64 p.1.at_,p.2])/\(∀ (j:Nat) (u:Value),([.int .i64 p.1.at_,p.2]:List Value)[j]? = some u->(wr.alloc (.cells #[.int .i64 p.1.at_,p.2] 98)).cell? ⟨wr.heap.size,j,none⟩=some u)/\
  w2.heap.size<=(wr.alloc (.cells #[.int .i64 p.1.at_,p.2] 98)).heap.size/\Below wr.heap.size wr (wr.alloc (.cells #[.int .i64 p.1.at_,p.2] 98))/\
  ∀ v9 w9,OwnG w9 w2.heap.size 98 2 v9 ((ps.map fun p=>[.int .i64 p.1.at_,p.2])++[[.int .i64 p.1.at_,p.2]])->(wr.alloc (.cells #[.int .i64 p.1.at_,p.2] 98)).grownBy w9 rv.ownBlock->Below w2.heap.size (wr.alloc (.cells #[.int .i64 p.1.at_,p.2] 98)) w9->
   w9.frozen? ⟨bx,2,none⟩=false/\w9.cell? ⟨bx,2,none⟩=some rv/\ER w2 (w9.setCell ⟨bx,2,none⟩ v9) bx full size (ps++[p]) v9:=by
 have hb:Below wr.heap.size wr (wr.alloc (.cells #[.int .i64 p.1.at_,p.2] 98)):=brf.alloc nlr _;have hrow:∀ (j:Nat) (u:Value),([.int .i64 p.1.at_,p.2]:List Value)[j]? = some u->(wr.alloc (.cells #[.int .i64 p.1.at_,p.2] 98)).cell? ⟨wr.heap.size,j,none⟩=some u:=fun j u hu=>row_cells wr [.int .i64 p.1.at_,p.2] 98 j u hu;have h8:=h.below hb;refine⟨h8.o,hrow,h8.b.size,hb,fun v9 w9 ho hg hb9=>?_⟩;have h9:=h8.put p (hd.below hb (fun q hq=>hd.lt q hq)) ho hg hb9;exact⟨by simp[World.frozen?,h9.1],by simp[World.cell?,h9.1],h9.2⟩
end
theorem cells54' {w:World}{bx:Nat}{f:Bool}{z:Int}{rv:Value}(h:w.heap[bx]? = some (.cells #[.bool f,.int .i64 z,rv] 54 (0,0))):w.cell? ⟨bx,0,none⟩=some (.bool f)/\w.cell? ⟨bx,1,none⟩=some (.int .i64 z)/\w.cell? ⟨bx,2,none⟩=some rv:=by
 refine⟨?_,?_,?_⟩<;>simp[World.cell?,h]
theorem num31' (b:Bs)(bv:Value)(a n:Nat)(w:World)(hb:SlB w w.heap.size bv b)(hl:b.length<=1000000000)(h1:1<=n)(h4:n<=2)(hin:a+n<=b.length) :
  Calls prog 31 #[bv,.int .i64 a,.int .i64 n] w fun e w'=>∃ v:Nat,e = .returned (.int .i64 v)/\v<65536/\w=w' :=
 (Sb.num31 b bv a n w.heap.size w hb hl h1 (by omega) hin).mono fun e w' ⟨v,h1,h2,h3⟩=>⟨v,h1,Nat.lt_of_lt_of_le h2 (Nat.pow_le_pow_right (n:=256) (by omega) (show n<=2 by omega)),h3⟩
def GetR (w:World)(e:Ending)(w':World):Prop:=∃ (f:Bool) (z:Int) (oa:Option Addr) (n c:Nat) (code:Int),e = .returned (.tuple #[.agg #[.bool f,.int .i64 z,.slice oa n c],.int .i64 code])/\Below w.heap.size w w'
theorem rget_any (b:List UInt8)(bv:Value)(w:World)(hb:SlB w w.heap.size bv b)(hl:b.length<=100000):Calls prog 20 #[bv] w (GetR w):=by
 have hlb:=fun w'=>hb.len (P:=prog) (ty:=3) underlying23 w';obtain⟨w1,hw1⟩:∃ w1,w1=w.alloc (.cells #[.bool false,.int .i64 0,.slice none 0 0] 54):=⟨_,rfl⟩
 have hb1:Below w.heap.size w w1:=by rw[hw1];exact brf.alloc nlr _
 have hr1:w1.heap[w.heap.size]? = some (.cells #[.bool false,.int .i64 0,.slice none 0 0] 54 (0,0)):=by rw[hw1];exact alloc_new w _
 have hsb:=(hb.below hb1 nlr).mono hb1.size;obtain⟨rb,hrb⟩:∃ rb,rb=w.heap.size:=⟨_,rfl⟩
 have hlt:rb<w1.heap.size:=by rw[hrb];exact blk_lt hr1
 have q1:∀ w',Below w1.heap.size w1 w'->w'.heap[rb]? = some (.cells #[.bool false,.int .i64 0,.slice none 0 0] 54 (0,0)):=fun w' hB=>(hB.block rb hlt).trans (by rw[hrb];exact hr1);have H:=jd4 hsb hb1 hrb q1;have HE:=hid (fun w' (hB:Below w1.heap.size w1 w')=>zcells54 (q1 w' hB));have HS:=hid (fun w' (hB:Below w1.heap.size w1 w')=>(hsb.below hB nlr).mono hB.size);have HW:=hid hw1;obtain⟨x0,x1,x2,xz⟩:=zcells54 (q1 w1 brf);have hxr:∀ w' (v0:Bool) (v1:Int) (v2:Value) (code:Int),Below w1.heap.size w1 w'->(∃ oa n c,v2 = .slice oa n c)->
   Below w.heap.size w (((w'.setCell ⟨rb,0,none⟩ (.bool v0)).setCell ⟨rb,1,none⟩ (.int .i64 v1)).setCell ⟨rb,2,none⟩ v2):=fun w' v0 v1 v2 code hB _=>by
  have h2:Below w.heap.size w w':=hb1.trans (hB.mono hb1.size);have hge:w.heap.size<=rb:=by rw[hrb];exact nlr
  exact((h2.setCell (p:=⟨rb,0,none⟩) hge _).setCell (p:=⟨rb,1,none⟩) hge _).setCell (p:=⟨rb,2,none⟩) hge _
 have HXR:=hid hxr;clear hb hb1 hr1 hsb hlt q1 hxr hw1 hrb;by_cases h13:b.length<13
 ·have e13:((b.length:Int)<13):=by omega
  go_enter func20,ntmps20
  go_upto_region 2 with(fail)
  rw[<-HW.out,<-H.out.2.2.1];clear x0 x1 x2 xz;obtain⟨x0,x1,x2,xz⟩:=HE.out w1 brf
  go_wp2_with fail
  obtain⟨W,hWe⟩:∃ W,W=(((w1.setCell ⟨rb,0,none⟩ (.bool false)).setCell ⟨rb,1,none⟩ (.int .i64 0)).setCell ⟨rb,2,none⟩ (.slice none 0 0)):=⟨_,rfl⟩
  have hqW:=st3_heap (.bool false) (.int .i64 0) (.slice none 0 0) (H.out.2.2.2 w1 brf);have hbW:=HXR.out w1 false 0 (.slice none 0 0) 3 brf ⟨_,_,_,rfl⟩;rw[<-hWe] at hqW hbW;obtain⟨y0,y1,y2,_⟩:=zcells54 hqW;change bodyPost _ _ _ _ _ (((w1.setCell ⟨rb,0,none⟩ (.bool false)).setCell ⟨rb,1,none⟩ (.int .i64 0)).setCell ⟨rb,2,none⟩ (.slice none 0 0));rw[<-hWe];clear hWe hqW x0 x1 x2 xz;exact bodyPost_ret (v:=.tuple #[.agg #[.bool false,.int .i64 0,.slice none 0 0],.int .i64 3]) (by simp[results,results20,go_sem,y0,y1,y2]) rfl ⟨_,_,_,_,_,_,rfl,hbW⟩
 ·have e13:¬ ((b.length:Int)<13):=by omega
  have e26:¬ ((262144:Int)<(b.length:Int)):=by omega
  obtain⟨v4,h4,hs4⟩:=H.out.1.to (P:=prog) underlying23 size5' 4 (by omega);obtain⟨va,vn,vc,rfl⟩:=slB_shape h4;have hc4:=conv_sl (P:=prog) (src:=23) (dst:=9) underlying23 underlying5 underlying9 h4;obtain⟨i4,hi4⟩:∃ m,m=b.take 4:=⟨_,rfl⟩
  rw[<-hi4] at hc4;obtain⟨bb,bo,hbb,hia,hcb⟩:=H.out.1.addr (P:=prog) underlying23 size5' 4 (by omega);obtain⟨x4,hx4⟩:∃ x,x=b.getD 4 0:=⟨_,rfl⟩
  rw[<-hx4] at hcb;have HCB:=hid (fun w' (hB:Below w1.heap.size w1 w')=>(hB.cell (p:=⟨bb,bo,none⟩) hbb).trans hcb);clear h4 hi4 hx4;have hs4':∀ w' (k:IntKind),(Instr.slice 23 bv none (some (.int k 4)) none).run prog w' = .ok (.slice va vn vc) w':=hs4;have hia':∀ w' (k:IntKind),(Instr.indexAt 23 bv (.int k 4)).run prog w' = .ok (.pointer (some ⟨bb,bo,none⟩)) w':=hia;rw[HW.out] at hc4 hcb;clear hs4 hia;by_cases hm:i4=[77,84,82,75]
  rotate_left
  ·have hbn:(i4==[77,84,82,75])=false:=by rw[beq_eq_false_iff_ne];exact hm
   clear hm;go_enter func20,ntmps20
   go_upto_region 2 with(fail)
   rw[<-HW.out,<-H.out.2.2.1];clear x0 x1 x2 xz;obtain⟨x0,x1,x2,xz⟩:=HE.out w1 brf
   go_wp2_with fail
   obtain⟨W,hWe⟩:∃ W,W=(((w1.setCell ⟨rb,0,none⟩ (.bool false)).setCell ⟨rb,1,none⟩ (.int .i64 0)).setCell ⟨rb,2,none⟩ (.slice none 0 0)):=⟨_,rfl⟩
   have hqW:=st3_heap (.bool false) (.int .i64 0) (.slice none 0 0) (H.out.2.2.2 w1 brf);have hbW:=HXR.out w1 false 0 (.slice none 0 0) 3 brf ⟨_,_,_,rfl⟩;rw[<-hWe] at hqW hbW;obtain⟨y0,y1,y2,_⟩:=zcells54 hqW;change bodyPost _ _ _ _ _ (((w1.setCell ⟨rb,0,none⟩ (.bool false)).setCell ⟨rb,1,none⟩ (.int .i64 0)).setCell ⟨rb,2,none⟩ (.slice none 0 0));rw[<-hWe];clear hWe hqW x0 x1 x2 xz;exact bodyPost_ret (v:=.tuple #[.agg #[.bool false,.int .i64 0,.slice none 0 0],.int .i64 3]) (by simp[results,results20,go_sem,y0,y1,y2]) rfl ⟨_,_,_,_,_,_,rfl,hbW⟩
  have hbn:(i4==[77,84,82,75])=true:=by rw[hm];rfl
  clear hm;by_cases h41:1<x4.toNat
  ·have e41:(1:Int)<(x4.toNat:Int):=by omega
   clear h41;go_enter func20,ntmps20
   go_upto_region 2 with(fail)
   rw[<-HW.out,<-H.out.2.2.1];clear x0 x1 x2 xz;obtain⟨x0,x1,x2,xz⟩:=HE.out w1 brf
   go_wp2_with fail
   obtain⟨W,hWe⟩:∃ W,W=(((w1.setCell ⟨rb,0,none⟩ (.bool false)).setCell ⟨rb,1,none⟩ (.int .i64 0)).setCell ⟨rb,2,none⟩ (.slice none 0 0)):=⟨_,rfl⟩
   have hqW:=st3_heap (.bool false) (.int .i64 0) (.slice none 0 0) (H.out.2.2.2 w1 brf);have hbW:=HXR.out w1 false 0 (.slice none 0 0) 3 brf ⟨_,_,_,rfl⟩;rw[<-hWe] at hqW hbW;obtain⟨y0,y1,y2,_⟩:=zcells54 hqW;change bodyPost _ _ _ _ _ (((w1.setCell ⟨rb,0,none⟩ (.bool false)).setCell ⟨rb,1,none⟩ (.int .i64 0)).setCell ⟨rb,2,none⟩ (.slice none 0 0));rw[<-hWe];clear hWe hqW x0 x1 x2 xz;exact bodyPost_ret (v:=.tuple #[.agg #[.bool false,.int .i64 0,.slice none 0 0],.int .i64 3]) (by simp[results,results20,go_sem,y0,y1,y2]) rfl ⟨_,_,_,_,_,_,rfl,hbW⟩
  have e41:¬ (1:Int)<(x4.toNat:Int):=by omega
  have HN5:Hid (∀ w',Below w1.heap.size w1 w'->Calls prog 31 #[bv,.int .i64 5,.int .i64 2] w' fun e w''=>∃ v:Nat,e = .returned (.int .i64 v)/\v<65536/\w'=w''):=hid (fun w' hB=>num31' b bv 5 2 w' (HS.out w' hB) (by omega) (by omega) (by omega) (by omega));have HN7:Hid (∀ w',Below w1.heap.size w1 w'->Calls prog 31 #[bv,.int .i64 7,.int .i64 2] w' fun e w''=>∃ v:Nat,e = .returned (.int .i64 v)/\v<65536/\w'=w''):=hid (fun w' hB=>num31' b bv 7 2 w' (HS.out w' hB) (by omega) (by omega) (by omega) (by omega));go_enter func20,ntmps20
  go_upto_region 3 with(fail)
  rw[<-HW.out,<-H.out.2.2.1];have hcb3:∀ w',Below w1.heap.size w1 w'->w'.cell? ⟨bb,bo,none⟩=some (.int .u8 (x4.toNat:Int)):=fun w' hB=>HCB.out w' hB;clear hcb hc4
  go_cut [4] from 32 (fun s4 wx=>∃ (bx z5:Nat) (f:Bool),s4 = .pointer (some ⟨bx,0,none⟩)/\z5<=65535/\Hid (ER w1 wx bx f z5 [] nilS))
  case first =>
   go_region_held (fun w'=>Below w1.heap.size w1 w') (first|with_reducible assumption|(solve|(repeat (first|with_reducible exact Below.refl _ _|with_reducible assumption|with_reducible apply Below.drew|with_reducible refine Below.alloc ?_ ?_ _|with_reducible exact Nat.le_refl _|(simp;done)|exact Below.size (by assumption))))) (first
   | (go_at_call 31;refine(HN5.out _ (by first|assumption|(solve|(repeat (first|with_reducible exact Below.refl _ _|with_reducible apply Below.drew|with_reducible refine Below.alloc ?_ ?_ _|with_reducible exact Nat.le_refl _|(simp;done)))))).mono ?_;rintro e w5 ⟨z5,rfl,hz5,hw5⟩;subst hw5))
   all_goals
    go_wp2_with fail
    have hERn:ER w1 ((w1.alloc (.cells #[.bool ((x4.toNat:Int)==1),.int .i64 z5,.slice none 0 0] 54)).drew) w1.heap.size ((x4.toNat:Int)==1) z5 [] nilS:=⟨(brf.alloc nlr _).drew,alloc_new w1 _,OwnG.nil _ _ _ _,by simp,nlr⟩
    have HERN:=hid hERn;clear hERn
    go_meet
    case rel=>exact⟨_,z5,_,rfl,by omega,hid HERN.out⟩
  case rest =>
   obtain⟨bx,z5,fl,rfl,hz5,hC⟩:=hcut;obtain⟨w3,hw3⟩:∃ q,q=wc:=⟨_,rfl⟩
   subst hw3;clear x0 x1 x2 xz;go_upto_region 8 with(go_at_call 31;refine(HN7.out _ hC.out.b).mono ?_;rintro e w5 ⟨n5,rfl,hn5,hw5⟩;subst hw5)
   obtain⟨BL,hBL⟩:∃ q,q=b.length:=⟨_,rfl⟩
   rw[<-hBL] at hlb hl h13;have HBL:=hid hBL;clear hBL
   go_loopw [6,7,8] (fun s6 s7 s8 wr=>∃ (a i:Nat) (sb:Bool) (ps:List (Rec×Value)) (rv:Value),s6 = .int .i64 a/\s7 = .bool sb/\s8 = .int .i64 i/\9<=a/\a<=BL/\i<=n5/\Hid (ER w1 wr bx fl z5 ps rv/\ps.length<=i)) (fun _ _ s8 _=>n5-(intOf s8).toNat)
   case atStart=>exact⟨9,0,true,[],nilS,rfl,rfl,rfl,nlr,by omega,Nat.zero_le _,hid ⟨hC.out,nlr⟩⟩
   case round =>
    obtain⟨a,i,sb,ps,rv,rfl,rfl,rfl,ha9,haB,hi,hR⟩:=hrel;obtain⟨wO,hwO⟩:∃ q,q=wr:=⟨_,rfl⟩
    subst hwO;obtain⟨ra,rn,rc,rfl⟩:=ownG_sh hR.out.1.o;by_cases hlt:i<n5
    ·by_cases h8:BL<a+8
     ·have e8:(BL:Int)-(a:Int)<8:=by omega
      have hbO:=hR.out.1.b;have x0:=True.intro;have x1:=True.intro;have x2:=True.intro;have xz:=True.intro;go_upto_region 11 with(fail)
      clear x0 x1 x2 xz;obtain⟨x0,x1,x2,xz⟩:=HE.out wO hbO
      go_wp2_with fail
      obtain⟨W,hWe⟩:∃ W,W=(((wO.setCell ⟨rb,0,none⟩ (.bool false)).setCell ⟨rb,1,none⟩ (.int .i64 0)).setCell ⟨rb,2,none⟩ (.slice none 0 0)):=⟨_,rfl⟩
      have hqW:=st3_heap (.bool false) (.int .i64 0) (.slice none 0 0) (H.out.2.2.2 wO hbO);have hbW:=HXR.out wO false 0 (.slice none 0 0) 3 hbO ⟨_,_,_,rfl⟩;rw[<-hWe] at hqW hbW;obtain⟨y0,y1,y2,_⟩:=zcells54 hqW;change bodyPost _ _ _ _ _ (((wO.setCell ⟨rb,0,none⟩ (.bool false)).setCell ⟨rb,1,none⟩ (.int .i64 0)).setCell ⟨rb,2,none⟩ (.slice none 0 0));rw[<-hWe];clear hWe hqW x0 x1 x2 xz;exact bodyPost_ret (v:=.tuple #[.agg #[.bool false,.int .i64 0,.slice none 0 0],.int .i64 3]) (by simp[results,results20,go_sem,y0,y1,y2]) rfl ⟨_,_,_,_,_,_,rfl,hbW⟩
     ·have e8:¬ (BL:Int)-(a:Int)<8:=by omega
      have HNa:Hid (∀ w',Below w1.heap.size w1 w'->Calls prog 31 #[bv,.int .i64 a,.int .i64 2] w' fun e w''=>∃ v:Nat,e = .returned (.int .i64 v)/\v<65536/\w'=w''):=hid (fun w' hB=>num31' b bv a 2 w' (HS.out w' hB) (by rw[<-HBL.out];omega) (by omega) (by omega) (by rw[<-HBL.out];omega));have HNb:Hid (∀ w',Below w1.heap.size w1 w'->Calls prog 31 #[bv,.int .i64 ((a:Int)+2),.int .i64 2] w' fun e w''=>∃ v:Nat,e = .returned (.int .i64 v)/\v<65536/\w'=w''):=hid (fun w' hB=>num31' b bv (a+2) 2 w' (HS.out w' hB) (by rw[<-HBL.out];omega) (by omega) (by omega) (by rw[<-HBL.out];omega));go_upto_region 13 with(go_at_call 31;refine(HNa.out _ hR.out.1.b).mono ?_;rintro e w5 ⟨at5,rfl,hat5,hw5⟩;subst hw5)
      obtain⟨wA,hwA⟩:∃ z,z=wO.alloc (.cells #[.int .i64 at5,.slice none 0 0] 98):=⟨_,rfl⟩
      rw[<-hwA];have hbA:Below wO.heap.size wO wA:=by rw[hwA];exact brf.alloc nlr _
      obtain⟨qb,hqb⟩:∃ q,q=wO.heap.size:=⟨_,rfl⟩
      have hqA:wA.heap[qb]? = some (.cells #[.int .i64 at5,.slice none 0 0] 98 (0,0)):=by rw[hwA,hqb];exact alloc_new wO _
      rw[<-hqb];have hERA:=hR.out.1.below hbA;have HA:=jd4 hbA hqA hqb hERA;clear hwA hbA hqA hqb hERA;go_upto_region 15 with(go_at_call 31;refine(HNb.out _ HA.out.2.2.2.b).mono ?_;rintro e w5 ⟨k5,rfl,hk5,hw5⟩;subst hw5)
      by_cases hk:BL<a+4+(k5*16+4)
      ·have ek:(BL:Int)-((a:Int)+4)<(k5:Int)*16+4:=by omega
       have hbO:=HA.out.2.2.2.b;have x0:=True.intro;have x1:=True.intro;have x2:=True.intro;have xz:=True.intro;go_upto_region 16 with(fail)
       clear x0 x1 x2 xz;obtain⟨x0,x1,x2,xz⟩:=HE.out wA hbO
       go_wp2_with fail
       obtain⟨W,hWe⟩:∃ W,W=(((wA.setCell ⟨rb,0,none⟩ (.bool false)).setCell ⟨rb,1,none⟩ (.int .i64 0)).setCell ⟨rb,2,none⟩ (.slice none 0 0)):=⟨_,rfl⟩
       have hqW:=st3_heap (.bool false) (.int .i64 0) (.slice none 0 0) (H.out.2.2.2 wA hbO);have hbW:=HXR.out wA false 0 (.slice none 0 0) 3 hbO ⟨_,_,_,rfl⟩;rw[<-hWe] at hqW hbW;obtain⟨y0,y1,y2,_⟩:=zcells54 hqW;change bodyPost _ _ _ _ _ (((wA.setCell ⟨rb,0,none⟩ (.bool false)).setCell ⟨rb,1,none⟩ (.int .i64 0)).setCell ⟨rb,2,none⟩ (.slice none 0 0));rw[<-hWe];clear hWe hqW x0 x1 x2 xz;exact bodyPost_ret (v:=.tuple #[.agg #[.bool false,.int .i64 0,.slice none 0 0],.int .i64 3]) (by simp[results,results20,go_sem,y0,y1,y2]) rfl ⟨_,_,_,_,_,_,rfl,hbW⟩
      ·have ek:¬ (BL:Int)-((a:Int)+4)<(k5:Int)*16+4:=by omega
       obtain⟨K,hKK⟩:∃ q,q=k5*16:=⟨_,rfl⟩
       obtain⟨lo,hlo⟩:∃ q,q=a+4:=⟨_,rfl⟩
       obtain⟨hi_,hhi⟩:∃ q,q=lo+K:=⟨_,rfl⟩
       obtain⟨pv,hpv,hpr⟩:=(HS.out wA HA.out.2.2.2.b).part (P:=prog) underlying23 size5' lo hi_ (by omega) (by rw[<-HBL.out];omega);obtain⟨pa,pn,pc,rfl⟩:=slB_shape hpv;obtain⟨PB,hPB⟩:∃ q,q=(b.take hi_).drop lo:=⟨_,rfl⟩
       have hPl:PB.length<=100000:=by rw[hPB,List.length_drop,List.length_take];have:=HBL.out;omega
       rw[<-hPB] at hpv;have hpr':∀ w' (k k':IntKind),(Instr.slice 23 bv (some (.int k ((a:Int)+4))) (some (.int k' ((a:Int)+4+(k5:Int)*16))) none).run prog w' = .ok (.slice pa pn pc) w':=by
        rw[show(a:Int)+4=(lo:Int) by rw[hlo];push_cast;rfl,show(lo:Int)+(k5:Int)*16=(hi_:Int) by rw[hhi,hKK];push_cast;rfl];exact hpr
       have qA:=HA.out.2.1;have c98:wA.cell? ⟨qb,1,none⟩=some (.slice none 0 0):=by simp[World.cell?,qA]
       have HP9:=hid hpv;have HKL:=jd3 hKK hlo hhi;have HE0:=hid (fun(W:World)=>own_empty W 5);clear hKK hlo hhi hpr hPB hpv qA;go_upto_region 17 with(fail)
       have hpvB:SlB (wA.alloc (.cells #[] 5)) wA.heap.size (.slice pa pn pc) PB:=HP9.out.below (brf.alloc nlr _) nlr;have hqlt:qb<wA.heap.size:=blk_lt HA.out.2.1;go_upto_region 18 with(at_builtin;refine append_sl _ rfl _ _ 23 5 rfl underlying23 info5 wA.heap.size _ [] rfl (own_empty wA 5) _ PB wA.heap.size rfl hpvB (by simp;omega) (by simp) ?_;intro v9 w9 ho9 hb9;obtain⟨za,zn,zc,rfl⟩:=ownB_sh ho9;have hb9':Below wA.heap.size wA w9:=Below.trans (brf.alloc nlr _) hb9;have q9:w9.heap[qb]? = some (.cells #[.int .i64 at5,.slice none 0 0] 98 (0,0)):=(hb9'.block qb hqlt).trans HA.out.2.1;have c9:w9.cell? ⟨qb,1,none⟩=some (.slice none 0 0):=(by simp[World.cell?,q9]);have z9:w9.frozen? ⟨qb,1,none⟩=false:=(by simp[World.frozen?,q9]);have H9:=jd3 ho9 hb9' q9;clear ho9 hb9 hb9' q9 hpvB)
       obtain⟨wB,hwB⟩:∃ z,z=w9.setCell ⟨qb,1,none⟩ (.slice za zn zc):=⟨_,rfl⟩
       rw[<-hwB];have hqO:wO.heap.size<=qb:=by rw[HA.out.2.2.1];exact nlr
       have hbB:Below wO.heap.size wO wB:=by rw[hwB];exact(HA.out.1.trans (H9.out.2.1.mono HA.out.1.size)).setCell hqO _
       have hqB:wB.heap[qb]? = some (.cells #[.int .i64 at5,.slice za zn zc] 98 (0,0)):=by rw[hwB,heap_setCell_at' w9 qb 1 _ _ 98 _ H9.out.2.2];rfl
       have hdB:OwnB wB w1.heap.size 5 (.slice za zn zc) PB:=by
        rw[hwB];have h9:OwnB w9 w1.heap.size 5 (.slice za zn zc) PB:=by have:=H9.out.1;rw[List.nil_append] at this;exact this.any_base (Nat.le_trans HA.out.2.2.2.b.size nlr)
        exact h9.kept (N:=(·≠qb)) (Kept.set _ _ _ _ (by simp)) fun q hq e=>by
         obtain⟨c1,f1,h1⟩:=ownB_type h9 q hq;rw[e,H9.out.2.2] at h1;cases h1
       have hERB:=hR.out.1.below hbB;have HB:=jd4 hbB hqB hdB hERB;have p0:∀ w',Below wB.heap.size wB w'->w'.cell? ⟨qb,0,none⟩=some (.int .i64 at5):=fun w' hB=>by have:=(hB.block qb (blk_lt hqB)).trans hqB;simp[World.cell?,this]
       have p1:∀ w',Below wB.heap.size wB w'->w'.cell? ⟨qb,1,none⟩=some (.slice za zn zc):=fun w' hB=>by have:=(hB.block qb (blk_lt hqB)).trans hqB;simp[World.cell?,this]
       have HSU:=hid (fun w' (hB:Below wB.heap.size wB w')=>Sb.rsum_any PB (.slice za zn zc) w' (hdB.below hB (fun q hq=>hdB.lt q hq)).slB (by omega));obtain⟨su,hsu⟩:∃ q,q=(Go.Crc.sum PB).toNat:=⟨_,rfl⟩
       have hsul:su<4294967296:=by rw[hsu];exact(Go.Crc.sum PB).isLt
       rw[<-hsu] at HSU;have hsw:IntKind.i64.wrap (su:Int)=(su:Int):=IntWalk.i64_in _ (by omega);have HNc:Hid (∀ w',Below w1.heap.size w1 w'->Calls prog 31 #[bv,.int .i64 ((a:Int)+4+(k5:Int)*16),.int .i64 4] w' fun e w''=>∃ v:Nat,e = .returned (.int .i64 v)/\w'=w''):=hid (fun w' hB=>(Sb.num31 b bv (a+4+k5*16) 4 w'.heap.size w' (HS.out w' hB) (by rw[<-HBL.out];omega) (by omega) (by omega) (by rw[<-HBL.out];omega)).mono fun e w'' ⟨v,h1,_,h3⟩=>⟨v,h1,h3⟩);have hEb:=hERB.b;have hwk:IntKind.i64.wrap ((a:Int)+4+(k5:Int)*16)=(a:Int)+4+(k5:Int)*16:=IntWalk.i64_in _ (by omega);clear hwB hqO hbB hqB hdB hERB hsu c98 c9 z9 hqlt
       go_cut [7] from 80 to 102 (fun s7 wx=>∃ sb2:Bool,s7 = .bool sb2/\Hid (Below wB.heap.size wB wx))
       case first =>
        have hB0:Below wB.heap.size wB wB.drew:=brf.drew;cases sb
        ·have hbn0:∀ n,Below wB.heap.size wB (wB.drewN n):=fun n=>bel_drewN brf n;have HBN:=hid hbn0;clear hbn0
         go_quiet (fail)
         go_wp2_with fail
         go_meet
         case rel=>exact⟨_,rfl,hid (HBN.out _)⟩
        ·go_region_held (fun w'=>Below wB.heap.size wB w') (first|with_reducible exact hB0|with_reducible assumption|with_reducible exact Below.drew (by assumption)) (first
          | (go_at_call 32;refine(HSU.out _ (by assumption)).mono ?_;rintro e w12 ⟨rfl,hw12⟩;subst hw12)
          | (go_at_call 31;refine(HNc.out _ (hEb.trans (Below.mono (by assumption) hEb.size))).mono ?_;rintro e w11 ⟨v11,rfl,hw11⟩;subst hw11))
         go_wp2_with fail
         go_meet
         case rel=>exact⟨_,rfl,hid hB0⟩
       case rest =>
        obtain⟨sb2,rfl,hD⟩:=hcut;obtain⟨wC,hwC⟩:∃ q,q=wc:=⟨_,rfl⟩
        subst hwC;have hERC:=HB.out.2.2.2.below hD.out;have hdC:OwnB wC w1.heap.size 5 (.slice za zn zc) PB:=HB.out.2.2.1.below hD.out (fun q hq=>HB.out.2.2.1.lt q hq);obtain⟨hoA,hrowA,hsA,hbA2,hpA⟩:=hERC.app2 (⟨((at5:Nat):Int),PB⟩,.slice za zn zc) hdC;have HPA:=hid hpA;have hlA2:((List.map (fun p:Rec×Value=>[Value.int .i64 p.1.at_,p.2]) ps).length+1)*32<=140737488355328:=by rw[List.length_map];have:=hR.out.2;omega
        have hlA3:(List.map (fun p:Rec×Value=>[Value.int .i64 p.1.at_,p.2]) ps).length+1<=140737488355328:=by rw[List.length_map];have:=hR.out.2;omega
        have r2:=hERC.cells.2.2.1;have p0C:=p0 wC hD.out;have p1C:=p1 wC hD.out;have hwk2:IntKind.i64.wrap ((a:Int)+4+(k5:Int)*16+4)=(a:Int)+4+(k5:Int)*16+4:=IntWalk.i64_in _ (by omega);clear hpA hERC hdC p0 p1 hEb
        go_wp2_with (at_builtin;refine append_g _ rfl _ _ 52 98 _ 2 32 rfl underlying52 info98' rfl (by decide) w1.heap.size _ (List.map (fun p:Rec×Value=>[Value.int .i64 p.1.at_,p.2]) ps) rfl hoA wC.heap.size 1 [.int .i64 at5,.slice za zn zc] rfl rfl hrowA (by simp[Value.oneCell']) hlA2 hlA3 hsA ?_;intro v13 w13 ho13 hg13 hb13;obtain⟨ka,kn,kc,rfl⟩:=ownG_sh ho13;obtain⟨z13,c13,hER13⟩:=HPA.out _ _ ho13 hg13 hb13;have HER:=hid hER13;clear hER13 ho13 hg13 hb13)
        go_roundw
        case measure=>simp only[intOf];omega
        case rel=>exact⟨a+4+k5*16+4,i+1,sb2,_,_,by go_num,rfl,by go_num,by omega,by omega,by omega,hid ⟨HER.out,by rw[List.length_append];have:=hR.out.2;simp;omega⟩⟩
    ·obtain rfl:i=n5:=by omega
     have hbO:=hR.out.1.b;by_cases h4:BL=a+4;rotate_left
     ·have e4:¬ (BL:Int)-(a:Int)=4:=by omega
      have x0:=True.intro;have x1:=True.intro;have x2:=True.intro;have xz:=True.intro;clear h4;go_upto_region 22 with(fail)
      clear x0 x1 x2 xz;obtain⟨x0,x1,x2,xz⟩:=HE.out wO hbO
      go_wp2_with fail
      obtain⟨W,hWe⟩:∃ W,W=(((wO.setCell ⟨rb,0,none⟩ (.bool false)).setCell ⟨rb,1,none⟩ (.int .i64 0)).setCell ⟨rb,2,none⟩ (.slice none 0 0)):=⟨_,rfl⟩
      have hqW:=st3_heap (.bool false) (.int .i64 0) (.slice none 0 0) (H.out.2.2.2 wO hbO);have hbW:=HXR.out wO false 0 (.slice none 0 0) 3 hbO ⟨_,_,_,rfl⟩;rw[<-hWe] at hqW hbW;obtain⟨y0,y1,y2,_⟩:=zcells54 hqW;change bodyPost _ _ _ _ _ (((wO.setCell ⟨rb,0,none⟩ (.bool false)).setCell ⟨rb,1,none⟩ (.int .i64 0)).setCell ⟨rb,2,none⟩ (.slice none 0 0));rw[<-hWe];clear hWe hqW x0 x1 x2 xz;exact bodyPost_ret (v:=.tuple #[.agg #[.bool false,.int .i64 0,.slice none 0 0],.int .i64 3]) (by simp[results,results20,go_sem,y0,y1,y2]) rfl ⟨_,_,_,_,_,_,rfl,hbW⟩
     ·have e4:(BL:Int)-(a:Int)=4:=by omega
      have hcl:=hR.out.1.cells;have v0:=hcl.1;have v1:=hcl.2.1;have v2:=hcl.2.2.1;obtain⟨RR,hRR⟩:∃ q,q=right ⟨fl,(z5:Int),ps.map (·.1)⟩:=⟨_,rfl⟩
      have HRG:Hid (Calls prog 33 #[.agg #[.bool fl,.int .i64 z5,.slice ra rn rc]] wO fun e w'=>e = .returned (.bool RR)/\Below wO.heap.size wO w'):=hid (by rw[hRR];exact Sb.rright_any ⟨fl,(z5:Int),ps.map (·.1)⟩ (.slice ra rn rc) wO hR.out.1.slR);clear hRR hcl h4;cases RR
      ·have x0:=True.intro;have x1:=True.intro;have x2:=True.intro;have xz:=True.intro;go_upto_region 22 with(go_at_call 33;refine HRG.out.mono ?_;rintro e w8 ⟨rfl,hb8⟩)
       have hb18:=hbO.trans (hb8.mono hbO.size);clear x0 x1 x2 xz;obtain⟨x0,x1,x2,xz⟩:=HE.out w8 hb18
       go_wp2_with fail
       obtain⟨W,hWe⟩:∃ W,W=(((w8.setCell ⟨rb,0,none⟩ (.bool false)).setCell ⟨rb,1,none⟩ (.int .i64 0)).setCell ⟨rb,2,none⟩ (.slice none 0 0)):=⟨_,rfl⟩
       have hqW:=st3_heap (.bool false) (.int .i64 0) (.slice none 0 0) (H.out.2.2.2 w8 hb18);have hbW:=HXR.out w8 false 0 (.slice none 0 0) 3 hb18 ⟨_,_,_,rfl⟩;rw[<-hWe] at hqW hbW;obtain⟨y0,y1,y2,_⟩:=zcells54 hqW;change bodyPost _ _ _ _ _ (((w8.setCell ⟨rb,0,none⟩ (.bool false)).setCell ⟨rb,1,none⟩ (.int .i64 0)).setCell ⟨rb,2,none⟩ (.slice none 0 0));rw[<-hWe];clear hWe hqW x0 x1 x2 xz;exact bodyPost_ret (v:=.tuple #[.agg #[.bool false,.int .i64 0,.slice none 0 0],.int .i64 3]) (by simp[results,results20,go_sem,y0,y1,y2]) rfl ⟨_,_,_,_,_,_,rfl,hbW⟩
      ·go_upto_region 23 with(go_at_call 33;refine HRG.out.mono ?_;rintro e w8 ⟨rfl,hb8⟩)
       have hb18:=hbO.trans (hb8.mono hbO.size);have hHN:Hid (∃ v:Nat,∀ w',Below w1.heap.size w1 w'->Calls prog 31 #[bv,.int .i64 a,.int .i64 4] w' fun e w''=>e = .returned (.int .i64 v)/\w''=w'):=hid ⟨Go.Str.deL (Sb.atB b a 4),fun w' hB=>(Sb.num31v b bv a 4 w'.heap.size w' (HS.out w' hB) (by rw[<-HBL.out];omega) (by omega) (by omega) (by rw[<-HBL.out];omega)).mono fun e w'' ⟨h1,h3⟩=>⟨h1,h3.symm⟩⟩;obtain⟨nv,HNd⟩:=hHN.out;have HND:=hid HNd;obtain⟨tv,htv,htr⟩:=H.out.1.to (P:=prog) underlying23 size5' a (by rw[<-HBL.out];omega);obtain⟨ta,tn,tc,rfl⟩:=slB_shape htv;obtain⟨TB,hTB⟩:∃ q,q=b.take a:=⟨_,rfl⟩
       have hTl:TB.length<=1000000000:=by rw[hTB,List.length_take];have:=HBL.out;omega
       rw[<-hTB] at htv;obtain⟨su,hsu⟩:∃ q,q=(Go.Crc.sum TB).toNat:=⟨_,rfl⟩
       have hsul:su<4294967296:=by rw[hsu];exact(Go.Crc.sum TB).isLt
       have HSU:=hid (fun w' (hB:Below w1.heap.size w1 w')=>(Sb.rsum_any TB (.slice ta tn tc) w' ((htv.below hB nlr).mono hB.size) hTl).mono fun e w'' (h:_/\w'=w'')=>And.intro h.1 h.2.symm);rw[<-hsu] at HSU;have hsw:IntKind.i64.wrap (su:Int)=(su:Int):=IntWalk.i64_in _ (by omega);have HER8:=hid (hR.out.1.below hb8);have hb18n:∀ n,Below w1.heap.size w1 (w8.drewN n):=fun n=>bel_drewN hb18 n;have HB18:=hid hb18n;clear hTB htv hsu hb18n hHN HNd v0 v1 v2
       go_cut [126] from 114 (fun s126 wx=>∃ g:Bool,s126 = .bool g/\Hid (Below w8.heap.size w8 wx))
       case first =>
        have hB0:Below w8.heap.size w8 w8.drew:=brf.drew;cases sb
        ·have hbn0:∀ n,Below w8.heap.size w8 (w8.drewN n):=fun n=>bel_drewN brf n;have HBN:=hid hbn0;clear hbn0
         go_quiet (fail)
         go_wp2_with fail
         go_meet
         case rel=>exact⟨_,rfl,hid (HBN.out _)⟩
        ·go_region_held (fun w'=>Below w8.heap.size w8 w') (first|with_reducible exact hB0|with_reducible assumption|with_reducible exact Below.drew (by assumption)) (first
          | (go_at_call 32;refine(HSU.out _ (hb18.trans (Below.mono (by assumption) hb18.size))).mono ?_;rintro e w12 ⟨rfl,hw12⟩;subst hw12)
          | (go_at_call 31;refine(HND.out _ (hb18.trans (Below.mono (by assumption) hb18.size))).mono ?_;rintro e w11 ⟨rfl,hw11⟩;subst hw11))
         go_wp2_with fail
         go_meet
         case rel=>exact⟨_,rfl,hid hB0⟩
       case rest =>
        obtain⟨g,rfl,hD⟩:=hcut;obtain⟨wD,hwD⟩:∃ q,q=wc:=⟨_,rfl⟩
        subst hwD;have hb1D:=hb18.trans (hD.out.mono hb18.size);cases g
        ·have hERD:=HER8.out.below hD.out;have v0:=hERD.cells.1;have v1:=hERD.cells.2.1;have v2:=hERD.cells.2.2.1;obtain⟨x0,x1,x2,xz⟩:=HE.out wD hb1D;clear hERD
         go_wp2_with fail
         obtain⟨W,hWe⟩:∃ W,W=(((wD.setCell ⟨rb,0,none⟩ (.bool fl)).setCell ⟨rb,1,none⟩ (.int .i64 z5)).setCell ⟨rb,2,none⟩ (.slice ra rn rc)):=⟨_,rfl⟩
         have hqW:=st3_heap (.bool fl) (.int .i64 z5) (.slice ra rn rc) (H.out.2.2.2 wD hb1D);have hbW:=HXR.out wD fl z5 (.slice ra rn rc) 0 hb1D ⟨_,_,_,rfl⟩;rw[<-hWe] at hqW hbW;obtain⟨y0,y1,y2⟩:=cells54' hqW;change bodyPost _ _ _ _ _ (((wD.setCell ⟨rb,0,none⟩ (.bool fl)).setCell ⟨rb,1,none⟩ (.int .i64 z5)).setCell ⟨rb,2,none⟩ (.slice ra rn rc));rw[<-hWe];clear hWe hqW x0 x1 x2 xz v0 v1 v2;exact bodyPost_ret (v:=.tuple #[.agg #[.bool fl,.int .i64 z5,.slice ra rn rc],.int .i64 0]) (by simp[results,results20,go_sem,y0,y1,y2]) rfl ⟨_,_,_,_,_,_,rfl,hbW⟩
        ·have x0:=True.intro;have x1:=True.intro;have x2:=True.intro;have xz:=True.intro;go_upto_region 24 with(fail)
         clear x0 x1 x2 xz;obtain⟨x0,x1,x2,xz⟩:=HE.out wD hb1D
         go_wp2_with fail
         obtain⟨W,hWe⟩:∃ W,W=(((wD.setCell ⟨rb,0,none⟩ (.bool false)).setCell ⟨rb,1,none⟩ (.int .i64 0)).setCell ⟨rb,2,none⟩ (.slice none 0 0)):=⟨_,rfl⟩
         have hqW:=st3_heap (.bool false) (.int .i64 0) (.slice none 0 0) (H.out.2.2.2 wD hb1D);have hbW:=HXR.out wD false 0 (.slice none 0 0) 13 hb1D ⟨_,_,_,rfl⟩;rw[<-hWe] at hqW hbW;obtain⟨y0,y1,y2,_⟩:=zcells54 hqW;change bodyPost _ _ _ _ _ (((wD.setCell ⟨rb,0,none⟩ (.bool false)).setCell ⟨rb,1,none⟩ (.int .i64 0)).setCell ⟨rb,2,none⟩ (.slice none 0 0));rw[<-hWe];clear hWe hqW x0 x1 x2 xz;exact bodyPost_ret (v:=.tuple #[.agg #[.bool false,.int .i64 0,.slice none 0 0],.int .i64 13]) (by simp[results,results20,go_sem,y0,y1,y2]) rfl ⟨_,_,_,_,_,_,rfl,hbW⟩
open Go.RowKit Go.Mx Go.Md
abbrev crow (g:Cm×Value):List Value:=[.int .i64 g.1.kind,str g.1.name,str g.1.tt,.int .i64 g.1.a,.int .i64 g.1.n,.int .i64 g.1.m,g.2]
structure SlC (w:World)(v:Value)(gs:List (Cm×Value)):Prop where
 o:SlG w w.heap.size 7 v (gs.map crow)
 d:∀ g∈gs,SlB w w.heap.size g.2 g.1.data
theorem SlC.below {w w':World}{v:Value}{gs:List (Cm×Value)}(h:SlC w v gs)(hb:Below w.heap.size w w'):SlC w' v gs :=
 ⟨(h.o.below hb nlr).mono hb.size,fun g hg=>((h.d g hg).below hb nlr).mono hb.size⟩
theorem size25 (w:World):(sizeOf 25).run prog w = .ok 7 w:=by kernel_rfl
def Fit (c:Cm):Prop:=c.name.length<=100/\c.tt.length<=100/\c.data.length<=3000
def FitAll (gs:List (Cm×Value)):Prop:=gs.length<=80/\∀ g∈gs,Fit g.1
def HevR (w:World)(gs:List (Cm×Value))(e:Ending)(w':World):Prop:=∃ b:Bool,e = .returned (.bool b)/\(b=false->FitAll gs)/\Below w.heap.size w w'
theorem heavy_any {w:World}{v:Value}{gs:List (Cm×Value)}(h:SlC w v gs):Calls prog 11 #[v] w (HevR w gs):=by
 have hla:=fun w'=>h.o.len (P:=prog) (t:=22) (ty:=3) underlying22 w';have hlm:gs.length<=maxLen:=by obtain⟨_,_,rfl,hc,hm,_⟩:=id h.o;simp at hc;omega
 obtain⟨n,hn⟩:∃ n,n=gs.length:=⟨_,rfl⟩
 rw[List.length_map,<-hn] at hla;rw[<-hn] at hlm;unfold maxLen at hlm;have H:=jd2 h hn;clear h hn;go_enter func11,ntmps11
 go_wp2_with fail
 go_loopw [3,4] (fun s3 s4 wr=>∃ (nv:Int) (i:Nat),s3 = .int .i64 nv/\s4 = .int .i64 i/\i<=n/\Hid (Below w.heap.size w wr/\∀ j g,j<i->gs[j]? = some g->Fit g.1)) (fun _ s4 _=>n-(intOf s4).toNat)
 case atStart=>exact⟨0,0,rfl,rfl,Nat.zero_le _,hid ⟨brf,fun j g hj=>absurd hj (Nat.not_lt_zero _)⟩⟩
 case round =>
  obtain⟨nv,i,rfl,rfl,hi,hR⟩:=hrel;obtain⟨wO,hwO⟩:∃ q,q=wr:=⟨_,rfl⟩
  subst hwO;by_cases hlt:i<n
  ·by_cases h80:i<80
   ·have e80:(i:Int)<80:=by omega
    have hO:=H.out.1.below hR.out.1;have hig:i<gs.length:=by rw[<-H.out.2];exact hlt
    obtain⟨g,hg⟩:∃ g,g=gs[i]:=⟨_,rfl⟩
    have hgm:g∈gs:=by rw[hg];exact List.getElem_mem _
    obtain⟨bb,bo,hia,hrow⟩:=slG_addrs hO.o (t:=22) underlying22 size25 i (by rw[List.length_map];exact hig);rw[show(gs.map crow).getD i []=crow g by rw[List.getD_eq_getElem?_getD,List.getElem?_map,List.getElem?_eq_getElem hig,hg];rfl] at hrow;obtain⟨da,dn,dc,hdv⟩:=slB_shape (hO.d g hgm);have hds:=hO.d g hgm;rw[hdv] at hds;have r0:wO.cell? ⟨bb,bo,none⟩=some (.int .i64 g.1.kind):=by have:=hrow wO brf 0 _ rfl;simpa using this
    have r1:wO.cell? ⟨bb,bo+1,none⟩=some (str g.1.name):=hrow wO brf 1 _ rfl;have r2:wO.cell? ⟨bb,bo+2,none⟩=some (str g.1.tt):=hrow wO brf 2 _ rfl;have r3:wO.cell? ⟨bb,bo+3,none⟩=some (.int .i64 g.1.a):=hrow wO brf 3 _ rfl;have r4:wO.cell? ⟨bb,bo+4,none⟩=some (.int .i64 g.1.n):=hrow wO brf 4 _ rfl;have r5:wO.cell? ⟨bb,bo+5,none⟩=some (.int .i64 g.1.m):=hrow wO brf 5 _ rfl;have r6:wO.cell? ⟨bb,bo+6,none⟩=some (.slice da dn dc):=hrow wO brf 6 _ (by simp[hdv]);have hdn:dn=g.1.data.length:=by obtain⟨_,_,e,_⟩:=hds;cases e;rfl
    have HG:=jd3 hds hdn (show gs[i]? = some g by rw[List.getElem?_eq_getElem hig,hg]);have hlen:=fun w'=>hds.len (P:=prog) (t:=23) (ty:=3) underlying23 w';rw[<-hdn] at hlen;clear hO hig hg hgm hrow hdv hds hdn;go_upto_region 6 with(fail)
    obtain⟨wA,hwA⟩:∃ z,z=wO.alloc (.cells #[.int .i64 g.1.kind,str g.1.name,str g.1.tt,.int .i64 g.1.a,.int .i64 g.1.n,.int .i64 g.1.m,.slice da dn dc] 25):=⟨_,rfl⟩
    rw[<-hwA];have hbA:Below wO.heap.size wO wA:=by rw[hwA];exact brf.alloc nlr _
    obtain⟨qb,hqb⟩:∃ q,q=wO.heap.size:=⟨_,rfl⟩
    have hqA:wA.heap[qb]? = some (.cells #[.int .i64 g.1.kind,str g.1.name,str g.1.tt,.int .i64 g.1.a,.int .i64 g.1.n,.int .i64 g.1.m,.slice da dn dc] 25 (0,0)):=by rw[hwA,hqb];exact alloc_new wO _
    rw[<-hqb];have hbW:Below w.heap.size w wA:=hR.out.1.trans (hbA.mono hR.out.1.size);have x0:wA.cell? ⟨qb,0,none⟩=some (.int .i64 g.1.kind):=by simp[World.cell?,hqA]
    have x1:wA.cell? ⟨qb,1,none⟩=some (str g.1.name):=by simp[World.cell?,hqA]
    have x2:wA.cell? ⟨qb,2,none⟩=some (str g.1.tt):=by simp[World.cell?,hqA]
    have x4:wA.cell? ⟨qb,4,none⟩=some (.int .i64 g.1.n):=by simp[World.cell?,hqA]
    have x5:wA.cell? ⟨qb,5,none⟩=some (.int .i64 g.1.m):=by simp[World.cell?,hqA]
    have x6:wA.cell? ⟨qb,6,none⟩=some (.slice da dn dc):=by simp[World.cell?,hqA]
    have HA:=jd3 hbA hqA hbW;clear hwA hbA hqA hqb r0 r1 r2 r3 r4 r5 r6 hia;by_cases h1:100<g.1.name.length
    ·have e1:(100:Int)<(g.1.name.length:Int):=by omega
     go_wp2_with fail
     go_ret
     exact⟨true,rfl,(fun h=>by cases h),hbW⟩
    by_cases h2:100<g.1.tt.length
    ·have e1:¬ (100:Int)<(g.1.name.length:Int):=by omega
     have e2:(100:Int)<(g.1.tt.length:Int):=by omega
     go_wp2_with fail
     go_ret
     exact⟨true,rfl,(fun h=>by cases h),hbW⟩
    by_cases h3:3000<dn
    ·have e1:¬ (100:Int)<(g.1.name.length:Int):=by omega
     have e2:¬ (100:Int)<(g.1.tt.length:Int):=by omega
     have e3:(3000:Int)<(dn:Int):=by omega
     go_wp2_with fail
     go_ret
     exact⟨true,rfl,(fun h=>by cases h),hbW⟩
    have e1:¬ (100:Int)<(g.1.name.length:Int):=by omega
    have e2:¬ (100:Int)<(g.1.tt.length:Int):=by omega
    have e3:¬ (3000:Int)<(dn:Int):=by omega
    have HF:Hid (Fit g.1):=hid ⟨by omega,by omega,by rw[<-HG.out.2.1];omega⟩;have hdn3:dn<=3000:=by omega
    clear h1 h2 h3;go_upto_region 8 with(fail)
    clear e1 e2 e3 x1 x2;obtain⟨kd,hkd⟩:∃ q,q=g.1.kind:=⟨_,rfl⟩
    rw[<-hkd] at x0;have HKD:=hid hkd;clear hkd
    go_cut [45] from 38 to 82 (fun s45 wx=>∃ b:Bool,s45 = .bool b/\wx=wA)
    case first =>
     by_cases k1:kd=1
     ·have k1':(kd==1)=true:=by simpa using k1
      go_wp2_with fail
      go_meet
      case rel=>exact⟨_,rfl,rfl⟩
     ·have k1':(kd==1)=false:=by simpa using k1
      go_wp2_with fail
      go_meet
      case rel=>exact⟨_,rfl,rfl⟩
    case rest =>
     obtain⟨b1,rfl,hwc⟩:=hcut;rw[hwc];clear hwc
     go_upto_if 45 with(fail)
     go_cut [3] from 46 to 82 (fun s3 wx=>∃ nv2:Int,s3 = .int .i64 nv2/\wx=wA)
     case first =>
      cases b1
      ·go_wp2_with fail
       go_meet
       case rel=>exact⟨_,rfl,rfl⟩
      ·go_wp2_with fail
       go_meet
       case rel=>exact⟨_,rfl,rfl⟩
     case rest =>
      obtain⟨nv2,rfl,hwc⟩:=hcut;rw[hwc];clear hwc;go_upto_region 10 with(fail)
      go_cut [58] from 51 to 82 (fun s58 wx=>∃ b:Bool,s58 = .bool b/\wx=wA)
      case first =>
       by_cases k1:kd=7
       ·have k1':(kd==7)=true:=by simpa using k1
        go_wp2_with fail
        go_meet
        case rel=>exact⟨_,rfl,rfl⟩
       ·have k1':(kd==7)=false:=by simpa using k1
        go_wp2_with fail
        go_meet
        case rel=>exact⟨_,rfl,rfl⟩
      case rest =>
       obtain⟨b2,rfl,hwc⟩:=hcut;rw[hwc];clear hwc
       go_upto_if 58 with(fail)
       go_cut [3] from 59 to 82 (fun s3 wx=>∃ nv3:Int,s3 = .int .i64 nv3/\wx=wA)
       case first =>
        cases b2
        ·go_wp2_with fail
         go_meet
         case rel=>exact⟨_,rfl,rfl⟩
        ·go_wp2_with fail
         go_meet
         case rel=>exact⟨_,rfl,rfl⟩
       case rest =>
        obtain⟨nv3,rfl,hwc⟩:=hcut;rw[hwc];clear hwc;have HGT:=hid (rget_any g.1.data (.slice da dn dc) wA ((HG.out.1.below HA.out.1 nlr).mono HA.out.1.size) (by have:=HF.out.2.2;omega));go_upto_region 13 with(go_at_call 20;refine HGT.out.mono ?_;rintro e w12 ⟨f12,z12,oa12,n12,c12,code,rfl,hb12⟩)
        obtain⟨wB,hwB⟩:∃ z,z=w12.alloc (.cells #[.bool f12,.int .i64 z12,.slice oa12 n12 c12] 54):=⟨_,rfl⟩
        rw[<-hwB];have hb12B:Below w12.heap.size w12 wB:=by rw[hwB];exact brf.alloc nlr _
        have hbAB:Below wA.heap.size wA wB:=hb12.trans (hb12B.mono hb12.size);obtain⟨sb,hsb⟩:∃ q,q=w12.heap.size:=⟨_,rfl⟩
        have hqs:wB.heap[sb]? = some (.cells #[.bool f12,.int .i64 z12,.slice oa12 n12 c12] 54 (0,0)):=by rw[hwB,hsb];exact alloc_new w12 _
        rw[<-hsb];have hqB:=(hbAB.block qb (blk_lt HA.out.2.1)).trans HA.out.2.1;rw[<-HKD.out] at hqB;have y0:wB.cell? ⟨qb,0,none⟩=some (.int .i64 kd):=by simp[World.cell?,hqB]
        have s1:wB.cell? ⟨sb,1,none⟩=some (.int .i64 z12):=by simp[World.cell?,hqs]
        have HBB:=hid (HA.out.2.2.trans (hbAB.mono HA.out.2.2.size));clear hwB hb12B hbAB hsb hqs hqB hb12 x0 x4 x5 x6
        go_cut [76] from 70 to 82 (fun s76 wx=>∃ b:Bool,s76 = .bool b/\wx=wB)
        case first =>
         by_cases k1:kd=23
         ·have k1':(kd==23)=true:=by simpa using k1
          go_wp2_with fail
          go_meet
          case rel=>exact⟨_,rfl,rfl⟩
         ·have k1':(kd==23)=false:=by simpa using k1
          go_wp2_with fail
          go_meet
          case rel=>exact⟨_,rfl,rfl⟩
        case rest =>
         obtain⟨b3,rfl,hwc⟩:=hcut;rw[hwc];clear hwc
         go_upto_if 76 with(fail)
         go_cut [3] from 77 to 82 (fun s3 wx=>∃ nv4:Int,s3 = .int .i64 nv4/\wx=wB)
         case first =>
          cases b3
          ·go_wp2_with fail
           go_meet
           case rel=>exact⟨_,rfl,rfl⟩
          ·go_wp2_with fail
           go_meet
           case rel=>exact⟨_,rfl,rfl⟩
         case rest =>
          obtain⟨nv4,rfl,hwc⟩:=hcut;rw[hwc];clear hwc;by_cases hbig:(5000:Int)<nv4
          ·go_wp2_with fail
           go_ret
           exact⟨true,rfl,(fun h=>by cases h),HBB.out⟩
          ·go_wp2_with fail
           go_roundw
           case measure=>simp only[intOf];omega
           case rel =>
            refine⟨nv4,i+1,rfl,by go_num,by omega,hid ⟨HBB.out,fun j g2 hj hg2=>?_⟩⟩;by_cases hji:j=i
            ·rw[hji,HG.out.2.2] at hg2;rw[<-Option.some.inj hg2];exact HF.out
            ·exact hR.out.2 j g2 (by omega) hg2
   ·have e80:¬ (i:Int)<80:=by omega
    go_wp2_with fail
    go_ret
    exact⟨_,rfl,fun hb=>by have:=of_decide_eq_false hb;omega,hR.out.1⟩
  ·obtain rfl:i=n:=by omega
   go_wp2_with fail
   go_ret
   refine⟨_,rfl,fun hb=>?_,hR.out.1⟩;have h8:=of_decide_eq_false hb;refine⟨by rw[<-H.out.2];omega,fun g hg=>?_⟩;obtain⟨j,hj,hgj⟩:=List.mem_iff_getElem.1 hg;exact hR.out.2 j g (by rw[H.out.2];exact hj) (by rw[List.getElem?_eq_getElem hj,hgj])
open Go.RowKit Go.Mx Go.Md
end Go.Proofs.YtgkabcaodnofnaaGreat
