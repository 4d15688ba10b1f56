import Derived.Test.YtgkabcaodnofnaaGreatB33
set_option linter.unusedSimpArgs false
set_option linter.unusedVariables false
namespace Go.Proofs.YtgkabcaodnofnaaGreat.Sb
open Go.RowKit Go.Mx Go.Crc Go.Str
theorem pNum_at (b:List UInt8)(a n:Nat)(ha:a<=b.length):pNum n (b.drop a)=if a+n<=b.length then some (deL (atB b a n),b.drop (a+n)) else none:=by
 unfold pNum;rw[List.length_drop,atB_eq,List.drop_drop];by_cases h:a+n<=b.length
 ·rw[if_pos h,if_pos (by omega)]
 ·rw[if_neg h,if_neg (by omega)]
theorem pTake_at (b:List UInt8)(a n:Nat)(ha:a<=b.length):pTake n (b.drop a)=if a+n<=b.length then some (atB b a n,b.drop (a+n)) else none:=by
 unfold pTake;rw[List.length_drop,atB_eq,List.drop_drop];by_cases h:a+n<=b.length
 ·rw[if_pos h,if_pos (by omega)]
 ·rw[if_neg h,if_neg (by omega)]
theorem pbind_some {α β:Type}{p:Par α}{f:α->Par β}{l:List UInt8}{x:α}{r:List UInt8}(h:p l=some (x,r)):pbind p f l=f x r:=pbind_eq h
theorem pbind_none {α β:Type}{p:Par α}{f:α->Par β}{l:List UInt8}(h:p l=none):pbind p f l=none:=by unfold pbind;rw[h]
def secs (b:List UInt8)(a:Nat):Nat:=deL (atB b (a+2) 2)
def recAt (b:List UInt8)(a:Nat):Rec×Nat:=(⟨((deL (atB b a 2):Nat):Int),atB b (a+4) (secs b a*16)⟩,deL (atB b (a+4+secs b a*16) 4))
theorem pRec_at (b:List UInt8)(a:Nat)(ha:a<=b.length):pRec (b.drop a)=if a+8+secs b a*16<=b.length then some (recAt b a,b.drop (a+8+secs b a*16)) else none:=by
 unfold pRec;by_cases h2:a+2<=b.length
 ·rw[pbind_some (by rw[pNum_at b a 2 ha,if_pos h2])];by_cases h4:a+2+2<=b.length
  ·rw[pbind_some (by rw[pNum_at b (a+2) 2 h2,if_pos h4])];change pbind (pTake (secs b a*16)) _ _=_;by_cases h5:a+2+2+secs b a*16<=b.length
   ·rw[pbind_some (by rw[pTake_at b (a+2+2) _ h4,if_pos h5])];by_cases h6:a+2+2+secs b a*16+4<=b.length
    ·rw[pbind_some (by rw[pNum_at b _ 4 h5,if_pos h6]),if_pos (by omega)];unfold pret recAt;rw[show a+2+2+secs b a*16+4=a+8+secs b a*16 by omega]
    ·rw[pbind_none (by rw[pNum_at b _ 4 h5,if_neg h6]),if_neg (by omega)]
   ·rw[pbind_none (by rw[pTake_at b (a+2+2) _ h4,if_neg h5]),if_neg (by omega)]
  ·rw[pbind_none (by rw[pNum_at b (a+2) 2 h2,if_neg h4]),if_neg (by omega)]
 ·rw[pbind_none (by rw[pNum_at b a 2 ha,if_neg h2]),if_neg (by omega)]
def joinP (dn:List (Rec×Nat))(o:Option (List (Rec×Nat)×List UInt8)):Option (List (Rec×Nat)×List UInt8):=match o with
 | none=>none
 | some (xs,r)=>some (dn++xs,r)
theorem joinP_nil (o:Option (List (Rec×Nat)×List UInt8)):joinP [] o=o:=by cases o<;>rfl
theorem joinP_zero (dn:List (Rec×Nat))(r:List UInt8):joinP dn (pRecs 0 r)=some (dn,r):=by simp[joinP,pRecs,pret]
theorem joinP_ok (dn:List (Rec×Nat))(m:Nat)(b:List UInt8)(a:Nat)(ha:a<=b.length)(h:a+8+secs b a*16<=b.length) :
  joinP dn (pRecs (m+1) (b.drop a))=joinP (dn++[recAt b a]) (pRecs m (b.drop (a+8+secs b a*16))):=by
 rw[pRecs,pbind_some (by rw[pRec_at b a ha,if_pos h])];cases hh:pRecs m (b.drop (a+8+secs b a*16)) with
 | none=>rw[pbind_none hh];rfl
 | some y=>obtain⟨xs,r⟩:=y;rw[pbind_some hh];simp[joinP,pret]
theorem joinP_no (dn:List (Rec×Nat))(m:Nat)(b:List UInt8)(a:Nat)(ha:a<=b.length)(h:¬ a+8+secs b a*16<=b.length) :
  joinP dn (pRecs (m+1) (b.drop a))=none:=by
 rw[pRecs,pbind_none (by rw[pRec_at b a ha,if_neg h])];rfl
def hFull (b:List UInt8):Nat:=deL (atB b 4 1)
def hSize (b:List UInt8):Nat:=deL (atB b 5 2)
def hMany (b:List UInt8):Nat:=deL (atB b 7 2)
theorem pMark_at (b:List UInt8):pMark b=if 4<=b.length/\atB b 0 4=Str.mark then some ((),b.drop 4) else none:=by
 have h0:=pTake_at b 0 4 (Nat.zero_le _);rw[List.drop_zero,Nat.zero_add] at h0;unfold pMark;by_cases h4:4<=b.length
 ·rw[if_pos h4] at h0;rw[pbind_some h0];by_cases hm:atB b 0 4=Str.mark
  ·rw[if_pos hm,if_pos ⟨h4,hm⟩];rfl
  ·rw[if_neg hm,if_neg (fun h=>hm h.2)]
 ·rw[if_neg h4] at h0;rw[pbind_none h0,if_neg (fun h=>h4 h.1)]
theorem pAll_at (b:List UInt8)(h9:9<=b.length)(hm:atB b 0 4=Str.mark) :
  pAll b=match pRecs (hMany b) (b.drop 9) with
   | none=>none
   | some (xs,r)=>match pNum 4 r with
    | none=>none
    | some (c,r')=>some (⟨hFull b,hSize b,xs,c⟩,r'):=by
 unfold pAll;rw[pbind_some (by rw[pMark_at,if_pos ⟨by omega,hm⟩]),pbind_some (by rw[pNum_at b 4 1 (by omega),if_pos (by omega)]),pbind_some (by rw[pNum_at b 5 2 (by omega),if_pos (by omega)]),
  pbind_some (by rw[pNum_at b 7 2 (by omega),if_pos (by omega)])]
 change pbind (pRecs (hMany b)) _ (b.drop 9)=_;cases hh:pRecs (hMany b) (b.drop 9) with
 | none=>rw[pbind_none hh]
 | some y =>
  obtain⟨xs,r⟩:=y;rw[pbind_some hh];cases h2:pNum 4 r with
  | none=>rw[pbind_none h2];simp only[h2]
  | some z=>obtain⟨c,r'⟩:=z;rw[pbind_some h2];simp only[h2];rfl
theorem pAll_short (b:List UInt8)(h9:¬ 9<=b.length):pAll b=none:=by
 unfold pAll;by_cases hm:4<=b.length/\atB b 0 4=Str.mark
 ·rw[pbind_some (by rw[pMark_at,if_pos hm])];by_cases h5:5<=b.length
  ·rw[pbind_some (by rw[pNum_at b 4 1 (by omega),if_pos h5])];by_cases h7:7<=b.length
   ·rw[pbind_some (by rw[pNum_at b 5 2 (by omega),if_pos h7]),pbind_none (by rw[pNum_at b 7 2 (by omega),if_neg (by omega)])]
   ·rw[pbind_none (by rw[pNum_at b 5 2 (by omega),if_neg h7])]
  ·rw[pbind_none (by rw[pNum_at b 4 1 (by omega),if_neg h5])]
 ·rw[pbind_none (by rw[pMark_at,if_neg hm])]
theorem pAll_mark (b:List UInt8)(hm:¬ (4<=b.length/\atB b 0 4=Str.mark)):pAll b=none:=by
 unfold pAll;rw[pbind_none (by rw[pMark_at,if_neg hm])]
theorem form_none {b:List UInt8}(h:pAll b=none):formB b=none:=by unfold formB;rw[h]
theorem form_tail (b:List UInt8)(h9:9<=b.length)(hm:atB b 0 4=Str.mark)(dn:List (Rec×Nat))(a:Nat)(ha:a<=b.length)(h:pRecs (hMany b) (b.drop 9)=some (dn,b.drop a)) :
  formB b=if a+4=b.length/\hFull b<=1/\right ⟨hFull b==1,hSize b,dn.map (·.1)⟩=true/\b.length<=262144 then some ⟨hFull b,hSize b,dn,deL (atB b a 4)⟩ else none:=by
 unfold formB;rw[pAll_at b h9 hm,h];simp only;rw[pNum_at b a 4 ha];by_cases h4:a+4<=b.length
 ·rw[if_pos h4];by_cases he:a+4=b.length
  ·rw[he,List.drop_length];simp only[Raw.strm];simp only[true_and];split<;>rename_i g1<;>first|exact if_pos g1|exact if_neg g1
  ·rw[if_neg (fun h=>he h.1)];have:b.drop (a+4)≠[]:=by
    intro e;have:=congrArg List.length e;simp at this;omega
   cases hd:b.drop (a+4) with
   | nil=>exact absurd hd this
   | cons y r=>rfl
 ·rw[if_neg h4,if_neg (fun h=>h4 (by omega))]
theorem form_tail_none (b:List UInt8)(h9:9<=b.length)(hm:atB b 0 4=Str.mark)(h:pRecs (hMany b) (b.drop 9)=none):formB b=none:=by
 apply form_none;rw[pAll_at b h9 hm,h]
theorem fB_eq (ff:Nat)(fB:Bool)(h:((ff:Int)==1)=fB):fB=(ff==1):=by
 rw[<-h];rw[Bool.eq_iff_iff,beq_iff_eq,beq_iff_eq];omega
theorem strm_fin (ff zz cv:Nat)(dn:List (Rec×Nat))(fB:Bool)(h:((ff:Int)==1)=fB):(Raw.mk ff zz dn cv).strm=⟨fB,zz,dn.map (·.1)⟩:=by
 rw[fB_eq ff fB h];rfl
theorem form_fin (b:List UInt8)(hmk:atB b 0 4=Str.mark)(ff zz N a cv M:Nat)(bd3 bad bdf fB:Bool)(dn:List (Rec×Nat))
  (HI:(9<=b.length->bd3=false/\ff=hFull b/\zz=hSize b/\N=hMany b)/\(¬ 9<=b.length->bd3=true/\N=0)) (hfB:((ff:Int)==1)=fB)
  (HR2:bad=false->9<=b.length/\a<=b.length/\pRecs N (b.drop 9)=joinP dn (pRecs M (b.drop a))) (HR3:bad=true->9<=b.length->pRecs N (b.drop 9)=none)
  (HC:(a+4<=b.length->cv=deL (atB b a 4)/\bdf=bad)/\(¬ a+4<=b.length->cv=0/\bdf=true)) (hM:bad=true\/M=0) :
  formB b=if bdf=false/\ff<=1/\a+4=b.length/\right ⟨fB,zz,dn.map (·.1)⟩=true/\b.length<=262144 then some ⟨ff,zz,dn,cv⟩ else none:=by
 cases bad with
 | true =>
  have hb:bdf=true:=by
   by_cases h:a+4<=b.length
   ·exact(HC.1 h).2
   ·exact(HC.2 h).2
  rw[if_neg (fun h=>by rw[hb] at h;exact absurd h.1 (by simp))];by_cases h9:9<=b.length
  ·have:=HR3 rfl h9;rw[(HI.1 h9).2.2.2] at this;exact form_tail_none b h9 hmk this
  ·exact form_none (pAll_short b h9)
 | false =>
  obtain⟨h9,ha,hp⟩:=HR2 rfl;obtain rfl:M=0:=hM.resolve_left (by simp);obtain⟨_,e1,e2,e3⟩:=HI.1 h9;rw[joinP_zero,e3] at hp;rw[form_tail b h9 hmk dn a ha hp,fB_eq ff fB hfB,e1,e2];by_cases h4:a+4=b.length
  ·obtain⟨f1,f2⟩:=HC.1 (by omega);rw[f1,f2];by_cases hc:hFull b<=1/\right ⟨hFull b==1,hSize b,dn.map (·.1)⟩=true/\b.length<=262144
   ·rw[if_pos ⟨h4,hc⟩,if_pos ⟨rfl,hc.1,h4,hc.2⟩]
   ·rw[if_neg (fun h=>hc h.2),if_neg (fun h=>hc ⟨h.2.1,h.2.2.2⟩)]
  ·rw[if_neg (fun h=>h4 h.1),if_neg (fun h=>h4 h.2.2.1)]
end Go.Proofs.YtgkabcaodnofnaaGreat.Sb
