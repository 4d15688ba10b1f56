import Derived.Test.YtgkabcaodnofnaaGreatB11
import Derived.Defers
import Derived.Laws.Pointers
import Derived.Laws.LoneSync
import Derived.RegionTactic
import Derived.RegionCalls
import Derived.ChangeAlike
import Derived.Laws.EntriesVeiled
set_option linter.unusedSimpArgs false
set_option linter.unusedVariables false
set_option maxRecDepth 100000
set_option maxHeartbeats 4000000
open Go.Proofs.Tryz
namespace Go.Md
def okCh (c:UInt8):Bool:=(decide (97<=c.toNat)&&decide (c.toNat<=122))||(decide (48<=c.toNat)&&decide (c.toNat<=57))||c.toNat==45||c.toNat==95||c.toNat==46
def nameOk (s:List UInt8):Bool := !s.isEmpty&&decide (s.length<=16)&&s.all okCh
def sizeOk (n:Int)(cl:Int):Bool:=decide (0<=n)&&decide (n<=4096)&&(n%2^cl.toNat==0)
def withinI (size a n:Int):Bool:=decide (0<=a)&&decide (0<=n)&&decide (a<=size)&&decide (n<=size-a)
def turnsI (k:Int):Bool:=k==4||k==5||k==6||k==7||k==9||k==10||k==11||k==23||(decide (12<=k)&&decide (k<=17))
end Go.Md
namespace Go.Proofs.YtgkabcaodnofnaaGreat
open Go.RowKit Go.Mx Go.Md
theorem okAll_no (s:List UInt8)(k:Nat)(hk:k<s.length)(h:okCh (s.getD k 0)=false):nameOk s=false:=by
 have:s.all okCh=false:=by
  rw[List.all_eq_false];refine⟨s.getD k 0,?_,by rw[h];decide⟩;rw[List.getD_eq_getElem?_getD,List.getElem?_eq_getElem hk];exact List.getElem_mem _
 unfold nameOk;rw[this];simp
theorem okAll_yes (s:List UInt8)(h0:s.isEmpty=false)(h1:s.length<=16)(h:∀ j,j<s.length->okCh (s.getD j 0)=true):nameOk s=true:=by
 have:s.all okCh=true:=by
  rw[List.all_eq_true];intro x hx;obtain⟨i,hi,rfl⟩:=List.getElem_of_mem hx;have:=h i hi;rwa[List.getD_eq_getElem?_getD,List.getElem?_eq_getElem hi] at this
 unfold nameOk;rw[this,h0];simp[h1]
theorem okCh_iff (c:UInt8):okCh c=true↔((97<=(c.toNat:Int)/\(c.toNat:Int)<=122)\/(48<=(c.toNat:Int)/\(c.toNat:Int)<=57))\/(c.toNat:Int)=45\/(c.toNat:Int)=95\/(c.toNat:Int)=46:=by
 unfold okCh;simp only[Bool.or_eq_true,Bool.and_eq_true,decide_eq_true_eq,beq_iff_eq];omega
theorem charAt (s:List UInt8)(k:Nat)(hk:k<s.length):s.getD k 0=(ByteArray.mk s.toArray)[k]'(by simpa[ByteArray.size] using hk):=by
 rw[List.getD_eq_getElem?_getD,List.getElem?_eq_getElem hk];rfl
theorem name_any (s:List UInt8)(w:World):Calls prog 72 #[.string ⟨s.toArray⟩] w fun e w'=>e = .returned (.bool (nameOk s))/\w=w':=by
 by_cases h0:s=[]
 ·subst h0;go_enter func72,ntmps72
  go_wp2
  go_ret
  exact⟨rfl,rfl⟩
 have he:s.isEmpty=false:=by cases s with|nil=>exact absurd rfl h0|cons _ _=>rfl
 have hlp:=List.length_pos_iff.2 h0;clear h0;obtain⟨R,hR⟩:∃ R,R=nameOk s:=⟨_,rfl⟩
 rw[<-hR];have HR:=hid hR;clear hR;by_cases h1:16<s.length
 ·have:R=false:=by rw[HR.out];unfold nameOk;simp;omega
  subst this;go_enter func72,ntmps72
  go_wp2
  all_goals go_ret
  all_goals exact⟨rfl,rfl⟩
 go_enter func72,ntmps72
 go_wp2_with fail
 go_loop [14] (fun i=>∃ k:Nat,k<=s.length/\i = .int .i64 k/\∀ j,j<k->okCh (s.getD j 0)=true) (fun i=>s.length-(intOf i).toNat)
 case atStart=>exact⟨0,by omega,rfl,fun j hj=>by omega⟩
 case round =>
  obtain⟨k,hk,rfl,hall⟩:=hrel;have HA:=hid hall;clear hall;by_cases hlt:k<s.length
  ·have HN:=hid (okAll_no s k hlt);have HC:=hid (charAt s k hlt)
   go_wp2
   all_goals first
    | (
     have hno:okCh (s.getD k 0)=false:=by
      rw[<-Bool.not_eq_true,okCh_iff,HC.out]
      try simp only[Bool.not_eq_true',Bool.not_eq_false',beq_iff_eq,beq_eq_false_iff_ne,bne_iff_ne,bne_eq_false_iff_eq,ne_eq,decide_eq_true_eq,decide_eq_false_iff_not] at *
      omega
     have:R=false:=by rw[HR.out];exact HN.out hno
     subst this;go_ret
     exact⟨rfl,rfl⟩)
    | (
     have hyes:okCh (s.getD k 0)=true:=by
      rw[okCh_iff,HC.out]
      try simp only[Bool.not_eq_true',Bool.not_eq_false',beq_iff_eq,beq_eq_false_iff_ne,bne_iff_ne,bne_eq_false_iff_eq,ne_eq,decide_eq_true_eq,decide_eq_false_iff_not] at *
      omega
     refine⟨⟨k+1,by omega,by go_num,fun j hj=>?_⟩,by simp[intOf];omega⟩;rcases Nat.lt_or_ge j k with hjk|hjk
     ·exact HA.out j hjk
     ·rw[show j=k by omega];exact hyes)
  ·obtain rfl:k=s.length:=by omega
   have:R=true:=by rw[HR.out];exact okAll_yes s he (by omega) HA.out
   subst this
   go_wp2
   go_ret
   exact⟨rfl,rfl⟩
abbrev nilS:Value:=.slice none 0 0
abbrev rpV (code:Int)(dv nv sv:Value)(n m:Int):Value:=.agg #[.int .i64 code,dv,nv,sv,.int .i64 n,.int .i64 m]
abbrev failV (e:Int):Value:=rpV e nilS nilS nilS 0 0
theorem failed_any (e:Int)(w:World):Calls prog 21 #[.int .i64 e] w fun r w'=>r = .returned (failV e)/\Below w.heap.size w w':=by
 go_enter func21,ntmps21
 go_wp2_with fail
 exact bodyPost_ret (v:=failV e) (by simp[results,results21,go_sem]) rfl ⟨rfl,brf.alloc nlr _⟩
theorem turns_any (k:Int)(w:World):Calls prog 23 #[.int .i64 k] w fun r w'=>r = .returned (.bool (turnsI k))/\w'=w:=by
 obtain⟨R,hR⟩:∃ R,R=turnsI k:=⟨_,rfl⟩
 rw[<-hR];have HR:=hid hR;clear hR;go_enter func23,ntmps23
 go_wp2
 all_goals go_ret
 all_goals
  refine⟨?_,rfl⟩;rw[HR.out];unfold turnsI
  simp_all<;>omega
theorem within_any (s a n:Int)(h0:0<=s)(h1:s<=4096)(w:World):Calls prog 79 #[.int .i64 s,.int .i64 a,.int .i64 n] w fun r w'=>r = .returned (.bool (withinI s a n))/\w'=w:=by
 obtain⟨R,hR⟩:∃ R,R=withinI s a n:=⟨_,rfl⟩
 rw[<-hR];have HR:=hid hR;clear hR;go_enter func79,ntmps79
 go_wp2
 all_goals go_ret
 all_goals
  refine⟨?_,rfl⟩;rw[HR.out];unfold withinI
  simp_all<;>omega
theorem size_any (n cl:Int)(h0:0<=cl)(h1:cl<=6)(w:World):Calls prog 73 #[.int .i64 n,.int .i64 cl] w fun r w'=>r = .returned (.bool (sizeOk n cl))/\w'=w:=by
 have hc:cl=0\/cl=1\/cl=2\/cl=3\/cl=4\/cl=5\/cl=6:=by omega
 obtain⟨R,hR⟩:∃ R,R=sizeOk n cl:=⟨_,rfl⟩
 rw[<-hR];have HR:=hid hR;clear hR h0 h1;rcases hc with rfl|rfl|rfl|rfl|rfl|rfl|rfl
 all_goals
  go_enter func73,ntmps73
  go_wp2
  all_goals go_ret
  all_goals
   refine⟨?_,rfl⟩;rw[HR.out];unfold sizeOk
   simp_all<;>omega
end Go.Proofs.YtgkabcaodnofnaaGreat
namespace Go.Md
def stn (B:Bs->Option Bs):Nat->List Bs->Bs->Int
 | 0,_,_=>10
 | k+1,seen,a=>if a=[] then 0 else match B a with
  | none=>4
  | some b=>if a∈seen then 11 else if 8<seen.length+1 then 10 else stn B k (a :: seen) b
def standsM (B:Bs->Option Bs)(n:Bs):Int:=stn B 9 [] n
end Go.Md
namespace Go.Proofs.YtgkabcaodnofnaaGreat
open Go.RowKit Go.Mx Go.Md
variable {w w':World}{base mb am:Nat}{S:IL}{xs:List XI}
theorem zero9 (w:World):(zeroValue 9).run prog w = .ok (.string ⟨#[]⟩) w:=by kernel_rfl
theorem zero3 (w:World):(zeroValue 3).run prog w = .ok (.int .i64 0) w:=by kernel_rfl
theorem zero4 (w:World):(zeroValue 4).run prog w = .ok (.bool false) w:=by kernel_rfl
theorem backs_any (hm:Mod0 w mb am)(hA:AM w base am S xs)(hl:xs.length<=1000) :
  Calls prog 74 #[pt mb] w fun e w'=>e = .returned (.map (some w.heap.size))/\∃ l,GM ES prog 9 w' w.heap.size l/\l.Perm (xs.map fun x=>(x.n,str x.i.back))/\Below w.heap.size w w':=by
 obtain⟨w1,hw1⟩:∃ w1,w1=w.alloc (.map #[] 0):=⟨_,rfl⟩
 have hb1:Below w.heap.size w w1:=by rw[hw1];exact brf.alloc nlr _
 have hg1:GM ES prog 9 w1 w.heap.size []:=by rw[hw1];exact GM.made ES prog 9 w
 have hs1:w1.heap.size=w.heap.size+1:=by rw[hw1];simp
 have hmp:=(hA.below hb1).g;have hmc:=(hm.below hb1).cell;have H:=jd4 hA hb1 hg1 hs1;have HW:=hid hw1;have hmm := @run_makeMap prog;clear hA hb1 hg1 hw1 hm;go_enter func74,ntmps74
 go_upto_region 2 with(fail)
 rw[<-HW.out]
 go_wp2_with (first
  | (at_range;refine range_gm _ rfl _ rfl K9 underlying57 rfl hmp ?_;intro w0 hrg0 hg0 hs0)
  | go_in)
 rw[hs1] at hrg0 ⊢
 go_frame
 go_loopw [4] (fun _ wr=>∃ (left:Bs->Bool) (cnt:Nat) (l:ML Bs),RG ES prog 9 wr am (w.heap.size+1) (xs.map fun x=>(x.n,pt x.ib)) left cnt/\Hid (GM ES prog 9 wr w.heap.size l/\l.Perm ((xs.filter fun x => !left x.n).map fun x=>(x.n,str x.i.back))/\Below w.heap.size w wr)) (fun _ wr=>wr.rangeLeft am (w.heap.size+1))
 case atStart =>
  have hb0:Below (w.heap.size+1) w1 w0:=brf.grown hg0 (by omega) (by simp);refine⟨_,_,[],hrg0,hid ⟨H.out.2.2.1.block (hb0.block _ (by omega)),?_,H.out.2.1.trans (hb0.mono (by omega))⟩⟩;have e:xs.filter (fun x => !(Mx.look (xs.map fun x=>(x.n,pt x.ib)) x.n).isSome)=[]:=by
   rw[List.filter_eq_nil_iff];intro x hx;rw[look_xi_some hx];simp
  rw[e];exact List.Perm.refl _
 case round =>
  obtain⟨left,cnt,l,hrg,hC⟩:=hrel;clear hrg0 hg0 hs0 hmp;obtain⟨wO,hwO⟩:∃ x,x=wr:=⟨_,rfl⟩
  subst hwO
  go_wp2_with (first
   | (at_next;refine next_gm _ rfl _ rfl K9 (w.heap.size+1) _ _ rfl hrg ?_ ?_)
   | go_in)
  ·intro hl0;clear hrg
   go_wp2_with fail
   go_ret
   have e:xs.filter (fun x => !left x.n)=xs:=List.filter_eq_self.2 fun x _=>by rw[hl0];rfl
   have h1:=hC.out.2.1;rw[e] at h1;exact⟨rfl,l,hC.out.1,h1,hC.out.2.2⟩
  ·intro s b w3 cnt1 hlk hls hrg1 hlt hg1 hs3 hen;obtain⟨x,hx,rfl,rfl⟩:=look_xi hlk;have hen':(Instr.entry (.pointer (some ⟨w.heap.size+1,0,none⟩))).run prog w3 = .ok (.tuple #[str x.n,pt x.ib]) w3:=hen;have hb3:Below (w.heap.size+1) wO w3:=(Below.refl (w.heap.size+1) wO).grown hg1 (by have:=hC.out.1.lt;have:=hrg.lt;omega) (fun k hk=>by cases hk;exact nlr);have hnm3:GM ES prog 9 w3 w.heap.size l:=hC.out.1.block (hb3.block _ (by omega));have hbw3:Below w.heap.size w w3:=hC.out.2.2.trans (hb3.mono (by omega));have c2:=((H.out.1.i x hx).below hbw3).cells.2.2.1;have hnot:Mx.look l x.n=none:=by
    rw[look_none,(hC.out.2.1.map (·.1)).mem_iff,List.map_map];intro hm';obtain⟨z,hz,e⟩:=List.mem_map.1 hm';have h2:(!left z.n)=true:=(List.mem_filter.1 hz).2;have e':z.n=x.n:=e;rw[e',hls] at h2;cases h2
   have hll:l.length<maxLen:=by
    have h1:=hC.out.2.1.length_eq;simp only[List.length_map] at h1;have h2:=List.length_filter_le (fun x:XI => !left x.n) xs;rw[h1];unfold maxLen;omega
   obtain⟨w6,hrun,hg6,hgr6,hs6,hf6⟩:=hnm3.upd K9 (t:=127) underlying127 x.n (Nat.le_trans (H.out.1.nl x hx) (by unfold maxLen;omega)) (str x.i.back) rfl hll;have hrun':(Instr.mapUpdate 127 (.map (some w.heap.size)) (str x.n) (str x.i.back)).run prog w3 = .ok () w6:=hrun;have hup:Mx.upd l x.n (str x.i.back)=l++[(x.n,str x.i.back)]:=by unfold Mx.upd;rw[hnot];rfl
   rw[hup] at hg6;have hp:=(filt_step (·.n) left xs H.out.1.names x hx hls).map (fun x:XI=>(x.n,str x.i.back));rw[List.map_append] at hp;have ham:am<w.heap.size:=H.out.1.g.lt;have hne1:w.heap.size≠am:=by omega
   have hrg6:=hrg1.blocks (hgr6.block _ hrg1.gm.lt (fun e=>hne1 (Option.some.inj e).symm)) (hgr6.block _ hrg1.lt (fun e=>by have:=Option.some.inj e;omega));have hb6:Below w.heap.size w w6:=hbw3.grown hgr6 hbw3.size fun k hk=>by cases hk;exact nlr
   have HP:=jd7 hg6 hp hrg6 hb6 hC.out.2.1 hrg hlt;clear hg6 hp hrg6 hb6 hrg hlt hnm3 hbw3 hb3 hg1 hs3 hrg1 hlk hls hgr6 hs6 hf6 hen hrun hup hnot hll hC
   go_wp2_with fail
   go_roundw
   case rel=>exact⟨_,cnt1,_,HP.out.2.2.1,hid ⟨HP.out.1,(HP.out.2.2.2.2.1.append_right _).trans HP.out.2.1.symm,HP.out.2.2.2.1⟩⟩
   case measure=>rw[HP.out.2.2.1.left_eq,HP.out.2.2.2.2.2.1.left_eq];exact HP.out.2.2.2.2.2.2
variable {w w':World}
def SeenM (w:World)(m:Nat)(seen:List Bs):Prop:=∃ l,GM ES prog 9 w m l/\l.length<=seen.length/\∀ s,Mx.look l s=if s∈seen then some (.int .i64 1) else none
theorem stands_any (B:Bs->Option Bs){nm:Nat}{l:ML (List UInt8)}(hg:GM ES prog 9 w nm l)(hB:∀ n,Mx.look l n=(B n).map fun b=>str b)(hb:∀ n b,B n=some b->b.length<=1000)(n:Bs)(hn:n.length<=1000) :
  Calls prog 75 #[.map (some nm),str n] w fun e w'=>e = .returned (.int .i64 (standsM B n))/\Below w.heap.size w w':=by
 obtain⟨w1,hw1⟩:∃ w1,w1=w.alloc (.map #[] 0):=⟨_,rfl⟩
 have hb1:Below w.heap.size w w1:=by rw[hw1];exact brf.alloc nlr _
 have hg1:GM ES prog 9 w1 w.heap.size []:=by rw[hw1];exact GM.made ES prog 9 w
 have hs1:w1.heap.size=w.heap.size+1:=by rw[hw1];simp
 have H:=jd5 hg hB hb hb1 hg1;have HW:=hid hw1;have hmm := @run_makeMap prog;obtain⟨R,hR⟩:∃ R,R=standsM B n:=⟨_,rfl⟩
 rw[<-hR];have HR:=hid hR;clear hg hB hb hb1 hg1 hw1 hR;go_enter func75,ntmps75
 go_upto_region 2 with(fail)
 rw[<-HW.out]
 go_wp2_with fail
 go_loopw [6,7] (fun s6 s7 wr=>∃ (k:Nat) (seen:List Bs) (a:Bs),s6 = .int .i64 k/\s7=str a/\k=seen.length/\k<=8/\a.length<=1000/\Hid (R=stn B (9-k) seen a/\SeenM wr w.heap.size seen/\Below w.heap.size w wr)) (fun s6 _ _=>9-(intOf s6).toNat)
 case atStart=>exact⟨0,[],n,rfl,rfl,rfl,by omega,hn,hid ⟨HR.out,⟨[],H.out.2.2.2.2,by simp,fun s=>rfl⟩,H.out.2.2.2.1⟩⟩
 case round =>
  obtain⟨k,seen,a,rfl,rfl,hk,hk8,hal,hrel⟩:=hrel;obtain⟨hR,⟨ls,hgs,hll,hlk⟩,hbl⟩:=hrel.out;clear hrel;have h9:9-k=(8-k)+1:=by omega
  rw[h9] at hR;have hgn:GM ES prog 9 wr nm l:=H.out.1.block (hbl.block _ H.out.1.lt);have hok:ES.ok a:=Nat.le_trans hal (by unfold maxLen;omega);have hl1:=hgn.lookOk K9 (t:=127) underlying127 zero9 (zd:=.lit (.string [])) rfl a hok;have hl2:=hgs.look K9 (t:=169) underlying169 zero3 (zd:=.lit (.int .i64 0)) rfl a hok;by_cases ha:a=[]
  ·subst ha;have hR0:R=0:=by rw[hR];rfl
   subst hR0;have HX:=hid hbl;clear hR hgs hlk hgn hl1 hl2 hbl
   go_wp2_with fail
   go_ret
   exact⟨rfl,HX.out⟩
  ·have hae:(a==[])=false:=by simpa using ha
   rw[H.out.2.1 a] at hl1;rw[hlk a] at hl2;unfold stn at hR;rw[if_neg ha] at hR;have hnb:nm<w.heap.size:=H.out.1.lt;cases hBa:B a with
   | none =>
    rw[hBa] at hR hl1;have hl1':(Instr.lookup 127 (.map (some nm)) (str a) true).run prog wr = .ok (.tuple #[.string ⟨#[]⟩,.bool false]) wr:=hl1;have hR4:R=4:=hR;subst hR4;by_cases hs:a∈seen
    ·rw[if_pos hs] at hl2;obtain⟨w6,hrun,hg6,hgr6,hs6,hf6⟩:=hgs.upd K9 (t:=169) underlying169 a hok (.int .i64 2) rfl (by unfold maxLen;omega);have hrun':(Instr.mapUpdate 169 (.map (some w.heap.size)) (str a) (.int .i64 2)).run prog wr = .ok () w6:=hrun;have hl6:=hg6.look K9 (t:=169) underlying169 zero3 (zd:=.lit (.int .i64 0)) rfl a hok;rw[look_upd,if_pos rfl] at hl6;have hl6':(Instr.lookup 169 (.map (some w.heap.size)) (str a) false).run prog w6 = .ok (.int .i64 2) w6:=hl6;have hl2':(Instr.lookup 169 (.map (some w.heap.size)) (str a) false).run prog wr = .ok (.int .i64 1) wr:=hl2;have hb6:Below w.heap.size w w6:=hbl.grown hgr6 hbl.size fun k hk=>by cases hk;exact nlr
     have HX:=hid (hb6);clear hb6 hR hgs hlk hgn hl1 hl2 hbl hg6 hgr6 hs6 hf6 hrun hl6 hBa hs
     go_wp2_with fail
     go_ret
     exact⟨rfl,HX.out⟩
    ·rw[if_neg hs] at hl2;obtain⟨w6,hrun,hg6,hgr6,hs6,hf6⟩:=hgs.upd K9 (t:=169) underlying169 a hok (.int .i64 1) rfl (by unfold maxLen;omega);have hrun':(Instr.mapUpdate 169 (.map (some w.heap.size)) (str a) (.int .i64 1)).run prog wr = .ok () w6:=hrun;have hl6:=hg6.look K9 (t:=169) underlying169 zero3 (zd:=.lit (.int .i64 0)) rfl a hok;rw[look_upd,if_pos rfl] at hl6;have hl6':(Instr.lookup 169 (.map (some w.heap.size)) (str a) false).run prog w6 = .ok (.int .i64 1) w6:=hl6;have hl2':(Instr.lookup 169 (.map (some w.heap.size)) (str a) false).run prog wr = .ok (.int .i64 0) wr:=hl2;have hb6:Below w.heap.size w w6:=hbl.grown hgr6 hbl.size fun k hk=>by cases hk;exact nlr
     have HX:=hid (hb6);clear hb6 hR hgs hlk hgn hl1 hl2 hbl hg6 hgr6 hs6 hf6 hrun hl6 hBa hs
     go_wp2_with fail
     go_ret
     exact⟨rfl,HX.out⟩
   | some b =>
    rw[hBa] at hR hl1;have hl1':(Instr.lookup 127 (.map (some nm)) (str a) true).run prog wr = .ok (.tuple #[str b,.bool true]) wr:=hl1;by_cases hs:a∈seen
    ·rw[if_pos hs] at hl2;have hR4:R=11:=by rw[hR];simp only[if_pos hs]
     subst hR4;obtain⟨w6,hrun,hg6,hgr6,hs6,hf6⟩:=hgs.upd K9 (t:=169) underlying169 a hok (.int .i64 2) rfl (by unfold maxLen;omega);have hrun':(Instr.mapUpdate 169 (.map (some w.heap.size)) (str a) (.int .i64 2)).run prog wr = .ok () w6:=hrun;have hl6:=hg6.look K9 (t:=169) underlying169 zero3 (zd:=.lit (.int .i64 0)) rfl a hok;rw[look_upd,if_pos rfl] at hl6;have hl6':(Instr.lookup 169 (.map (some w.heap.size)) (str a) false).run prog w6 = .ok (.int .i64 2) w6:=hl6;have hl2':(Instr.lookup 169 (.map (some w.heap.size)) (str a) false).run prog wr = .ok (.int .i64 1) wr:=hl2;have hb6:Below w.heap.size w w6:=hbl.grown hgr6 hbl.size fun k hk=>by cases hk;exact nlr
     have HX:=hid (hb6);clear hb6 hR hgs hlk hgn hl1 hl2 hbl hg6 hgr6 hs6 hf6 hrun hl6 hBa hs
     go_wp2_with fail
     go_ret
     exact⟨rfl,HX.out⟩
    ·rw[if_neg hs] at hl2;obtain⟨w6,hrun,hg6,hgr6,hs6,hf6⟩:=hgs.upd K9 (t:=169) underlying169 a hok (.int .i64 1) rfl (by unfold maxLen;omega);have hrun':(Instr.mapUpdate 169 (.map (some w.heap.size)) (str a) (.int .i64 1)).run prog wr = .ok () w6:=hrun;have hl6:=hg6.look K9 (t:=169) underlying169 zero3 (zd:=.lit (.int .i64 0)) rfl a hok;rw[look_upd,if_pos rfl] at hl6;have hl6':(Instr.lookup 169 (.map (some w.heap.size)) (str a) false).run prog w6 = .ok (.int .i64 1) w6:=hl6;have hl2':(Instr.lookup 169 (.map (some w.heap.size)) (str a) false).run prog wr = .ok (.int .i64 0) wr:=hl2;have hb6:Below w.heap.size w w6:=hbl.grown hgr6 hbl.size fun k hk=>by cases hk;exact nlr
     have hR2:R=if 8<seen.length+1 then 10 else stn B (8-k) (a :: seen) b:=by rw[hR];simp only[if_neg hs]
     by_cases h8:k=8
     ·have hR4:R=10:=by rw[hR2,if_pos (by omega)]
      subst hR4;subst h8;have HX:=hid (hb6);clear hb6 hR hgs hlk hgn hl1 hl2 hbl hg6 hgr6 hs6 hf6 hrun hl6 hBa hs hR2
      go_wp2_with fail
      go_ret
      exact⟨rfl,HX.out⟩
     ·rw[if_neg (by omega)] at hR2;have hgn6:GM ES prog 9 w6 nm l:=hgn.block (hgr6.block _ hgn.lt fun e=>by have:=Option.some.inj e;omega);have hl3:=hgn6.look K9 (t:=127) underlying127 zero9 (zd:=.lit (.string [])) rfl a hok;rw[H.out.2.1 a,hBa] at hl3;have hl3':(Instr.lookup 127 (.map (some nm)) (str a) false).run prog w6 = .ok (str b) w6:=hl3;have hsee:SeenM w6 w.heap.size (a :: seen):=by
       refine⟨_,hg6,?_,fun s=>?_⟩
       ·rw[upd_len];split<;>simp<;>omega
       ·rw[look_upd,hlk s];by_cases e:s=a
        ·subst e;simp
        ·rw[if_neg e];simp[e]
      have hbb:=H.out.2.2.1 a b hBa;have HX:=jd3 hb6 hsee hR2;have h98:9-(k+1)=8-k:=by omega
      have hH98:=hid h98;have hkk:k<8:=by omega
      clear hb6 hsee hR2 hR hgs hlk hgn hl1 hl2 hbl hg6 hgr6 hs6 hf6 hrun hl6 hBa hs hgn6 hl3 h98 h8
      go_wp2_with fail
      go_roundw
      case rel=>exact⟨k+1,a :: seen,b,by go_num,rfl,by simp;omega,by omega,hbb,hid ⟨by rw[hH98.out];exact HX.out.2.2,HX.out.2.1,HX.out.1⟩⟩
      case measure=>simp[intOf];omega
theorem tab_len (mb k:Nat):((tabL mb).take k).length<maxLen:=by
 have h:(tabL mb).length=26:=rfl;rw[List.length_take,h];unfold maxLen;omega
theorem tabK {w a b:World}(h:Kept w a (fun _=>True))(hg:a.grownBy b (some w.heap.size)):Kept w b (fun _=>True) :=
 ⟨Nat.le_trans h.size hg.size,fun k hk _=>(hg.block k (Nat.lt_of_lt_of_le hk h.size) (fun e=>by have:=Option.some.inj e;omega)).trans (h.block k hk trivial),hg.os.trans h.st.1,hg.tape.trans h.st.2.1,hg.output.trans h.st.2.2⟩
theorem fill_any (mb pl:Nat)(w:World)(C:Array Value)(p0:w.cell? ⟨pl,0,none⟩=some (pt mb))(hpl:pl<w.heap.size)(hm:w.heap[mb]? = some (.cells C 73 (0,0)))(hC:∃ v,C[6]? = some v) :
  Calls prog 35 #[pt pl] w fun e w'=>e = .returned (.tuple #[])/\GM EI prog 3 w' w.heap.size (tabL mb)/\Kept w w' (·≠mb)/\w'.heap[mb]? = some (.cells (C.setIfInBounds 6 (.map (some w.heap.size))) 73 (0,0)):=by
 obtain⟨cv,hcv⟩:=hC;obtain⟨w1,hw1⟩:∃ w1,w1=w.alloc (.map #[] 0):=⟨_,rfl⟩
 have k1:Kept w w1 (fun _=>True):=by rw[hw1];exact Kept.alloc _ _ _
 have p1:w1.cell? ⟨pl,0,none⟩=some (pt mb):=(k1.cell hpl trivial).trans p0;have g1:GM EI prog 3 w1 w.heap.size ((tabL mb).take 0):=by rw[hw1];exact GM.made EI prog 3 w
 obtain⟨w2,r2,g2,gr2,sz2,fz2⟩:=g1.upd K3 (t:=71) underlying71 1 (by show(Lit.int .i64 1).wf=true;decide) (fnV 36 mb) rfl (tab_len mb 0);have q2:(Instr.mapUpdate 71 (.map (some w.heap.size)) (.int .i64 1) (.func (.func 36) #[pt mb] #[])).run prog w1 = .ok () w2:=r2;rw[show Mx.upd ((tabL mb).take 0) 1 (fnV 36 mb)=(tabL mb).take 1 from rfl] at g2;have k2:Kept w w2 (fun _=>True):=tabK k1 gr2;have p2:w2.cell? ⟨pl,0,none⟩=some (pt mb):=(k2.cell hpl trivial).trans p0;clear r2 gr2 sz2 fz2;obtain⟨w3,r3,g3,gr3,sz3,fz3⟩:=g2.upd K3 (t:=71) underlying71 2 (by show(Lit.int .i64 2).wf=true;decide) (fnV 37 mb) rfl (tab_len mb 1);have q3:(Instr.mapUpdate 71 (.map (some w.heap.size)) (.int .i64 2) (.func (.func 37) #[pt mb] #[])).run prog w2 = .ok () w3:=r3;rw[show Mx.upd ((tabL mb).take 1) 2 (fnV 37 mb)=(tabL mb).take 2 from rfl] at g3;have k3:Kept w w3 (fun _=>True):=tabK k2 gr3
 have p3:w3.cell? ⟨pl,0,none⟩=some (pt mb):=(k3.cell hpl trivial).trans p0;clear r3 gr3 sz3 fz3;obtain⟨w4,r4,g4,gr4,sz4,fz4⟩:=g3.upd K3 (t:=71) underlying71 3 (by show(Lit.int .i64 3).wf=true;decide) (fnV 38 mb) rfl (tab_len mb 2);have q4:(Instr.mapUpdate 71 (.map (some w.heap.size)) (.int .i64 3) (.func (.func 38) #[pt mb] #[])).run prog w3 = .ok () w4:=r4;rw[show Mx.upd ((tabL mb).take 2) 3 (fnV 38 mb)=(tabL mb).take 3 from rfl] at g4;have k4:Kept w w4 (fun _=>True):=tabK k3 gr4;have p4:w4.cell? ⟨pl,0,none⟩=some (pt mb):=(k4.cell hpl trivial).trans p0;clear r4 gr4 sz4 fz4;obtain⟨w5,r5,g5,gr5,sz5,fz5⟩:=g4.upd K3 (t:=71) underlying71 4 (by show(Lit.int .i64 4).wf=true;decide) (fnV 39 mb) rfl (tab_len mb 3);have q5:(Instr.mapUpdate 71 (.map (some w.heap.size)) (.int .i64 4) (.func (.func 39) #[pt mb] #[])).run prog w4 = .ok () w5:=r5
 rw[show Mx.upd ((tabL mb).take 3) 4 (fnV 39 mb)=(tabL mb).take 4 from rfl] at g5;have k5:Kept w w5 (fun _=>True):=tabK k4 gr5;have p5:w5.cell? ⟨pl,0,none⟩=some (pt mb):=(k5.cell hpl trivial).trans p0;clear r5 gr5 sz5 fz5;obtain⟨w6,r6,g6,gr6,sz6,fz6⟩:=g5.upd K3 (t:=71) underlying71 5 (by show(Lit.int .i64 5).wf=true;decide) (fnV 40 mb) rfl (tab_len mb 4);have q6:(Instr.mapUpdate 71 (.map (some w.heap.size)) (.int .i64 5) (.func (.func 40) #[pt mb] #[])).run prog w5 = .ok () w6:=r6;rw[show Mx.upd ((tabL mb).take 4) 5 (fnV 40 mb)=(tabL mb).take 5 from rfl] at g6;have k6:Kept w w6 (fun _=>True):=tabK k5 gr6;have p6:w6.cell? ⟨pl,0,none⟩=some (pt mb):=(k6.cell hpl trivial).trans p0;clear r6 gr6 sz6 fz6;obtain⟨w7,r7,g7,gr7,sz7,fz7⟩:=g6.upd K3 (t:=71) underlying71 6 (by show(Lit.int .i64 6).wf=true;decide) (fnV 41 mb) rfl (tab_len mb 5)
 have q7:(Instr.mapUpdate 71 (.map (some w.heap.size)) (.int .i64 6) (.func (.func 41) #[pt mb] #[])).run prog w6 = .ok () w7:=r7;rw[show Mx.upd ((tabL mb).take 5) 6 (fnV 41 mb)=(tabL mb).take 6 from rfl] at g7;have k7:Kept w w7 (fun _=>True):=tabK k6 gr7;have p7:w7.cell? ⟨pl,0,none⟩=some (pt mb):=(k7.cell hpl trivial).trans p0;clear r7 gr7 sz7 fz7;obtain⟨w8,r8,g8,gr8,sz8,fz8⟩:=g7.upd K3 (t:=71) underlying71 7 (by show(Lit.int .i64 7).wf=true;decide) (fnV 42 mb) rfl (tab_len mb 6);have q8:(Instr.mapUpdate 71 (.map (some w.heap.size)) (.int .i64 7) (.func (.func 42) #[pt mb] #[])).run prog w7 = .ok () w8:=r8;rw[show Mx.upd ((tabL mb).take 6) 7 (fnV 42 mb)=(tabL mb).take 7 from rfl] at g8;have k8:Kept w w8 (fun _=>True):=tabK k7 gr8;have p8:w8.cell? ⟨pl,0,none⟩=some (pt mb):=(k8.cell hpl trivial).trans p0;clear r8 gr8 sz8 fz8
 obtain⟨w9,r9,g9,gr9,sz9,fz9⟩:=g8.upd K3 (t:=71) underlying71 8 (by show(Lit.int .i64 8).wf=true;decide) (fnV 43 mb) rfl (tab_len mb 7);have q9:(Instr.mapUpdate 71 (.map (some w.heap.size)) (.int .i64 8) (.func (.func 43) #[pt mb] #[])).run prog w8 = .ok () w9:=r9;rw[show Mx.upd ((tabL mb).take 7) 8 (fnV 43 mb)=(tabL mb).take 8 from rfl] at g9;have k9:Kept w w9 (fun _=>True):=tabK k8 gr9;have p9:w9.cell? ⟨pl,0,none⟩=some (pt mb):=(k9.cell hpl trivial).trans p0;clear r9 gr9 sz9 fz9;obtain⟨w10,r10,g10,gr10,sz10,fz10⟩:=g9.upd K3 (t:=71) underlying71 9 (by show(Lit.int .i64 9).wf=true;decide) (fnV 44 mb) rfl (tab_len mb 8);have q10:(Instr.mapUpdate 71 (.map (some w.heap.size)) (.int .i64 9) (.func (.func 44) #[pt mb] #[])).run prog w9 = .ok () w10:=r10;rw[show Mx.upd ((tabL mb).take 8) 9 (fnV 44 mb)=(tabL mb).take 9 from rfl] at g10;have k10:Kept w w10 (fun _=>True):=tabK k9 gr10
 have p10:w10.cell? ⟨pl,0,none⟩=some (pt mb):=(k10.cell hpl trivial).trans p0;clear r10 gr10 sz10 fz10;obtain⟨w11,r11,g11,gr11,sz11,fz11⟩:=g10.upd K3 (t:=71) underlying71 10 (by show(Lit.int .i64 10).wf=true;decide) (fnV 45 mb) rfl (tab_len mb 9);have q11:(Instr.mapUpdate 71 (.map (some w.heap.size)) (.int .i64 10) (.func (.func 45) #[pt mb] #[])).run prog w10 = .ok () w11:=r11;rw[show Mx.upd ((tabL mb).take 9) 10 (fnV 45 mb)=(tabL mb).take 10 from rfl] at g11;have k11:Kept w w11 (fun _=>True):=tabK k10 gr11;have p11:w11.cell? ⟨pl,0,none⟩=some (pt mb):=(k11.cell hpl trivial).trans p0;clear r11 gr11 sz11 fz11;obtain⟨w12,r12,g12,gr12,sz12,fz12⟩:=g11.upd K3 (t:=71) underlying71 11 (by show(Lit.int .i64 11).wf=true;decide) (fnV 46 mb) rfl (tab_len mb 10);have q12:(Instr.mapUpdate 71 (.map (some w.heap.size)) (.int .i64 11) (.func (.func 46) #[pt mb] #[])).run prog w11 = .ok () w12:=r12
 rw[show Mx.upd ((tabL mb).take 10) 11 (fnV 46 mb)=(tabL mb).take 11 from rfl] at g12;have k12:Kept w w12 (fun _=>True):=tabK k11 gr12;have p12:w12.cell? ⟨pl,0,none⟩=some (pt mb):=(k12.cell hpl trivial).trans p0;clear r12 gr12 sz12 fz12;obtain⟨w13,r13,g13,gr13,sz13,fz13⟩:=g12.upd K3 (t:=71) underlying71 12 (by show(Lit.int .i64 12).wf=true;decide) (fnV 47 mb) rfl (tab_len mb 11);have q13:(Instr.mapUpdate 71 (.map (some w.heap.size)) (.int .i64 12) (.func (.func 47) #[pt mb] #[])).run prog w12 = .ok () w13:=r13;rw[show Mx.upd ((tabL mb).take 11) 12 (fnV 47 mb)=(tabL mb).take 12 from rfl] at g13;have k13:Kept w w13 (fun _=>True):=tabK k12 gr13;have p13:w13.cell? ⟨pl,0,none⟩=some (pt mb):=(k13.cell hpl trivial).trans p0;clear r13 gr13 sz13 fz13;obtain⟨w14,r14,g14,gr14,sz14,fz14⟩:=g13.upd K3 (t:=71) underlying71 13 (by show(Lit.int .i64 13).wf=true;decide) (fnV 47 mb) rfl (tab_len mb 12)
 have q14:(Instr.mapUpdate 71 (.map (some w.heap.size)) (.int .i64 13) (.func (.func 47) #[pt mb] #[])).run prog w13 = .ok () w14:=r14;rw[show Mx.upd ((tabL mb).take 12) 13 (fnV 47 mb)=(tabL mb).take 13 from rfl] at g14;have k14:Kept w w14 (fun _=>True):=tabK k13 gr14;have p14:w14.cell? ⟨pl,0,none⟩=some (pt mb):=(k14.cell hpl trivial).trans p0;clear r14 gr14 sz14 fz14;obtain⟨w15,r15,g15,gr15,sz15,fz15⟩:=g14.upd K3 (t:=71) underlying71 14 (by show(Lit.int .i64 14).wf=true;decide) (fnV 47 mb) rfl (tab_len mb 13);have q15:(Instr.mapUpdate 71 (.map (some w.heap.size)) (.int .i64 14) (.func (.func 47) #[pt mb] #[])).run prog w14 = .ok () w15:=r15;rw[show Mx.upd ((tabL mb).take 13) 14 (fnV 47 mb)=(tabL mb).take 14 from rfl] at g15;have k15:Kept w w15 (fun _=>True):=tabK k14 gr15;have p15:w15.cell? ⟨pl,0,none⟩=some (pt mb):=(k15.cell hpl trivial).trans p0;clear r15 gr15 sz15 fz15
 obtain⟨w16,r16,g16,gr16,sz16,fz16⟩:=g15.upd K3 (t:=71) underlying71 15 (by show(Lit.int .i64 15).wf=true;decide) (fnV 47 mb) rfl (tab_len mb 14);have q16:(Instr.mapUpdate 71 (.map (some w.heap.size)) (.int .i64 15) (.func (.func 47) #[pt mb] #[])).run prog w15 = .ok () w16:=r16;rw[show Mx.upd ((tabL mb).take 14) 15 (fnV 47 mb)=(tabL mb).take 15 from rfl] at g16;have k16:Kept w w16 (fun _=>True):=tabK k15 gr16;have p16:w16.cell? ⟨pl,0,none⟩=some (pt mb):=(k16.cell hpl trivial).trans p0;clear r16 gr16 sz16 fz16;obtain⟨w17,r17,g17,gr17,sz17,fz17⟩:=g16.upd K3 (t:=71) underlying71 16 (by show(Lit.int .i64 16).wf=true;decide) (fnV 47 mb) rfl (tab_len mb 15);have q17:(Instr.mapUpdate 71 (.map (some w.heap.size)) (.int .i64 16) (.func (.func 47) #[pt mb] #[])).run prog w16 = .ok () w17:=r17;rw[show Mx.upd ((tabL mb).take 15) 16 (fnV 47 mb)=(tabL mb).take 16 from rfl] at g17
 have k17:Kept w w17 (fun _=>True):=tabK k16 gr17;have p17:w17.cell? ⟨pl,0,none⟩=some (pt mb):=(k17.cell hpl trivial).trans p0;clear r17 gr17 sz17 fz17;obtain⟨w18,r18,g18,gr18,sz18,fz18⟩:=g17.upd K3 (t:=71) underlying71 17 (by show(Lit.int .i64 17).wf=true;decide) (fnV 47 mb) rfl (tab_len mb 16);have q18:(Instr.mapUpdate 71 (.map (some w.heap.size)) (.int .i64 17) (.func (.func 47) #[pt mb] #[])).run prog w17 = .ok () w18:=r18;rw[show Mx.upd ((tabL mb).take 16) 17 (fnV 47 mb)=(tabL mb).take 17 from rfl] at g18;have k18:Kept w w18 (fun _=>True):=tabK k17 gr18;have p18:w18.cell? ⟨pl,0,none⟩=some (pt mb):=(k18.cell hpl trivial).trans p0;clear r18 gr18 sz18 fz18;obtain⟨w19,r19,g19,gr19,sz19,fz19⟩:=g18.upd K3 (t:=71) underlying71 18 (by show(Lit.int .i64 18).wf=true;decide) (fnV 48 mb) rfl (tab_len mb 17)
 have q19:(Instr.mapUpdate 71 (.map (some w.heap.size)) (.int .i64 18) (.func (.func 48) #[pt mb] #[])).run prog w18 = .ok () w19:=r19;rw[show Mx.upd ((tabL mb).take 17) 18 (fnV 48 mb)=(tabL mb).take 18 from rfl] at g19;have k19:Kept w w19 (fun _=>True):=tabK k18 gr19;have p19:w19.cell? ⟨pl,0,none⟩=some (pt mb):=(k19.cell hpl trivial).trans p0;clear r19 gr19 sz19 fz19;obtain⟨w20,r20,g20,gr20,sz20,fz20⟩:=g19.upd K3 (t:=71) underlying71 19 (by show(Lit.int .i64 19).wf=true;decide) (fnV 49 mb) rfl (tab_len mb 18);have q20:(Instr.mapUpdate 71 (.map (some w.heap.size)) (.int .i64 19) (.func (.func 49) #[pt mb] #[])).run prog w19 = .ok () w20:=r20;rw[show Mx.upd ((tabL mb).take 18) 19 (fnV 49 mb)=(tabL mb).take 19 from rfl] at g20;have k20:Kept w w20 (fun _=>True):=tabK k19 gr20;have p20:w20.cell? ⟨pl,0,none⟩=some (pt mb):=(k20.cell hpl trivial).trans p0;clear r20 gr20 sz20 fz20
 obtain⟨w21,r21,g21,gr21,sz21,fz21⟩:=g20.upd K3 (t:=71) underlying71 20 (by show(Lit.int .i64 20).wf=true;decide) (fnV 50 mb) rfl (tab_len mb 19);have q21:(Instr.mapUpdate 71 (.map (some w.heap.size)) (.int .i64 20) (.func (.func 50) #[pt mb] #[])).run prog w20 = .ok () w21:=r21;rw[show Mx.upd ((tabL mb).take 19) 20 (fnV 50 mb)=(tabL mb).take 20 from rfl] at g21;have k21:Kept w w21 (fun _=>True):=tabK k20 gr21;have p21:w21.cell? ⟨pl,0,none⟩=some (pt mb):=(k21.cell hpl trivial).trans p0;clear r21 gr21 sz21 fz21;obtain⟨w22,r22,g22,gr22,sz22,fz22⟩:=g21.upd K3 (t:=71) underlying71 21 (by show(Lit.int .i64 21).wf=true;decide) (fnV 51 mb) rfl (tab_len mb 20);have q22:(Instr.mapUpdate 71 (.map (some w.heap.size)) (.int .i64 21) (.func (.func 51) #[pt mb] #[])).run prog w21 = .ok () w22:=r22;rw[show Mx.upd ((tabL mb).take 20) 21 (fnV 51 mb)=(tabL mb).take 21 from rfl] at g22
 have k22:Kept w w22 (fun _=>True):=tabK k21 gr22;have p22:w22.cell? ⟨pl,0,none⟩=some (pt mb):=(k22.cell hpl trivial).trans p0;clear r22 gr22 sz22 fz22;obtain⟨w23,r23,g23,gr23,sz23,fz23⟩:=g22.upd K3 (t:=71) underlying71 22 (by show(Lit.int .i64 22).wf=true;decide) (fnV 52 mb) rfl (tab_len mb 21);have q23:(Instr.mapUpdate 71 (.map (some w.heap.size)) (.int .i64 22) (.func (.func 52) #[pt mb] #[])).run prog w22 = .ok () w23:=r23;rw[show Mx.upd ((tabL mb).take 21) 22 (fnV 52 mb)=(tabL mb).take 22 from rfl] at g23;have k23:Kept w w23 (fun _=>True):=tabK k22 gr23;have p23:w23.cell? ⟨pl,0,none⟩=some (pt mb):=(k23.cell hpl trivial).trans p0;clear r23 gr23 sz23 fz23;obtain⟨w24,r24,g24,gr24,sz24,fz24⟩:=g23.upd K3 (t:=71) underlying71 23 (by show(Lit.int .i64 23).wf=true;decide) (fnV 53 mb) rfl (tab_len mb 22)
 have q24:(Instr.mapUpdate 71 (.map (some w.heap.size)) (.int .i64 23) (.func (.func 53) #[pt mb] #[])).run prog w23 = .ok () w24:=r24;rw[show Mx.upd ((tabL mb).take 22) 23 (fnV 53 mb)=(tabL mb).take 23 from rfl] at g24;have k24:Kept w w24 (fun _=>True):=tabK k23 gr24;have p24:w24.cell? ⟨pl,0,none⟩=some (pt mb):=(k24.cell hpl trivial).trans p0;clear r24 gr24 sz24 fz24;obtain⟨w25,r25,g25,gr25,sz25,fz25⟩:=g24.upd K3 (t:=71) underlying71 24 (by show(Lit.int .i64 24).wf=true;decide) (fnV 54 mb) rfl (tab_len mb 23);have q25:(Instr.mapUpdate 71 (.map (some w.heap.size)) (.int .i64 24) (.func (.func 54) #[pt mb] #[])).run prog w24 = .ok () w25:=r25;rw[show Mx.upd ((tabL mb).take 23) 24 (fnV 54 mb)=(tabL mb).take 24 from rfl] at g25;have k25:Kept w w25 (fun _=>True):=tabK k24 gr25;have p25:w25.cell? ⟨pl,0,none⟩=some (pt mb):=(k25.cell hpl trivial).trans p0;clear r25 gr25 sz25 fz25
 obtain⟨w26,r26,g26,gr26,sz26,fz26⟩:=g25.upd K3 (t:=71) underlying71 25 (by show(Lit.int .i64 25).wf=true;decide) (fnV 55 mb) rfl (tab_len mb 24);have q26:(Instr.mapUpdate 71 (.map (some w.heap.size)) (.int .i64 25) (.func (.func 55) #[pt mb] #[])).run prog w25 = .ok () w26:=r26;rw[show Mx.upd ((tabL mb).take 24) 25 (fnV 55 mb)=(tabL mb).take 25 from rfl] at g26;have k26:Kept w w26 (fun _=>True):=tabK k25 gr26;have p26:w26.cell? ⟨pl,0,none⟩=some (pt mb):=(k26.cell hpl trivial).trans p0;clear r26 gr26 sz26 fz26;obtain⟨w27,r27,g27,gr27,sz27,fz27⟩:=g26.upd K3 (t:=71) underlying71 26 (by show(Lit.int .i64 26).wf=true;decide) (fnV 56 mb) rfl (tab_len mb 25);have q27:(Instr.mapUpdate 71 (.map (some w.heap.size)) (.int .i64 26) (.func (.func 56) #[pt mb] #[])).run prog w26 = .ok () w27:=r27;rw[show Mx.upd ((tabL mb).take 25) 26 (fnV 56 mb)=(tabL mb).take 26 from rfl] at g27
 have k27:Kept w w27 (fun _=>True):=tabK k26 gr27;have p27:w27.cell? ⟨pl,0,none⟩=some (pt mb):=(k27.cell hpl trivial).trans p0;clear r27 gr27 sz27 fz27;have hq27:w27.heap[mb]? = some (.cells C 73 (0,0)):=(k27.block mb (blk_lt hm) trivial).trans hm;have c27:w27.cell? ⟨mb,6,none⟩=some cv:=by simp[World.cell?,hq27,hcv]
 have z27:w27.frozen? ⟨mb,6,none⟩=false:=by simp[World.frozen?,hq27]
 rw[hw1] at q2 p1;have HW:=hid hw1;have hmm := @run_makeMap prog;have H:=jd4 g27 k27 hq27 hm;clear hw1 g27 hq27 hm g1 k1 g2 k2 g3 k3 g4 k4 g5 k5 g6 k6 g7 k7 g8 k8 g9 k9 g10 k10 g11 k11 g12 k12 g13 k13 g14 k14 g15 k15 g16 k16 g17 k17 g18 k18 g19 k19 g20 k20 g21 k21 g22 k22 g23 k23 g24 k24 g25 k25 g26 k26 k27 hcv;go_enter func35,ntmps35
 go_wp2_with fail
 go_end0
 obtain⟨g27,k27,hq27,hm⟩:=H.out;have g27:GM EI prog 3 w27 w.heap.size (tabL mb):=g27;refine⟨rfl,g27.block (Below.heap_setCell _ _ _ _ (by show w.heap.size≠mb;have:=blk_lt hm;omega)),(k27.imp fun _ _=>trivial).trans (Kept.set _ _ _ _ (by simp)),?_⟩;rw[heap_setCell_at' w27 mb 6 _ _ 73 _ hq27]
end Go.Proofs.YtgkabcaodnofnaaGreat
