import Derived.Test.YtgkabcaodnofnaaGreatB12
import Derived.Test.YtgkabcaodnofnaaGreatB05
import Derived.Laws.CopyOwn
import Derived.Deep.RegionLaw
import Derived.Test.YtgkabcaodnofnaaGreatB11
import Derived.Deep.RegionHeld3
set_option linter.unusedSimpArgs false
set_option linter.unusedVariables false
set_option maxRecDepth 100000
set_option maxHeartbeats 1600000
open Go.Proofs.Tryz
namespace Go.Proofs.YtgkabcaodnofnaaGreat
open Go.RowKit Go.Mx Go.Md
theorem disable (w:World):(callFunc 170 #[]).run prog w = .ok (.value (.tuple #[])) w:=run_call_mark0 func170 (by kernel_rfl) (by kernel_rfl) (by kernel_rfl) .disable (by kernel_rfl) w
theorem enable (w:World):(callFunc 172 #[]).run prog w = .ok (.value (.tuple #[])) w:=run_call_mark0 func172 (by kernel_rfl) (by kernel_rfl) (by kernel_rfl) .enable (by kernel_rfl) w
theorem acquire (a:Addr)(w:World):(callFunc 173 #[.pointer (some a)]).run prog w = .ok (.value (.tuple #[])) w:=run_call_marked func173 (by kernel_rfl) (by kernel_rfl) (by kernel_rfl) .acquire (by kernel_rfl) a w
theorem releaseMerge (a:Addr)(w:World):(callFunc 175 #[.pointer (some a)]).run prog w = .ok (.value (.tuple #[])) w:=run_call_marked func175 (by kernel_rfl) (by kernel_rfl) (by kernel_rfl) .releaseMerge (by kernel_rfl) a w
theorem store_deferred (a:Addr)(x:Value)(u:FrameMode)(w:World)(hc:w.cell? a=some x)(hz:w.frozen? a=false) :
  CallsD prog 110 #[.pointer (some a),.bool true] u w fun e u' w'=>u'=u/\(e = .returned (.tuple #[])/\w'=w.drew.setCell a (.int .u32 1)):=by
 have hc':w.drew.cell? a=some x:=by go_simp
 have hz':w.drew.frozen? a=false:=by go_simp
 have hst:=run_call_store (P:=prog) func152 (by kernel_rfl) (by kernel_rfl) (by kernel_rfl) (by kernel_rfl) (k:=.u32) (y:=1) hc' hz'
 go_enter_d func110,ntmps110
 go_wp2
 go_region_calls
 all_goals (go_end0;exact⟨rfl,rfl⟩)
theorem unlock_deferred (a:Addr)(u:FrameMode)(w:World)(hc:w.cell? a=some (.int .i32 1))(hz:w.frozen? a=false) :
  CallsD prog 109 #[.pointer (some a)] u w fun e u' w'=>u'=u/\(e = .returned (.tuple #[])/\w'=w.setCell a (.int .i32 0)):=by
 have hd:=disable;have he:=enable;have hr:=releaseMerge;have hadd:=run_call_add (P:=prog) func176 (by kernel_rfl) (by kernel_rfl) (by kernel_rfl) .i32 (by kernel_rfl) (y := -1) (s:=0) hc hz (by simp[go_sem];rfl);have hcv:=run_convert_to_unsafe (P:=prog) (src:=230) (dst:=234) underlying230 underlying234 (by kernel_rfl) hc
 go_enter_d func109,ntmps109
 go_wp2
 go_end0
 go_wp2
 go_end0
 exact⟨rfl,rfl⟩
theorem lock_free (a:Addr)(w:World)(hc:w.cell? a=some (.int .i32 0))(hz:w.frozen? a=false) :
  Calls prog 108 #[.pointer (some a)] w fun e w'=>e = .returned (.tuple #[])/\w'=w.setCell a (.int .i32 1):=by
 have hd:=disable;have he:=enable;have ha:=acquire;have hcas:=run_call_cas_hit (P:=prog) func171 (by kernel_rfl) (by kernel_rfl) (by kernel_rfl) .i32 (by kernel_rfl) (y:=1) hc hz;have hc':(w.setCell a (.int .i32 1)).cell? a=some (.int .i32 1):=cs_same hc;have hcv:=run_convert_to_unsafe (P:=prog) (src:=230) (dst:=234) underlying230 underlying234 (by kernel_rfl) hc';go_enter func108,ntmps108
 go_wp2
 first|go_end0|(simp only[Exit.inBlock,Exit.then];refine bodyPost_ret (results_none rfl _ _ _) rfl ?_)|refine bodyPost_ret (results_none rfl _ _ _) rfl ?_
 go_wp2
 go_end0
 exact⟨rfl,rfl⟩
theorem cellO {w:World}{b:Nat}{C:Array Value}{j:Nat}{v:Value}(h:w.heap[b]? = some (.cells C 73 (0,0)))(hv:C[j]? = some v):w.cell? ⟨b,j,none⟩=some v:=by simp[World.cell?,h,hv]
theorem fzO {w:World}{b:Nat}{C:Array Value}(j:Nat)(h:w.heap[b]? = some (.cells C 73 (0,0))):w.frozen? ⟨b,j,none⟩=false:=by simp[World.frozen?,h]
def onceC (C:Array Value)(dm:Nat):Array Value:=(((C.setIfInBounds 4 (.int .i32 1)).setIfInBounds 6 (.map (some dm))).setIfInBounds 3 (.int .u32 1)).setIfInBounds 4 (.int .i32 0)
theorem slow_any (mb pl:Nat)(w:World)(C:Array Value)(p0:w.cell? ⟨pl,0,none⟩=some (pt mb))(hpl:pl<w.heap.size)(hne:mb≠pl)(hm:w.heap[mb]? = some (.cells C 73 (0,0)))(h3:C[3]? = some (.int .u32 0))(h4:C[4]? = some (.int .i32 0))(h6:∃ v,C[6]? = some v) :
  Calls prog 71 #[.pointer (some ⟨mb,3,none⟩),.func (.func 35) #[] #[pt pl]] w fun e w'=>e = .returned (.tuple #[])/\GM EI prog 3 w' w.heap.size (tabL mb)/\Kept w w' (·≠mb)/\w'.heap[mb]? = some (.cells (onceC C w.heap.size) 73 (0,0)):=by
 obtain⟨w1,hw1⟩:∃ z,z=w.setCell ⟨mb,4,none⟩ (.int .i32 1):=⟨_,rfl⟩
 have q1:w1.heap[mb]? = some (.cells (C.setIfInBounds 4 (.int .i32 1)) 73 (0,0)):=by rw[hw1,heap_setCell_at' w mb 4 _ _ 73 _ hm]
 have hl:=run_call_load (P:=prog) func107 (by kernel_rfl) (by kernel_rfl) (by kernel_rfl) .u32 (by kernel_rfl) (w:=w1) (a:=⟨mb,3,none⟩) (x:=0) (cellO q1 (by simpa using h3));have hp1:w1.cell? ⟨pl,0,none⟩=some (pt mb):=by rw[hw1];exact(cs_ne hne).trans p0
 have hs1:w1.heap.size=w.heap.size:=by rw[hw1];simp
 have k1:Kept w w1 (·≠mb):=by rw[hw1];exact Kept.set _ _ _ _ (by simp)
 have c4:=cellO hm h4;have z4:=fzO 4 hm;have HF:=hid (fill_any mb pl w1 _ hp1 (by omega) q1 (by obtain⟨v,hv⟩:=h6;exact⟨v,by simpa using hv⟩));have hnot:∀ (x:Bool) (w:World),(Op.unary .not (.bool x)).run prog w = .ok (.bool (!x)) w:=fun _ _=>rfl;have H:=jd4 h3 h4 k1 hs1;have HW:=hid hw1
 go_enter_defers func71,ntmps71
 go_wp2_with (go_at_call 108;refine(lock_free ⟨mb,4,none⟩ _ c4 z4).mono ?_;rintro e w' ⟨rfl,rfl⟩)
 rw[<-hw1];clear hw1
 go_wp2_with (first|(go_at_call 35;refine HF.out.mono ?_;rintro e w2 ⟨rfl,g2,k2,q2⟩)|(go_at_call 70;go_in))
 refine leaves_cons (f:=110) (args := #[.pointer (some ⟨mb,3,none⟩),.bool true]) (by simp) (by simp[go_sem]) ?_;have q2c:w2.cell? ⟨mb,3,none⟩=some (.int .u32 0):=cellO q2 (by simpa using H.out.1);refine(store_deferred ⟨mb,3,none⟩ (.int .u32 0) .returning _ q2c (fzO 3 q2)).mono ?_;rintro e u' w'' ⟨rfl,rfl,rfl⟩;refine leaves_cons (f:=109) (args := #[.pointer (some ⟨mb,4,none⟩)]) (by simp[settle]) (by simp[go_sem]) ?_;have q3:(w2.drew.setCell ⟨mb,3,none⟩ (.int .u32 1)).heap[mb]? = some (.cells (((C.setIfInBounds 4 (.int .i32 1)).setIfInBounds 6 (.map (some w1.heap.size))).setIfInBounds 3 (.int .u32 1)) 73 (0,0)):=heap_setCell_at' w2.drew mb 3 _ _ 73 _ q2;refine(unlock_deferred ⟨mb,4,none⟩ _ _ (cellO q3 (by
  have:4<C.size:=by
   have:=H.out.2.1;rw[Array.getElem?_eq_some_iff] at this;exact this.1
  simp[this])) (fzO 4 q3)).mono ?_
 rintro e u' w'' ⟨rfl,rfl,rfl⟩;obtain⟨h3,h4,k1,hs1⟩:=H.out;have q4:=heap_setCell_at' (w2.drew.setCell ⟨mb,3,none⟩ (.int .u32 1)) mb 4 (.int .i32 0) _ 73 _ q3;have hkF:Kept w2 ((w2.drew.setCell ⟨mb,3,none⟩ (.int .u32 1)).setCell ⟨mb,4,none⟩ (.int .i32 0)) (·≠mb):=((Kept.drew _ _).trans (Kept.set _ _ _ _ (by simp))).trans (Kept.set _ _ _ _ (by simp));have hgF:GM EI prog 3 ((w2.drew.setCell ⟨mb,3,none⟩ (.int .u32 1)).setCell ⟨mb,4,none⟩ (.int .i32 0)) w.heap.size (tabL mb):=by
  rw[hs1] at g2;exact g2.block (hkF.block _ g2.lt (by have:=blk_lt hm;omega))
 have hend:True/\GM EI prog 3 ((w2.drew.setCell ⟨mb,3,none⟩ (.int .u32 1)).setCell ⟨mb,4,none⟩ (.int .i32 0)) w.heap.size (tabL mb)/\Kept w ((w2.drew.setCell ⟨mb,3,none⟩ (.int .u32 1)).setCell ⟨mb,4,none⟩ (.int .i32 0)) (·≠mb)/\((w2.drew.setCell ⟨mb,3,none⟩ (.int .u32 1)).setCell ⟨mb,4,none⟩ (.int .i32 0)).heap[mb]? = some (.cells (onceC C w.heap.size) 73 (0,0)) :=
  ⟨trivial,hgF,(k1.trans k2).trans hkF,by rw[q4,hs1];rfl⟩
 have HE:=hid hend.2;clear hend hgF hkF q4 hl g2 k2 q2 q3 q2c;simp[Leaves,settle,results,results71];exact HE.out
theorem do_first (mb pl:Nat)(w:World)(C:Array Value)(p0:w.cell? ⟨pl,0,none⟩=some (pt mb))(hpl:pl<w.heap.size)(hne:mb≠pl)(hm:w.heap[mb]? = some (.cells C 73 (0,0)))(h3:C[3]? = some (.int .u32 0))(h4:C[4]? = some (.int .i32 0))(h6:∃ v,C[6]? = some v) :
  Calls prog 34 #[.pointer (some ⟨mb,3,none⟩),.func (.func 35) #[] #[pt pl]] w fun e w'=>e = .returned (.tuple #[])/\GM EI prog 3 w' w.heap.size (tabL mb)/\Kept w w' (·≠mb)/\w'.heap[mb]? = some (.cells (onceC C w.heap.size) 73 (0,0)):=by
 have hl:=run_call_load (P:=prog) func107 (by kernel_rfl) (by kernel_rfl) (by kernel_rfl) .u32 (by kernel_rfl) (w:=w) (a:=⟨mb,3,none⟩) (x:=0) (cellO hm h3);have hnot:∀ (x:Bool) (w:World),(Op.unary .not (.bool x)).run prog w = .ok (.bool (!x)) w:=fun _ _=>rfl;have HS:=hid (slow_any mb pl w C p0 hpl hne hm h3 h4 h6);clear hm h3 h4 h6 p0;go_enter func34,ntmps34
 go_wp2_with (first|(go_at_call 71;refine HS.out.mono ?_;rintro e w' ⟨rfl,hd⟩)|(go_at_call 70;go_in))
 go_end0
 exact⟨rfl,hd⟩
theorem do_done (mb:Nat)(fv:Value)(w:World)(h0:w.cell? ⟨mb,3,none⟩=some (.int .u32 1)) :
  Calls prog 34 #[.pointer (some ⟨mb,3,none⟩),fv] w fun e w'=>e = .returned (.tuple #[])/\w'=w:=by
 have hl:=run_call_load (P:=prog) func107 (by kernel_rfl) (by kernel_rfl) (by kernel_rfl) .u32 (by kernel_rfl) h0;have hnot:∀ (x:Bool) (w:World),(Op.unary .not (.bool x)).run prog w = .ok (.bool (!x)) w:=fun _ _=>rfl;go_enter func34,ntmps34
 go_wp2
 go_end0
 exact⟨rfl,rfl⟩
end Go.Proofs.YtgkabcaodnofnaaGreat
namespace Go.Mx
open Go.RowKit
theorem step_append_gn {P:Program}(w:World){ops:Array Oper}{o:Oper}{a:Act}{K:Act->World->Prop}{Q:Exit->Act->World->Prop}{E:Prop}(hgd:o.guard=none)(s x:Operand)(t e:TypeId)(z:Value)(sz bytes:Nat)
  (ho:o.op = .call {callee:=.builtin .append,args := #[s,x],argTypes := #[t,t]})
  (ht:P.underlying t=some (.slice e)) (hi:(P.info? e).map (fun i=>(i.zero,i.size,i.bytes))=some (some z,sz,bytes)) (hz:z.cells.size=sz) (hsz:0<sz)
  (base:Nat) (v:Value) (rows:List (List Value)) (hs:a.eval s=v) (hown:OwnG w base e sz v rows) (g c:Nat) (row:List Value) (hx:a.eval x = .slice (some ⟨g,0,none⟩) 1 c)
  (hl:row.length=sz) (hcell:∀ j u,row[j]? = some u->w.cell? ⟨g,j,none⟩=some u) (hone:∀ u∈row,u.oneCell'=true)
  (hlen:(rows.length+1)*bytes<=140737488355328) (hlen2:rows.length+1<=140737488355328) (hB:base<=w.heap.size)
  (h:∀ v' w',OwnG w' base e sz v' (rows++[row])->w.grownBy w' v.ownBlock->Below base w w'->(∀ q,v'.ownBlock=some q->v.ownBlock=some q\/w.heap.size<=q)->K (a.put o.dst v') w'):if Region.wanted o (yielded ops a.tmps)=true then Oper.wp P o a w K Q else E:=by
 have hw:Region.wanted o (yielded ops a.tmps)=true:=by simp[Region.wanted,hgd]
 rw[if_pos hw];obtain⟨i0,hi0,hz0,hz1,hz2⟩:=info_parts hi;have hcell':∀ j u,row[j]? = some u->w.cell? ((⟨g,0,none⟩:Addr).add j)=some u:=fun j u hj=>by rw[addr_add];exact hcell j u hj
 have hml:rows.length+1<=maxLen:=by unfold maxLen;omega
 obtain⟨v',w',hr,h2,h3,h4⟩:=run_append_own (P:=P) w base t o.type e i0 z sz bytes ht hi0 hz0 hz1 hz2 hz hsz v rows.length _ hown.1 ⟨g,0,none⟩ 1 c row (by omega) hcell' hone hml hlen hB;have hbk:∀ q,v'.ownBlock=some q->v.ownBlock=some q\/w.heap.size<=q:=by
  have hfl:=flat_len rows hown.2;rcases hown.1.2 with⟨rfl,hn0⟩|⟨g',cap,cur,rfl,hbg,hgg,hn,hm,hcs,htk⟩
  ·have hr2:=run_append_nil (P:=P) w t o.type e i0 z ht hi0 hz0 ⟨g,0,none⟩ 1 c row (by omega) hcell' (by omega) (by omega) (by rw[hz2];have:=Nat.mul_le_mul_right bytes (show 1<=rows.length+1 by omega);omega);rw[hr] at hr2;intro q hq;simp only[Result.ok.injEq] at hr2;rw[hr2.1] at hq;simp only[Value.ownBlock,Option.some.injEq] at hq;exact .inr (by omega)
  ·by_cases hroom:rows.length+1<=cap
   ·have hr2:=run_append_room (P:=P) w t o.type e i0 ht hi0 g' rows.length cap cur hgg ⟨g,0,none⟩ 1 c row (by omega) hcell' hone hroom (by
     rw[hz1,hl,hcs,<-Nat.succ_mul];exact Nat.mul_le_mul_right _ hroom)
    rw[hr] at hr2;intro q hq;simp only[Result.ok.injEq] at hr2;rw[hr2.1] at hq;exact .inl hq
   ·have holds:∀ j u,rows.flatten[j]? = some u->w.cell? ((⟨g',0,none⟩:Addr).add j)=some u:=World.ownsRow.cells hown.1 (g:=g') rfl;have hr2:=run_append_grow (P:=P) w t o.type e i0 z ht hi0 hz0 ⟨g',0,none⟩ rows.length cap rows.flatten (by rw[hfl,hz1]) holds ⟨g,0,none⟩ 1 c row (by omega) hcell' (by omega) (by omega) (by
     rw[hz2];exact growslice_fits (by omega) hlen)
    rw[hr] at hr2;intro q hq;simp only[Result.ok.injEq] at hr2;rw[hr2.1] at hq;simp only[Value.ownBlock,Option.some.injEq] at hq;exact .inr (by omega)
 unfold Oper.wp;simp[execOp,ho,resolve,invoke,builtin,hs,hx,hr,Result.andThen];refine h v' w' ⟨by simpa using h2,?_⟩ h3 ((Below.refl base w).grown h3 hB (fun k hk=>(World.ownsRow.lt hown.1 k hk).1)) hbk;intro r hr;rcases List.mem_append.1 hr with hr|hr
 ·exact hown.2 r hr
 ·simp at hr;rw[hr];exact hl
end Go.Mx
namespace Go.Md
def flushM (M:MM)(n:Bs):MM:=match fnd M.all n with
 | some i=>⟨M.all,setI M.kept n i,fun m=>if m=n then false else M.ch m⟩
 | none=>M
end Go.Md
namespace Go.Proofs.YtgkabcaodnofnaaGreat
open Go.RowKit Go.Mx Go.Md
theorem info28:(prog.info? 28).map (fun i=>(i.zero,i.size,i.bytes))=some (some (.pointer none),1,8):=by kernel_rfl
variable {w w':World}{base mb:Nat}{M:MM}{X:MX}
theorem AM.atx {am:Nat}{S:IL}{xs:List XI}(h:AM w base am S xs){x:XI}(hx:x∈xs):(Instr.lookup 57 (.map (some am)) (str x.n) false).run prog w = .ok (pt x.ib) w:=by
 rcases h.at x.n (Nat.le_trans (h.nl x hx) (by unfold maxLen;omega)) with⟨h1,_⟩|⟨z,hz,h1,_,h3⟩
 ·rw[h.find hx] at h1;cases h1
 ·rw[name_inj h.names hx hz h1] at h3;exact h3
theorem flA {X7:MX}{M7:MM}{w7 w8:World}{fa:Option Addr}{fn fc:Nat}(h:MO w7 base mb M7 X7)(hfv:X7.fv = .slice fa fn fc)(hb:base<=w7.heap.size)(hfr:X7.fr.length<=1000000)(hb8:Below w7.drew.heap.size w7.drew w8)(nb:Nat) :
  OwnG (w8.alloc (.cells #[pt nb] 28)) base 28 1 (.slice fa fn fc) (X7.fr.map fun v=>[v])/\(∀ (j:Nat) (u:Value),([pt nb]:List Value)[j]? = some u->(w8.alloc (.cells #[pt nb] 28)).cell? ⟨w8.heap.size,j,none⟩=some u)/\
   ((X7.fr.map fun v=>[v]).length+1)*8<=140737488355328/\(X7.fr.map fun v=>[v]).length+1<=140737488355328/\base<=(w8.alloc (.cells #[pt nb] 28)).heap.size/\
   (∀ w9,(w8.alloc (.cells #[pt nb] 28)).grownBy w9 (Value.slice fa fn fc).ownBlock->w9.frozen? ⟨mb,7,none⟩=false)/\(∀ w9,(w8.alloc (.cells #[pt nb] 28)).grownBy w9 (Value.slice fa fn fc).ownBlock->w9.cell? ⟨mb,7,none⟩=some (.slice fa fn fc))/\(w8.alloc (.cells #[pt nb] 28)).cell? ⟨mb,7,none⟩=some (.slice fa fn fc):=by
 have hb7:Below w7.heap.size w7 w8:=brf.drew.trans hb8;have hbA:Below w7.heap.size w7 (w8.alloc (.cells #[pt nb] 28)):=hb7.alloc hb7.size _;have h9:∀ w9,(w8.alloc (.cells #[pt nb] 28)).grownBy w9 (Value.slice fa fn fc).ownBlock->w9.heap[mb]? = some (.cells (mcells X7) 73 (0,0)):=fun w9 hg=>by
  rw[<-hfv] at hg;refine(hg.block mb (Nat.lt_of_lt_of_le (blk_lt h.ck) hbA.size) fun e=>?_).trans ((hbA.block mb (blk_lt h.ck)).trans h.ck);exact((Ap.of h.nd).f mb e.symm).1 rfl
 refine⟨by rw[<-hfv];exact h.f.below hbA nlr,fun j u hu=>row_cells w8 [pt nb] 28 j u hu,by rw[List.length_map];omega,by rw[List.length_map];omega,Nat.le_trans hb hbA.size,fun w9 hg=>?_,fun w9 hg=>?_,?_⟩
 ·simp[World.frozen?,h9 w9 hg]
 ·rw[<-hfv];simp[World.cell?,h9 w9 hg]
 ·rw[<-hfv];simp only[World.cell?,(hbA.block mb (blk_lt h.ck)).trans h.ck];rfl
theorem flB {X7:MX}{M7:MM}{w7 w8 w9:World}{fa:Option Addr}{fn fc:Nat}{v9:Value}(h:MO w7 base mb M7 X7)(hfv:X7.fv = .slice fa fn fc)(hb8:Below w7.drew.heap.size w7.drew w8)(nb:Nat)
  (ho9:OwnG w9 base 28 1 v9 ((X7.fr.map fun v=>[v])++[[pt nb]])) (hg9:(w8.alloc (.cells #[pt nb] 28)).grownBy w9 (Value.slice fa fn fc).ownBlock) (hq9:∀ q,v9.ownBlock=some q->(Value.slice fa fn fc).ownBlock=some q\/(w8.alloc (.cells #[pt nb] 28)).heap.size<=q) :
  MO (w9.setCell ⟨mb,7,none⟩ v9) base mb M7 {X7 with fv:=v9,fr:=X7.fr++[pt nb]}/\Stp w7 (w9.setCell ⟨mb,7,none⟩ v9) (X7.fp mb) (MX.fp mb {X7 with fv:=v9,fr:=X7.fr++[pt nb]}):=by
 have hb7:Below w7.heap.size w7 w8:=brf.drew.trans hb8;have hbA:Below w7.heap.size w7 (w8.alloc (.cells #[pt nb] 28)):=hb7.alloc hb7.size _;have hap:=Ap.of h.nd;have hq7:∀ q,v9.ownBlock=some q->X7.fv.ownBlock=some q\/w7.heap.size<=q:=fun q e=>by
  rcases hq9 q e with h1|h1
  ·exact .inl (by rw[hfv];exact h1)
  ·exact .inr (Nat.le_trans hbA.size h1)
 have hk9:Kept w7 w9 (fun b=>X7.fv.ownBlock≠some b):=((Kept.of_below (N:=fun _=>True) hbA fun k hk _=>hk).imp fun _ _=>trivial).trans (Kept.grown hg9 fun k hk hn=>hn (by rw[hfv];exact hk));have hkA:Kept w7 (w9.setCell ⟨mb,7,none⟩ v9) (fun b=>X7.fv.ownBlock≠some b/\b≠mb):=(hk9.imp fun b hb=>hb.1).trans (Kept.set _ _ _ _ (by simp));have hq9b:w9.heap[mb]? = some (.cells (mcells X7) 73 (0,0)):=(hk9.block mb (blk_lt h.ck) fun e=>(hap.f mb e).1 rfl).trans h.ck;have hNI:NI w7 (fun b=>X7.fv.ownBlock≠some b/\b≠mb):=fun b c t f hb h3=>by
  refine⟨fun e=>?_,fun e=>?_⟩
  ·obtain⟨c9,f9,h9⟩:=ownG_type h.f b e;rw[h9] at hb;cases hb;rcases h3 with h|h|h<;>cases h
  ·rw[e,h.ck] at hb;cases hb;rcases h3 with h|h|h<;>cases h
 have hv9:∀ q,v9.ownBlock=some q->q≠mb:=fun q e e2=>by
  rcases hq7 q e with h1|h1
  ·exact(hap.f q h1).1 e2
  ·have:=blk_lt h.ck;omega
 refine⟨⟨?_,h.a.kept hkA (fun b hb=>⟨fun e=>(hap.f b e).2.2.1 hb,(hap.a b hb).1⟩) hNI,h.k.kept hkA (fun b hb=>⟨fun e=>(hap.f b e).2.2.2 hb,(hap.k b hb).1⟩) hNI,h.h.block (hkA.block _ h.h.lt ⟨fun e=>(hap.f _ e).2.1 rfl,fun e=>hap.mh e.symm⟩),h.ht,h.hc,fun dm e=>(h.d dm e).block (hkA.block _ (h.d dm e).lt ⟨(hap.d dm e).2.2.1,(hap.d dm e).1⟩),?_,?_⟩,?_,?_⟩
 ·rw[heap_setCell_at' w9 mb 7 _ _ 73 _ hq9b];rfl
 ·rw[List.map_append];exact ho9.kept (Kept.set _ _ _ _ (N:=(·≠mb)) (by simp)) fun q e=>hv9 q e
 ·refine Ap.nd ⟨hap.mh,fun q e=>⟨(hap.d q e).1,(hap.d q e).2.1,fun e2=>?_,(hap.d q e).2.2.2⟩,fun q e=>?_,hap.a,hap.k,hap.na,hap.nk⟩
  ·rcases hq7 q e2 with h1|h1
   ·exact(hap.d q e).2.2.1 h1
   ·have:=(h.d q e).lt;omega
  ·rcases hq7 q e with h1|h1
   ·exact hap.f q h1
   ·refine⟨hv9 q e,fun e2=>?_,fun e2=>?_,fun e2=>?_⟩
    ·have:=h.h.lt;have e3:q=X7.hm:=e2;omega
    ·have:=h.a.lt q e2;omega
    ·have:=h.k.lt q e2;omega
 ·refine hkA.imp fun b hb=>⟨fun e=>hb (MX.mem.2 (by simp[e])),fun e=>hb (MX.mem.2 (by simp[e]))⟩
 ·intro b hb;rw[MX.mem] at hb ⊢;rcases hb with h1|h1|h1|h1|h1
  ·exact .inl (.inl h1)
  ·exact .inl (.inr (.inl h1))
  ·exact .inl (.inr (.inr (.inl h1)))
  ·rcases hq7 b h1 with h2|h2
   ·exact .inl (.inr (.inr (.inr (.inl h2))))
   ·exact .inr h2
  ·exact .inl (.inr (.inr (.inr (.inr h1))))
theorem flush_any (h:MO w base mb M X)(hbase:base<=w.heap.size){x:XI}(hx:x∈X.xs)(hl:X.ks.length<=100)(hfl:X.fr.length<=1000000) :
  Calls prog 77 #[pt mb,str x.n] w fun e w'=>e = .returned (.tuple #[])/\∃ X',MO w' base mb (flushM M x.n) X'/\X'.am=X.am/\X'.xs=X.xs/\X'.ks.length<=X.ks.length+1/\X'.fr.length=X.fr.length+1/\X'.dm=X.dm/\X'.cl.length<=X.cl.length/\Stp w w' (X.fp mb) (X'.fp mb):=by
 obtain⟨c0,c1,c2,_,_,_,_,c7,cz⟩:=h.cells;have hkm:Kept w w (·≠X.km):=Kept.refl _ _;have hII:=h.a.i x hx;have hok:=h.a.ok x hx;have hnd:=h.nd;unfold MX.fp at hnd;simp only[List.nodup_cons,List.nodup_append,List.mem_cons,List.mem_append,not_or] at hnd;obtain⟨⟨n1,n2,n3,n4,n5⟩,⟨m2,m3,m4,m5⟩,_,⟨_,⟨hnA,hnK,hAK⟩,hfA⟩,hdA⟩:=hnd;have hlk:=fun w' (hk:Kept w w' (·≠X.km))=>(h.a.kept hk (fun b hb e=>hAK b hb X.km (List.mem_cons_self ..) e) (fun b c t f hb _ e=>by obtain⟨es,k,h1⟩:=h.k.g.isMap;rw[e,h1] at hb;cases hb)).atx hx;have hkmb:mb≠X.km:=fun e=>n5 (e▸List.mem_cons_self ..);have d0:∀ w',Kept w w' (·≠X.km)->w'.cell? ⟨mb,0,none⟩=some (.map (some X.am)):=fun w' hk=>(hk.cell (blk_lt h.ck) hkmb).trans c0;have d1:∀ w',Kept w w' (·≠X.km)->w'.cell? ⟨mb,1,none⟩=some (.map (some X.km)):=fun w' hk=>(hk.cell (blk_lt h.ck) hkmb).trans c1
 have HC:=hid (fun w' (hk:Kept w w' (·≠X.km))=>clone_any (hII.kept hk (fun b hb e=>hAK b (fpA_mem hx b hb) X.km (List.mem_cons_self ..) e) (fun b c t f hb _ e=>by obtain⟨es,k,h1⟩:=h.k.g.isMap;rw[e,h1] at hb;cases hb)) (Nat.le_trans hbase hk.size) hok.ns);have HG:=hid (h.k.g.block (w':=w.drew) rfl);have hkl:(X.ks.map fun x=>(x.n,pt x.ib)).length<maxLen:=by rw[List.length_map];unfold maxLen;omega
 have hnl:x.n.length<=maxLen:=Nat.le_trans (h.a.nl x hx) (by unfold maxLen;omega);have H:=jd3 h hII hok;have HN:=jd9 n1 n2 n3 n4 n5 m2 m3 m4 (And.intro m5 (And.intro hnA (And.intro hnK (And.intro hAK (And.intro hfA (And.intro hdA (And.intro hkl (And.intro hnl (And.intro c2 c7)))))))));clear h hII hok n1 n2 n3 n4 n5 m2 m3 m4 m5 hnA hnK hAK hfA hdA hkl c2 c7;have e0:=d0 w hkm;have e1:=d1 w hkm;go_enter func77,ntmps77
 go_upto_region 0 with(fail)
 go_region_held (fun w'=>Kept w w' (·≠X.km)) (first|exact Kept.drew _ _|assumption|exact Kept.trans (by assumption) (Kept.drew _ _)) (first
  | (go_at_call 26;refine(HC.out _ (by assumption)).mono ?_;rintro e w5 ⟨rfl,x5,hII5,hnd5,hge5,hb5c⟩;have hk5:Kept w w5 (·≠X.km):=Kept.trans (by assumption) (Kept.of_below hb5c fun k hk _=>hk);obtain⟨w6,hrun,hg6,hgr6,hs6,hf6⟩:=(HG.out.block (hb5c.block _ HG.out.lt)).upd K9 underlying57 x.n hnl (pt w.heap.size) rfl HN.out.2.2.2.2.2.2.2.2.2.2.2.2.2.2.1;have hrun':(Instr.mapUpdate 57 (.map (some X.km)) (str x.n) (pt w.heap.size)).run prog w5 = .ok () w6:=hrun;have hk6:Kept w w6 (·≠X.km):=hk5.trans (Kept.grown hgr6 fun k hk=>(by cases hk;simp))))
 obtain⟨n1,n2,n3,n4,n5,m2,m3,m4,m5,hnA,hnK,hAK,hfA,hdA,hkl,hnl',c2,c7⟩:=HN.out;obtain⟨h,hII,hok⟩:=H.out;have c26:w6.cell? ⟨mb,2,none⟩=some (.map (some X.hm)):=(hk6.cell (blk_lt h.ck) hkmb).trans c2;have hhk:X.hm≠X.km:=fun e=>m5 (e▸List.mem_cons_self ..);have hgh6:GM ES prog 9 w6 X.hm X.cl:=h.h.block (hk6.block _ h.h.lt hhk);obtain⟨w7,hdel,hg7,hgr7,hs7,hf7⟩:=hgh6.del K9 (t:=58) underlying58 x.n hnl' 0;have hdel':(Builtin.delete_ #[58,9] 0 #[.map (some X.hm),str x.n]).run prog w6 = .ok (.tuple #[]) w7:=hdel;have hk7:Kept w6 w7 (·≠X.hm):=Kept.grown hgr7 fun k hk=>by cases hk;simp
 have H7:=jd9 hg7 hk7 hk6 hII5 hnd5 hge5 hb5c hg6 (And.intro hgr6 (And.intro hs6 (And.intro hgr7 hs7)));clear n1 n2 n3 n4 n5 m2 m3 m4 m5 hnA hnK hAK hfA hdA hkl hnl' c2 c7 h hII hok hg7 hk7 hk6 hII5 hnd5 hge5 hb5c hg6 hgr6 hs6 hgr7 hs7 hgh6 hdel hrun hrun' hf6 hf7 hk5 d0 d1 hlk e0 e1 c0 c1 hkm HC HG;go_upto_region 2 with(fail)
 obtain⟨hg7,hk7,hk6,hII5,hnd5,hge5,hb5c,hg6,hgr6,hs6,hgr7,hs7⟩:=H7.out;obtain⟨n1,n2,n3,n4,n5,m2,m3,m4,m5,hnA,hnK,hAK,hfA,hdA,hkl,hnl',c2,c7⟩:=HN.out;obtain⟨h,hII,hok⟩:=H.out;have hap:=Ap.of h.nd;have hhk:X.hm≠X.km:=fun e=>m5 (e▸List.mem_cons_self ..);have hltmb:mb<w.heap.size:=blk_lt h.ck;have hlt:=h.lt;have hlk':∀ b∈fpA X.km X.ks,b<w.heap.size:=h.k.lt;have hb5:Below w.heap.size w w5:=brf.drew.trans hb5c;have hk65:Kept w5 w6 (·≠X.km):=Kept.grown hgr6 fun k hk=>by cases hk;simp
 have hkmlt:X.km<w.heap.size:=h.k.g.lt;have hhmlt:X.hm<w.heap.size:=h.h.lt;have hge5':∀ b∈x5.fp w.heap.size,w.heap.size<=b:=hge5;have hII6:II w6 base w.heap.size x.i x5:=hII5.kept hk65 (fun b hb=>by have:=hge5' b hb;omega) fun b c t f hb _ e=>by
  obtain⟨es,k,h1⟩:=(h.k.below hb5).g.isMap;rw[e,h1] at hb;cases hb
 have hAk6:AM w6 base X.km (setI M.kept x.n x.i) (putX X.ks ⟨x.n,x.i,w.heap.size,x5⟩):=AM.put (y:=⟨x.n,x.i,w.heap.size,x5⟩) (h.k.below hb5) hnK hg6 hk65 hII6 hok (h.a.nl x hx);have hNI7:NI w6 (·≠X.hm):=fun b c t f hb _ e=>by
  obtain⟨es,k,h1⟩:=(h.h.block (hk6.block _ hhmlt hhk)).isMap;rw[e,h1] at hb;cases hb
 have hfk:∀ b∈fpA X.km (putX X.ks ⟨x.n,x.i,w.heap.size,x5⟩),b∈fpA X.km X.ks\/w.heap.size<=b:=fun b hb=>(fpA_putX hb).imp id fun h1=>hge5' b h1;have hAk7:=hAk6.kept hk7 (fun b hb e=>by
  rcases hfk b hb with h1|h1
  ·exact m5 (e▸h1)
  ·omega) hNI7
 have hk67:Kept w w7 (fun b=>b≠X.km/\b≠X.hm):=(hk6.imp fun b hb=>hb.1).trans (hk7.imp fun b hb=>hb.2);have hNI67:NI w (fun b=>b≠X.km/\b≠X.hm):=fun b c t f hb h3=>by
  refine⟨fun e=>?_,fun e=>?_⟩
  ·obtain⟨es,k,h1⟩:=h.k.g.isMap;rw[e,h1] at hb;cases hb
  ·obtain⟨es,k,h1⟩:=h.h.isMap;rw[e,h1] at hb;cases hb
 have hA7:=h.a.kept hk67 (fun b hb=>⟨fun e=>hAK b hb X.km (List.mem_cons_self ..) e,fun e=>m4 (e▸hb)⟩) hNI67;have q7:w7.heap[mb]? = some (.cells (mcells X) 73 (0,0)):=(hk67.block mb hltmb ⟨fun e=>n5 (e▸List.mem_cons_self ..),n1⟩).trans h.ck;have hs57:w.heap.size<=w7.heap.size:=hk67.size;have hfo7:OwnG w7 base 28 1 X.fv (X.fr.map fun v=>[v]):=h.f.kept hk67 fun q hq=>⟨fun e=>(hap.f q hq).2.2.2 (e▸List.mem_cons_self ..),fun e=>(hap.f q hq).2.1 e⟩
 have hd7:∀ dm,X.dm=some dm->GM EI prog 3 w7 dm (tabL mb):=fun dm e=>(h.d dm e).block (hk67.block _ (h.d dm e).lt ⟨fun e2=>(hap.d dm e).2.2.2.2 (e2▸List.mem_cons_self ..),fun e2=>(hap.d dm e).2.1 e2⟩);obtain⟨M7,hM7⟩:∃ z:MM,z=⟨M.all,setI M.kept x.n x.i,fun m=>if m=x.n then false else M.ch m⟩:=⟨_,rfl⟩
 have hMf:flushM M x.n=M7:=by unfold flushM;rw[h.a.find hx,hM7]
 obtain⟨X7,hX7⟩:∃ z:MX,z={X with ks:=putX X.ks ⟨x.n,x.i,w.heap.size,x5⟩,cl:=Mx.del X.cl x.n}:=⟨_,rfl⟩
 have hks:X7.ks.length<=X.ks.length+1/\X7.cl.length<=X.cl.length:=by rw[hX7];exact⟨putX_len,by unfold Mx.del;exact List.length_filter_le _ _⟩
 have hap7:Ap mb X7:=by
  rw[hX7];refine⟨hap.mh,fun q e=>?_,fun q e=>?_,fun b hb=>?_,fun b hb=>?_,hap.na,?_⟩
  ·have h1:=hap.d q e;refine⟨h1.1,h1.2.1,h1.2.2.1,h1.2.2.2.1,fun h2=>?_⟩;rcases hfk q h2 with h3|h3
   ·exact h1.2.2.2.2 h3
   ·have:=(h.d q e).lt;omega
  ·have h1:=hap.f q e;refine⟨h1.1,h1.2.1,h1.2.2.1,fun h2=>?_⟩;rcases hfk q h2 with h3|h3
   ·exact h1.2.2.2 h3
   ·have:=h.f.lt q e;omega
  ·have h1:=hap.a b hb;refine⟨h1.1,h1.2.1,fun h2=>?_⟩;rcases hfk b h2 with h3|h3
   ·exact h1.2.2 h3
   ·have:=h.a.lt b hb;omega
  ·rcases hfk b hb with h3|h3
   ·exact hap.k b h3
   ·exact(show b≠mb/\b≠X.hm from⟨by omega,by omega⟩)
  ·refine fpA_putX_nodup h.k.names hap.nk hnd5 fun b hb h2=>?_;have:=hge5' b hb;have:=hlk' b h2;omega
 have hMO7:MO w7 base mb M7 X7:=by
  refine⟨?_,?_,?_,?_,?_,?_,?_,?_,hap7.nd⟩
  ·rw[hX7];exact q7
  ·rw[hX7,hM7];exact hA7
  ·rw[hX7,hM7];exact hAk7
  ·rw[hX7];exact hg7
  ·rw[hX7];intro p hp;exact h.ht p (mem_del.1 hp).1
  ·intro n;rw[hX7,hM7];show(if n=x.n then false else M.ch n)=(Mx.look (Mx.del X.cl x.n) n).isSome;rw[look_del];split
   ·rfl
   ·exact h.hc n
  ·rw[hX7];exact hd7
  ·rw[hX7];exact hfo7
 have hst7:Stp w w7 (X.fp mb) (X7.fp mb):=by
  refine⟨hk67.imp fun b hb=>⟨fun e=>hb (e▸MX.mem.2 (by simp[fpA])),fun e=>hb (e▸MX.mem.2 (by simp))⟩,fun b hb=>?_⟩;rw[MX.mem] at hb ⊢;rw[hX7] at hb;rcases hb with h1|h1|h1|h1|h1|h1
  ·exact .inl (.inl h1)
  ·exact .inl (.inr (.inl h1))
  ·exact .inl (.inr (.inr (.inl h1)))
  ·exact .inl (.inr (.inr (.inr (.inl h1))))
  ·exact .inl (.inr (.inr (.inr (.inr (.inl h1)))))
  ·rcases hfk b h1 with h2|h2
   ·exact .inl (.inr (.inr (.inr (.inr (.inr h2)))))
   ·exact .inr h2
 have hX7':X7.am=X.am/\X7.xs=X.xs/\X7.dm=X.dm/\X7.fv=X.fv/\X7.fr=X.fr:=by rw[hX7];exact⟨rfl,rfl,rfl,rfl,rfl⟩
 have HMF:=hid hMf;clear n1 n2 n3 n4 n5 m2 m3 m4 m5 hnA hnK hAK hfA hdA hkl c2 c7 hX7 hM7 hMf hap7 hk67 hNI67 hA7 q7 hfo7 hd7 hAk7 hfk hNI7 hAk6 hII6 hge5' hhmlt hkmlt hk65 hb5 hlk' hlt hltmb hhk hap h hII hok hg7 hk7 hk6 hII5 hnd5 hge5 hb5c hg6 hgr6 hs6 hgr7 hs7 hnl' hkmb hdel' HN H c26 H7
 -- the flushes
 have hbase7:base<=w7.heap.size:=Nat.le_trans hbase hs57;obtain⟨fa,fn,fc,hfv⟩:=ownG_sh hMO7.f;have f7:=hMO7.cells.2.2.2.2.2.2.2.1;rw[hfv] at f7;have HK:=hid (kept_any (w:=w7.drew) (M:=M7) (X:=X7) ⟨_,hMO7.ck,rfl⟩ (hMO7.k.below brf.drew) hbase7 (by omega));have hfrl:X7.fr.length<=1000000:=by rw[hX7'.2.2.2.2];exact hfl
 have H7:=jd8 hMO7 hst7 hX7' hks hbase7 hfv hfrl hs57;clear hMO7 hst7 hX7' hks hbase7 hfv hfrl hs57
 go_region_law (first
  | (refine step_append_gn _ (by rfl) (.tmp 25) (.tmp 28) 35 28 _ 1 8 (by rfl) underlying35 info28 rfl (by decide) base _ (X7.fr.map fun v=>[v]) (by rfl) hoA w8.heap.size 1 [pt nb] (by rfl) rfl hrowA (by simp[Value.oneCell']) hl8 hl9 hbA ?_;intro v9 w9 ho9 hg9 hb9 hq9;obtain⟨ga,gn,gc,rfl⟩:=ownG_sh ho9;have z9:=hz9 _ hg9;have c9:=hc9 _ hg9)
  | (go_simp;go_wp2_with (go_at_call 16;refine HK.out.mono ?_;rintro e w8 ⟨nb,X8,rfl,hMO8,hge8,hfr8,hb8⟩;have f8:w8.cell? ⟨mb,7,none⟩=some (.slice fa fn fc):=(World.cell?_of_block (hb8.block mb (blk_lt H7.out.1.ck))).trans f7;obtain⟨hoA,hrowA,hl8,hl9,hbA,hz9,hc9,f9⟩:=flA H7.out.1 H7.out.2.2.2.2.2.1 H7.out.2.2.2.2.1 H7.out.2.2.2.2.2.2.1 hb8 nb)))
 all_goals
  have h9:=flB H7.out.1 H7.out.2.2.2.2.2.1 hb8 nb ho9 hg9 hq9;obtain⟨e1,e2,e3,e4,e5⟩:=H7.out.2.2.1;have h10:=H7.out.2.1;have h11:=H7.out.2.2.2.1;have hm:=HMF.out
  go_end0
  rw[hm];exact⟨rfl,_,h9.1,e1,e2,h11.1,by simp[e5],e3,h11.2,h10.trans h9.2⟩
variable {w w':World}{base mb:Nat}{M:MM}{X:MX}
theorem MO.set {dm:Option Nat}{fv:Value}{fr:List Value}(h:MO w base mb M X)(hk:Kept w w' (·≠mb))(hc:w'.heap[mb]? = some (.cells (mcells {X with dm:=dm,fv:=fv,fr:=fr}) 73 (0,0)))
  (hd:∀ q,dm=some q->GM EI prog 3 w' q (tabL mb)) (hf:OwnG w' base 28 1 fv (fr.map fun v=>[v])) (hdm:∀ q,dm=some q->X.dm=some q\/(w.heap.size<=q/\fv = .slice none 0 0)) (hfv:fv.ownBlock=X.fv.ownBlock\/fv = .slice none 0 0) :
  MO w' base mb M {X with dm:=dm,fv:=fv,fr:=fr}/\Stp w w' (X.fp mb) (MX.fp mb {X with dm:=dm,fv:=fv,fr:=fr}):=by
 have hap:=Ap.of h.nd;have hNI:NI w (·≠mb):=fun b c t f hb h3 e=>by rw[e,h.ck] at hb;cases hb;rcases h3 with h|h|h<;>cases h
 have hfv':∀ q,fv.ownBlock=some q->X.fv.ownBlock=some q:=fun q e=>by
  rcases hfv with h1|h1
  ·rw[<-h1];exact e
  ·rw[h1] at e;cases e
 refine⟨⟨hc,h.a.kept hk (fun b hb=>(hap.a b hb).1) hNI,h.k.kept hk (fun b hb=>(hap.k b hb).1) hNI,h.h.block (hk.block _ h.h.lt hap.mh.symm),h.ht,h.hc,hd,hf,?_⟩,hk.imp fun b hb e=>hb (e▸MX.mem.2 (.inl rfl)),?_⟩
 ·refine Ap.nd ⟨hap.mh,fun q e=>?_,fun q e=>hap.f q (hfv' q e),hap.a,hap.k,hap.na,hap.nk⟩;rcases hdm q e with h1|⟨h1,h2⟩
  ·exact⟨(hap.d q h1).1,(hap.d q h1).2.1,fun e2=>(hap.d q h1).2.2.1 (hfv' q e2),(hap.d q h1).2.2.2⟩
  ·refine⟨?_,?_,?_,?_,?_⟩
   ·have:=blk_lt h.ck;omega
   ·have:=h.h.lt;intro e2;have e3:q=X.hm:=e2;omega
   ·show fv.ownBlock≠some q;rw[h2];simp[Value.ownBlock]
   ·intro e2;have:=h.a.lt q e2;omega
   ·intro e2;have:=h.k.lt q e2;omega
 ·intro b hb;rw[MX.mem] at hb ⊢;rcases hb with h1|h1|h1|h1|h1
  ·exact .inl (.inl h1)
  ·exact .inl (.inr (.inl h1))
  ·rcases hdm b h1 with h2|⟨h2,_⟩
   ·exact .inl (.inr (.inr (.inl h2)))
   ·exact .inr h2
  ·exact .inl (.inr (.inr (.inr (.inl (hfv' b h1)))))
  ·exact .inl (.inr (.inr (.inr (.inr h1))))
theorem table_any (h:MO w base mb M X)(hfv:X.fv = .slice none 0 0) :
  Calls prog 22 #[pt mb] w fun e w'=>∃ dm,e = .returned (.map (some dm))/\MO w' base mb M {X with dm:=some dm}/\Stp w w' (X.fp mb) (MX.fp mb {X with dm:=some dm}):=by
 obtain⟨w1,hw1⟩:∃ z,z=w.alloc (.cells #[pt mb] 28):=⟨_,rfl⟩
 have hb1:Below w.heap.size w w1:=by rw[hw1];exact brf.alloc nlr _
 have p0:w1.cell? ⟨w.heap.size,0,none⟩=some (pt mb):=by rw[hw1];exact cell_alloc1 _ _ _
 have hs1:w1.heap.size=w.heap.size+1:=by rw[hw1];simp
 have h1:=h.below hb1;have hlt:=blk_lt h.ck;have hmf:∀ (fn:Fn) (first cap:Array Value) (w:World),(Instr.makeFunc fn first cap).run prog w = .ok (.func fn first cap) w:=fun _ _ _ _=>rfl;cases hd:X.dm with
 | none =>
  have HD:=hid (do_first mb w.heap.size w1 (mcells X) p0 (by omega) (by omega) h1.ck (by simp[hd]) rfl ⟨_,rfl⟩);have H:=jd6 h h1 hb1 hd hfv hs1;have HW:=hid hw1;clear h h1 hb1 hd hfv hs1;go_enter func22,ntmps22
  go_upto_region 1 with(fail)
  rw[<-hw1];clear hw1;go_upto_region 2 with(go_at_call 34;refine HD.out.mono ?_;rintro e w3 ⟨rfl,g3,k3,q3⟩;have e1:w3.cell? ⟨w.heap.size,0,none⟩=some (pt mb):=(k3.cell (by have:=H.out.2.2.2.2.2;omega) (by omega)).trans p0;have e2:w3.cell? ⟨mb,6,none⟩=some (.map (some w1.heap.size)):=(by simp[World.cell?,q3,onceC]))
  obtain⟨h,h1,hb1,hd,hfv,hs1⟩:=H.out;have hmc:onceC (mcells X) w1.heap.size=mcells {X with dm:=some w1.heap.size,fv:=X.fv,fr:=X.fr}:=by simp[onceC,mcells]
  rw[hmc] at q3;have h9:=h1.set (dm:=some w1.heap.size) (fv:=X.fv) (fr:=X.fr) k3 q3 (fun q e=>by cases e;exact g3) (h1.f.kept k3 fun q e=>((Ap.of h1.nd).f q e).1) (fun q e=>by cases e;exact .inr ⟨nlr,hfv⟩) (.inl rfl);have h10:=(Stp.of_below hb1 (X.fp mb)).trans h9.2;have HZ:=jd2 h9.1 h10;clear h h1 hb1 hd hfv hs1 hmc q3 h9 h10 g3 k3 HD H HW
  go_wp2_with fail
  go_ret
  exact⟨_,rfl,HZ.out.1,HZ.out.2⟩
 | some dm =>
  have c3:w1.cell? ⟨mb,3,none⟩=some (.int .u32 1):=by have:=h1.cells.2.2.2.1;rw[hd] at this;exact this
  have c6:w1.cell? ⟨mb,6,none⟩=some (.map (some dm)):=by have:=h1.cells.2.2.2.2.2.2.1;rw[hd] at this;exact this
  have HD:=hid (fun fv=>do_done mb fv w1 c3);have hX:{X with dm:=some dm}=X:=by cases X;simp at hd;simp[hd]
  have H:=jd3 h1 (Stp.of_below hb1 (X.fp mb)) hX;clear h h1 hb1 hd hfv c3 hX;go_enter func22,ntmps22
  go_upto_region 1 with(fail)
  rw[<-hw1];clear hw1
  go_wp2_with (go_at_call 34;refine(HD.out _).mono ?_;rintro e w3 ⟨rfl,rfl⟩)
  go_ret
  refine⟨dm,rfl,?_⟩;rw[H.out.2.2];exact⟨H.out.1,H.out.2.1⟩
end Go.Proofs.YtgkabcaodnofnaaGreat
