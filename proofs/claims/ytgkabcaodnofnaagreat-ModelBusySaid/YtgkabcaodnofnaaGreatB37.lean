import Derived.Test.YtgkabcaodnofnaaGreatB20
import Derived.Laws.StructEq
import Derived.Laws.Tables
import Derived.Laws.Cover2
import Derived.KernelRfl
set_option linter.unusedSimpArgs false
set_option linter.unusedVariables false
set_option maxRecDepth 100000
set_option maxHeartbeats 2000000
open Go.Proofs.Tryz
namespace Go.Proofs.YtgkabcaodnofnaaGreat
open Go.RowKit Go.Mx Go.Md
theorem eqIn111 (a b:Int)(w:World):(Op.equalIn 10000 111 (.agg #[.int .i64 a,.int .i64 b]) (.agg #[.int .i64 a,.int .i64 b])).run prog w = .ok true w:=by
 have u3:=underlying3;have a3:=Tryz.isAgg3;have z3:=Tryz.sizeOf3;have hS:prog.underlying 111=some (.struct (prog.fieldsOf 111)):=by kernel_rfl
 have hp:prog.stoodInHeld 111=false:=by kernel_rfl
 rw[show(10000:Nat)=9999+1 from rfl,run_equalIn_agg w 9999 111 _ _ hS hp];simp only[Program.fieldsOf,underlying111];go_simp
theorem neq111 (a b:Int)(w:World):(binOp .neq 111 (.agg #[.int .i64 a,.int .i64 b]) (.agg #[.int .i64 a,.int .i64 b])).run prog w = .ok (.bool false) w:=by
 rw[run_neq_struct,eqIn111];rfl
theorem size111' (w:World):(sizeOf 111).run prog w = .ok 2 w:=by kernel_rfl
theorem spans66 {w:World}{B1 B2:Nat}{va vb:Value}{l:List Sp}(ha:SlG w B1 2 va (l.map spC))(hb:SlG w B2 2 vb (l.map spC)) :
  Calls prog 66 #[va,vb] w fun e w'=>e = .returned (.bool true)/\∃ q,w'=w.drewN q:=by
 have hla:=fun w'=>ha.len (P:=prog) (t:=32) (ty:=3) underlying32 w';have hlb:=fun w'=>hb.len (P:=prog) (t:=32) (ty:=3) underlying32 w';have hlm:l.length<=maxLen:=by obtain⟨_,_,rfl,hc,hm,_⟩:=id ha;simp at hc;omega
 have HA:=jd2 ha hb;have mixed:prog.follows Departure.mixedOrders=true:=by kernel_rfl
 obtain⟨n,hn⟩:∃ n,n=l.length:=⟨_,rfl⟩
 rw[List.length_map,<-hn] at hla hlb;rw[<-hn] at hlm;unfold maxLen at hlm;have HN:=hid hn;clear ha hb hn;go_enter func66,ntmps66
 go_wp2_with fail
 go_loopw [5] (fun s5 wr=>∃ k q:Nat,k<=n/\s5 = .int .i64 k/\wr=w.drewN q) (fun s5 _=>n-(intOf s5).toNat)
 case atStart=>exact⟨0,0,Nat.zero_le _,rfl,rfl⟩
 case round =>
  obtain⟨k,q,hk,rfl,rfl⟩:=hrel;by_cases hlt:k<n
  ·obtain⟨ba,oa,_,i1,c1⟩:=HA.out.1.addr (P:=prog) (t:=32) underlying32 size111' k (by rw[List.length_map,<-HN.out];exact hlt);obtain⟨bb,ob,_,i2,c2⟩:=HA.out.2.addr (P:=prog) (t:=32) underlying32 size111' k (by rw[List.length_map,<-HN.out];exact hlt);obtain⟨s,hs⟩:∃ s,(l.map spC).getD k []=spC s:=⟨l[k]'(by rw[<-HN.out];exact hlt),by simp[List.getD_eq_getElem?_getD,List.getElem?_map,List.getElem?_eq_getElem (show k<l.length by rw[<-HN.out];exact hlt)]⟩
   rw[hs] at c1 c2;have d10:=c1 0 _ rfl;have d11:=c1 1 _ rfl;have d20:=c2 0 _ rfl;have d21:=c2 1 _ rfl;clear c1 c2 hs;simp only[Nat.add_zero] at d10 d20;have hq:=fun w'=>neq111 s.1 s.2 w'
   go_wp2_with fail
   go_region_o
   go_wp2
   go_roundw
   case measure=>simp only[intOf];omega
   case rel=>exact⟨k+1,q+1,by omega,by go_num,rfl⟩
  ·have:k=n:=by omega
   subst this
   go_wp2
   go_ret
   exact⟨rfl,q,rfl⟩
theorem slG_addrs {w:World}{s:Nat}{v:Value}{rows:List (List Value)}{t e:TypeId}(h:SlG w w.heap.size s v rows)(ht:prog.underlying t=some (.slice e))(hs:∀ w,(sizeOf e).run prog w = .ok s w)(i:Nat)(hi:i<rows.length) :
  ∃ b o,(∀ w' (k:IntKind),(Instr.indexAt t v (.int k (i:Int))).run prog w' = .ok (.pointer (some ⟨b,o,none⟩)) w')/\∀ w',Below w.heap.size w w'->∀ j u,(rows.getD i [])[j]? = some u->w'.cell? ⟨b,o+j,none⟩=some u:=by
 obtain⟨b,o,hb,h1,h2⟩:=h.addr ht hs i hi;exact⟨b,o,h1,fun w' hB j u hu=>(hB.cell (p:=⟨b,o+j,none⟩) hb).trans (h2 j u hu)⟩
theorem size108' (w:World):(sizeOf 108).run prog w = .ok 3 w:=by kernel_rfl
theorem bel_drewN {B:Nat}{w w':World}(h:Below B w w'):∀ q,Below B w (w'.drewN q)
 | 0=>h
 | q+1=>(bel_drewN h q).drew
theorem maps29 {w:World}{b1 b2:Nat}{va vb:Value}{l:List BM}{p1 p2:List PB}(ha:BMS w b1 va l p1)(hb:BMS w b2 vb l p2) :
  Calls prog 29 #[va,vb] w fun e w'=>e = .returned (.bool true)/\Below w.heap.size w w':=by
 have hla:=fun w'=>ha.len w';have hlb:=fun w'=>hb.len w';obtain⟨n,hn⟩:∃ n,n=l.length:=⟨_,rfl⟩
 have hlm:n<=100:=by rw[hn];exact ha.n
 rw[<-hn] at hla hlb;have HA:=jd2 ha hb;have HN:=hid hn;clear ha hb hn;go_enter func29,ntmps29
 go_wp2_with fail
 go_loopw [5] (fun s5 wr=>∃ k:Nat,k<=n/\s5 = .int .i64 k/\Hid (Below w.heap.size w wr)) (fun s5 _=>n-(intOf s5).toNat)
 case atStart=>exact⟨0,Nat.zero_le _,rfl,hid brf⟩
 case round =>
  obtain⟨k,hk,rfl,hR⟩:=hrel;obtain⟨wO,hwO⟩:∃ x,x=wr:=⟨_,rfl⟩
  subst hwO;by_cases hlt:k<n
  ·have hA:=HA.out.1.below hR.out;have hB:=HA.out.2.below hR.out;obtain⟨p,hp1,hp2⟩:=hA.get (i:=k) (by rw[<-HN.out];exact hlt);obtain⟨q,hq1,hq2⟩:=hB.get (i:=k) (by rw[<-HN.out];exact hlt);have hpq:p.b=q.b:=by rw[hp2] at hq2;exact Option.some.inj hq2
   have hpm:p∈p1:=List.mem_of_getElem? hp1;have hqm:q∈p2:=List.mem_of_getElem? hq1;have hk1:k<(p1.map pbrow).length:=by rw[List.length_map];exact(List.getElem?_eq_some_iff.1 hp1).1
   have hk2:k<(p2.map pbrow).length:=by rw[List.length_map];exact(List.getElem?_eq_some_iff.1 hq1).1
   obtain⟨ba,oa,i1,c1⟩:=slG_addrs hA.o.slG (t:=43) underlying43 size108' k hk1;obtain⟨bb,ob,i2,c2⟩:=slG_addrs hB.o.slG (t:=43) underlying43 size108' k hk2;have e1:(p1.map pbrow).getD k []=pbrow p:=by rw[List.getD_eq_getElem?_getD,List.getElem?_map,hp1];rfl
   have e2:(p2.map pbrow).getD k []=pbrow q:=by rw[List.getD_eq_getElem?_getD,List.getElem?_map,hq1];rfl
   rw[e1] at c1;rw[e2] at c2;have HS:=hid (fun w' (hB':Below wO.heap.size wO w')=>spans66 (w:=w') ((hA.s p hpm).below hB' nlr).slG (by have h9:=((hB.s q hqm).below hB' nlr).slG;rw[<-hpq] at h9;exact h9));obtain⟨pa,pn,pc,hpv⟩:=ownG_sh (hA.s p hpm);obtain⟨qa,qn,qc,hqv⟩:=ownG_sh (hB.s q hqm);rw[hpv,hqv] at HS;have d10:∀ w',Below wO.heap.size wO w'->w'.cell? ⟨ba,oa,none⟩=some (.string ⟨p.b.name.toArray⟩):=fun w' hB=>c1 w' hB 0 _ rfl;have d11:∀ w',Below wO.heap.size wO w'->w'.cell? ⟨ba,oa+1,none⟩=some (.bool p.b.on):=fun w' hB=>c1 w' hB 1 _ rfl;have d12:∀ w',Below wO.heap.size wO w'->w'.cell? ⟨ba,oa+2,none⟩=some (.slice pa pn pc):=fun w' hB=>c1 w' hB 2 _ (by simp[hpv]);have d20:∀ w',Below wO.heap.size wO w'->w'.cell? ⟨bb,ob,none⟩=some (.string ⟨p.b.name.toArray⟩):=fun w' hB=>c2 w' hB 0 _ (by simp[hpq])
   have d21:∀ w',Below wO.heap.size wO w'->w'.cell? ⟨bb,ob+1,none⟩=some (.bool p.b.on):=fun w' hB=>c2 w' hB 1 _ (by simp[hpq]);have d22:∀ w',Below wO.heap.size wO w'->w'.cell? ⟨bb,ob+2,none⟩=some (.slice qa qn qc):=fun w' hB=>c2 w' hB 2 _ (by simp[hqv]);clear hA hB hp1 hp2 hq1 hq2 hpq hpm hqm hk1 hk2 c1 c2 e1 e2 hpv hqv;go_upto_region 6 with(fail)
   go_region_held (fun w'=>Below wO.heap.size wO w') (first|with_reducible exact brf.drew|with_reducible assumption|with_reducible exact Below.drew (by assumption)) (first
    | (go_at_call 66;refine(HS.out _ (by assumption)).mono ?_;rintro e w5 ⟨rfl,q5,hq5⟩;have hb5:Below wO.heap.size wO w5:=(by rw[hq5];exact bel_drewN (by assumption) q5);clear hq5))
   go_wp2_with fail
   go_roundw
   case measure=>simp only[intOf];omega
   case rel=>exact⟨k+1,by omega,by go_num,hid (hR.out.trans (hb5.mono hR.out.size))⟩
  ·have:k=n:=by omega
   subst this
   go_wp2
   go_ret
   exact⟨rfl,hR.out⟩
theorem ownG_bytes {w:World}{base:Nat}{v:Value}{bs:Bs}(h:OwnG w base 5 1 v (bs.map fun x=>[u8 x])):OwnB w base 5 v bs:=by
 have e:∀ l:Bs,(l.map fun x=>[u8 x]).flatten=l.map u8:=by
  intro l
  induction l with
  | nil=>rfl
  | cons a r ih=>rw[List.map_cons,List.flatten_cons,ih];rfl
 have h1:=h.1;rw[e,List.length_map] at h1;exact h1
theorem clone103 {w:World}{B:Nat}{v:Value}{bs:Bs}(hs:SlB w B v bs)(hB:B<=w.heap.size)(hl:bs.length<=100000000000):Calls prog 103 #[v] w fun e w'=>∃ v',e = .returned v'/\OwnB w' w.heap.size 5 v' bs/\Below w.heap.size w w':=by
 have h:=slB_G hs;obtain⟨rows,hrw⟩:∃ rows,rows=bs.map fun x=>[u8 x]:=⟨_,rfl⟩
 rw[<-hrw] at h;have hr:∀ r∈rows,r.length=1:=fun r hr=>by rw[hrw] at hr;obtain⟨x,_,rfl⟩:=List.mem_map.1 hr;rfl
 have hone:∀ r∈rows,∀ u∈r,u.oneCell'=true:=fun r hr u hu=>by
  rw[hrw] at hr;obtain⟨x,_,rfl⟩:=List.mem_map.1 hr;simp only[List.mem_singleton] at hu;subst hu;rfl
 have hl:rows.length<=100000000000:=by rw[hrw,List.length_map];exact hl
 have HRW:=hid hrw;clear hrw hs;obtain⟨oa,cap,rfl,h1,h2,h3⟩:=id h;cases oa with
 | none =>
  have hb:rows=[]:=by
   cases rows with
   | nil=>rfl
   | cons y r=>obtain⟨_,_,hh,_⟩:=h3 (by simp);cases hh
  subst hb;have hbs:bs=[]:=by have:=congrArg List.length HRW.out;simp at this;exact List.length_eq_zero_iff.1 this.symm
  subst hbs;have hq:∀ w',(binOp .eql 23 (.slice none 0 cap) (.slice none 0 0)).run prog w' = .ok (.bool true) w':=fun w'=>run_eql_nil_slice w' 23 5 none 0 cap 0 0 underlying23;clear h h1 h2 h3;go_enter func103,ntmps103
  go_wp2
  go_ret
  exact⟨_,rfl,OwnB.nil _ _ _,brf⟩
 | some ad =>
  obtain⟨N,hN⟩:∃ N,N=rows.length:=⟨_,rfl⟩
  rw[<-hN] at h;have hq:∀ w',(binOp .eql 23 (.slice (some ad) N cap) (.slice none 0 0)).run prog w' = .ok (.bool false) w':=fun w'=>Lib.run_eql_slice_nil w' 23 5 _ _ _ _ _ underlying23;have HH:=hid h;have HN:=hid hN;rw[<-hN];clear h h1 h2 h3 hN;go_enter func103,ntmps103
  go_wp2_with (at_builtin;refine append_sg _ rfl _ _ 23 5 _ 1 1 rfl underlying23 info5 rfl (by decide) w.heap.size _ [] rfl (OwnG.empty w 5 1) B _ rows rfl (HH.out.below (brf.alloc nlr _) hB) hr hone ?_ ?_ ?_ ?_)
  ·simp;omega
  ·simp;omega
  ·first|exact Nat.le_refl _|(simp;try omega)
  intro v' w' ho' hg' hb';have hb:=((Below.refl w.heap.size w).alloc nlr (.cells #[] 5)).trans hb';have ho':OwnG w' w.heap.size 5 1 v' rows:=ho';rw[HRW.out] at ho';have hoB:=ownG_bytes ho';clear hg' hb' ho'
  go_wp2
  go_ret
  exact⟨_,rfl,hoB,hb⟩
end Go.Proofs.YtgkabcaodnofnaaGreat
