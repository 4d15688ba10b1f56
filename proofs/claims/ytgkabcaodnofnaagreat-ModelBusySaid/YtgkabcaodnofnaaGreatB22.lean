import Derived.Test.YtgkabcaodnofnaaGreatB20
import Derived.Test.YtgkabcaodnofnaaGreatB21
set_option linter.unusedSimpArgs false
set_option linter.unusedVariables false
open Go.Proofs.Tryz
namespace Go.Md
def movB (M:MM)(n tg:Bs):Bs->Option Bs:=fun t=>if t=n then some tg else(fnd M.all t).map (·.back)
def fillI (U1 U2:Nat->Nat->Bs)(i:IM):IM:={i with own:=fillO i.cl U1 U2 i.own (i.size/2^i.cl)}
def fillS (cl:Nat)(U1 U2:Nat->Nat->Bs)(s:SH):SH:={s with own:=fillO cl U1 U2 s.own (s.size/2^cl)}
def fillsI (U1 U2:Nat->Nat->Bs)(i:IM)(k:Nat):IM:={fillI U1 U2 i with shots:=(i.shots.take k).map (fillS i.cl U1 U2)++i.shots.drop k}
def movI (S:IL)(i:IM)(tg:Bs):IM:={fillsI (fun a c=>secs (secOf S 8 i.back) a c) (fun a c=>secs (secOf S 8 tg) a c) i i.shots.length with back:=tg}
def movedM (M:MM)(n tg:Bs):MM×Int×Nat:=match fnd M.all n with
 | none=>(M,4,0)
 | some i=>if tg≠[]/\fnd M.all tg=none then(M,4,0) else if standsM (movB M n tg) n≠0 then(M,standsM (movB M n tg) n,0) else
  if (M.all.any fun p=>decide (standsM (movB M n tg) p.1=10))=true then(M,10,0) else
  let M1:=if tg=[] then M else flushedM M tg
  let k1:=if tg=[] then 0 else flushedN M tg
  (flushM {M1 with all:=setI M1.all n (movI M.all i tg)} n,0,k1+1)
def movF (tt:Cm->Bs)(M:MM)(c:Cm):MM×Rp×Nat:=((movedM M c.name (tt c)).1,failR (movedM M c.name (tt c)).2.1,(movedM M c.name (tt c)).2.2)
theorem setI_setI {S:IL}{n:Bs}(i j:IM)(h:(fnd S n).isSome=true):setI (setI S n i) n j=setI S n j:=by
 have h2:(fnd (setI S n i) n).isSome=true:=by rw[fnd_setI,if_pos rfl];rfl
 unfold setI at h2 ⊢;rw[if_pos h] at h2 ⊢;rw[if_pos h2,if_pos h,List.map_map];apply List.map_congr_left;intro p _;simp only[Function.comp];by_cases e:p.1=n
 ·rw[if_pos e,if_pos rfl,if_pos e]
 ·rw[if_neg e,if_neg e]
theorem setI_self {S:IL}{n:Bs}{i:IM}(hf:fnd S n=some i)(hn:(S.map (·.1)).Nodup):setI S n i=S:=by
 unfold setI;rw[hf];simp only[Option.isSome_some,if_true]
 conv=>rhs;rw[<-List.map_id S]
 apply List.map_congr_left;intro p hp;split
 ·rename_i e;have:=Go.Proofs.YtgkabcaodnofnaaGreat.fnd_of hn (show(p.1,p.2)∈S from hp);rw[e,hf] at this;cases this
  rw[<-e];rfl
 ·rfl
theorem secOf_off {S S':IL}{n:Bs}{B:Bs->Option Bs}(h:∀ m,m≠n->fnd S' m=fnd S m)(hn:n≠[])(h0:fnd S []=none)(hB:∀ m,m≠n->B m=(fnd S m).map (·.back)) :
  ∀ (k:Nat) (seen:List Bs) (a:Bs),stn B k seen a=0->n∈seen->∀ e s,secOf S' e a s=secOf S e a s
 | 0,seen,a,hs,_,_,_=>by cases hs
 | k+1,seen,a,hs,hm,0,s=>rfl
 | k+1,seen,a,hs,hm,e+1,s=>by
  by_cases ha:a=[]
  ·subst ha;simp only[secOf,h [] (Ne.symm hn),h0]
  ·unfold stn at hs;rw[if_neg ha] at hs;by_cases hmem:a∈seen
   ·cases hb:B a with
    | none=>rw[hb] at hs;cases hs
    | some b=>rw[hb] at hs;simp only at hs;rw[if_pos hmem] at hs;cases hs
   ·have hne:a≠n:=fun e2=>hmem (e2▸hm);cases hf:fnd S a with
    | none=>simp only[secOf,h a hne,hf]
    | some i =>
     rw[hB a hne,hf] at hs;simp only[Option.map_some] at hs;rw[if_neg hmem] at hs;split at hs
     ·cases hs
     ·have ih:=secOf_off h hn h0 hB k (a :: seen) i.back hs (List.mem_cons_of_mem _ hm) e s;simp only[secOf,h a hne,hf,ih]
theorem fillsI_zero {U1 U2:Nat->Nat->Bs}{i:IM}:fillsI U1 U2 i 0=fillI U1 U2 i:=by unfold fillsI fillI;simp
theorem fillsI_step {U1 U2:Nat->Nat->Bs}{i:IM}{k:Nat}{s:SH}(hs:i.shots[k]? = some s):{fillsI U1 U2 i k with shots:=(fillsI U1 U2 i k).shots.set k (fillS i.cl U1 U2 s)}=fillsI U1 U2 i (k+1):=by
 have hk:k<i.shots.length:=by rcases Nat.lt_or_ge k i.shots.length with h|h;exact h;rw[List.getElem?_eq_none h] at hs;cases hs
 have e:((i.shots.take k).map (fillS i.cl U1 U2)++i.shots.drop k).set k (fillS i.cl U1 U2 s)=(i.shots.take (k+1)).map (fillS i.cl U1 U2)++i.shots.drop (k+1):=by
  have hl:((i.shots.take k).map (fillS i.cl U1 U2)).length=k:=by simp;omega
  rw[List.set_append_right _ _ (by omega),hl,Nat.sub_self,List.drop_eq_getElem_cons hk,List.set_cons_zero,List.take_add_one,hs];simp
 unfold fillsI fillI at *;simp only[e]
end Go.Md
namespace Go.Proofs.YtgkabcaodnofnaaGreat
open Go.RowKit Go.Mx Go.Md
variable {w w':World}{base ib mb:Nat}{i:IM}{x:IX}{M:MM}{X:MX}
theorem II.own2 (h:II w base ib i x)(hnd:(x.fp ib).Nodup){own:Nat->Option Bs}{l:ML Int}(hO:OM w' base x.om own l)(hk:Kept w w' (·≠x.om)):II w' base ib {i with own:=own} {x with ol:=l}:=by
 have hfn:=IX.fp_ib hnd;obtain⟨es,mc,hm⟩:=h.own.g.isMap;have hni:∀ (b:Nat) (c:Array Value) (t:TypeId) (f:Nat×Nat),w.heap[b]? = some (.cells c t f)->b≠x.om:=fun b c t f hb e=>by rw[e,hm] at hb;cases hb
 exact⟨(hk.block ib (blk_lt h.ck) hfn.1).trans h.ck,hO,h.se,h.so.kept hk fun q hq=>Ne.symm (hfn.2.2 q hq).2.1,fun s hs=>(h.sm s hs).kept hk (Ne.symm (hfn.2.1 s hs).2) fun b c f hb=>hni b c 5 f hb,h.maps.kept hk fun b c t f hb _=>hni b c t f hb⟩
theorem set_mem {α:Type}:∀ (l:List α) (k:Nat) (a y:α),y∈l.set k a->y=a\/∃ j,j≠k/\l[j]? = some y
 | [],_,_,_,h=>by cases h
 | b :: r,0,a,y,h=>by
  rw[List.set_cons_zero] at h;rcases List.mem_cons.1 h with h|h
  ·exact .inl h
  ·obtain⟨j,hj,e⟩:=List.mem_iff_getElem.1 h;exact .inr ⟨j+1,by omega,by rw[List.getElem?_cons_succ,List.getElem?_eq_getElem hj,e]⟩
 | b :: r,k+1,a,y,h=>by
  rw[List.set_cons_succ] at h;rcases List.mem_cons.1 h with h|h
  ·exact .inr ⟨0,by omega,by rw[h];rfl⟩
  ·rcases set_mem r k a y h with h|⟨j,h1,h2⟩
   ·exact .inl h
   ·exact .inr ⟨j+1,by omega,by rw[List.getElem?_cons_succ];exact h2⟩
theorem map_set2 {α β:Type}(f:α->β):∀ (l:List α) (k:Nat) (a:α),(l.set k a).map f=(l.map f).set k (f a)
 | [],_,_=>rfl
 | b :: r,0,a=>rfl
 | b :: r,k+1,a=>by simp[map_set2 f r k a]
theorem set_same {α:Type}:∀ (l:List α) (k:Nat) (a:α),l[k]? = some a->l.set k a=l
 | [],_,_,_=>rfl
 | b :: r,0,a,h=>by simp at h;simp[h]
 | b :: r,k+1,a,h=>by simp at h;simp[set_same r k a h]
theorem nodup_at {α:Type}{l:List α}(h:l.Nodup){j k:Nat}{a:α}(h1:l[j]? = some a)(h2:l[k]? = some a):j=k:=by
 have hj:j<l.length:=by rcases Nat.lt_or_ge j l.length with h|h;exact h;rw[List.getElem?_eq_none h] at h1;cases h1
 exact(List.getElem?_inj hj h).1 (h1.trans h2.symm)
theorem II.shot2 (h:II w base ib i x)(hnd:(x.fp ib).Nodup){k:Nat}{s:SX}(hs:x.ss[k]? = some s){own:Nat->Option Bs}{l:ML Int}(hO:OM w' base s.m own l)(hk:Kept w w' (·≠s.m)) :
  II w' base ib {i with shots:=i.shots.set k {s.s with own:=own}} {x with ss:=x.ss.set k ⟨{s.s with own:=own},s.m,l⟩}:=by
 have hfn:=IX.fp_ib hnd;have hsm:=List.mem_of_getElem? hs;have hms:(x.ss.map (·.m)).Nodup:=by
  have h1:=(List.nodup_cons.1 (List.nodup_cons.1 hnd).2).2;exact(List.nodup_append.1 h1).1
 obtain⟨es,mc,hm⟩:=(h.sm s hsm).g.isMap;have hni:∀ (b:Nat) (c:Array Value) (t:TypeId) (f:Nat×Nat),w.heap[b]? = some (.cells c t f)->b≠s.m:=fun b c t f hb e=>by rw[e,hm] at hb;cases hb
 refine⟨(hk.block ib (blk_lt h.ck) (hfn.2.1 s hsm).1).trans h.ck,h.own.kept hk (hfn.2.1 s hsm).2 fun b c f hb=>hni b c 5 f hb,?_,?_,fun s' hs'=>?_,h.maps.kept hk fun b c t f hb _=>hni b c t f hb⟩
 ·show i.shots.set k _=(x.ss.set k _).map (·.s);rw[map_set2,h.se]
 ·show OwnG w' base 90 3 x.sv ((x.ss.set k _).map sxrow);rw[map_set2,set_same (x.ss.map sxrow) k _ (by rw[List.getElem?_map,hs];rfl)];exact h.so.kept hk fun q hq=>Ne.symm ((hfn.2.2 q hq).2.2 s hsm)
 ·rcases set_mem _ _ _ _ hs' with e|⟨j,hj,e⟩
  ·subst e;exact hO
  ·refine(h.sm s' (List.mem_of_getElem? e)).kept hk (fun e2=>hj ?_) fun b c f hb=>hni b c 5 f hb;exact nodup_at hms (a:=s.m) (by rw[List.getElem?_map,e];exact congrArg some e2) (by rw[List.getElem?_map,hs];rfl)
structure MvQ (w0 w:World)(base mb:Nat)(M:MM)(X:MX)(n:Bs)(ib:Nat)(i:IM)(x:IX):Prop where
 ex:∃ X',MO w base mb {M with all:=setI M.all n i} X'/\(⟨n,i,ib,x⟩:XI)∈X'.xs/\X'.dm=X.dm/\X'.cl=X.cl/\X'.fr=X.fr/\X'.ks=X.ks/\X'.am=X.am/\Stp w0 w (X.fp mb) (X'.fp mb)
variable {w0:World}{n:Bs}
theorem MvQ.ii (h:MvQ w0 w base mb M X n ib i x):II w base ib i x:=by
 obtain⟨X',h1,h2,_⟩:=h.ex;exact h1.a.i _ h2
theorem MvQ.nd (h:MvQ w0 w base mb M X n ib i x):(x.fp ib).Nodup:=by
 obtain⟨X',h1,h2,_⟩:=h.ex;exact II.fp_nodup h1 h2
theorem MvQ.ok (h:MvQ w0 w base mb M X n ib i x):IOk i:=by
 obtain⟨X',h1,h2,_⟩:=h.ex;exact h1.a.ok _ h2
theorem MvQ.step (h:MvQ w0 w base mb M X n ib i x)(hf:(fnd M.all n).isSome=true){i':IM}{x':IX}(hII:II w' base ib i' x')(hfp:x'.fp ib=x.fp ib)(hk:Kept w w' (·∉x.fp ib))(hok:IOk i'):MvQ w0 w' base mb M X n ib i' x':=by
 obtain⟨X',h1,h2,h3,h4,h5,h6,h7,h8⟩:=h.ex;have hnd:=II.fp_nodup h1 h2;have:=h1.img (x:=⟨n,i,ib,x⟩) h2 hk hII hok (fun b hb => .inl (by rw[<-hfp];exact hb)) (by rw[hfp];exact hnd);refine⟨{X' with xs:=repl X'.xs ⟨n,i',ib,x'⟩},?_,repl_mem (x:=⟨n,i,ib,x⟩) h2 i' x',h3,h4,h5,h6,h7,h8.trans this.2⟩;have h9:=this.1;simp only[setI_setI i i' hf] at h9;exact h9
theorem MvQ.start (h:MO w base mb M X){x:XI}(hx:x∈X.xs):MvQ w w base mb M X x.n x.ib x.i x.x:=by
 refine⟨X,?_,hx,rfl,rfl,rfl,rfl,rfl,Stp.refl _ _⟩;rw[setI_self (h.a.find hx) h.a.nd];exact h
theorem MvQ.below (h:MvQ w0 w base mb M X n ib i x)(hb:Below w.heap.size w w'):MvQ w0 w' base mb M X n ib i x:=by
 obtain⟨X',h1,h2,h3,h4,h5,h6,h7,h8⟩:=h.ex;exact⟨X',h1.below hb,h2,h3,h4,h5,h6,h7,h8.trans (Stp.of_below hb _)⟩
theorem MvQ.und (h:MvQ w0 w base mb M X n ib i x){i0:IM}(hf:fnd M.all n=some i0)(hb:i.back=i0.back){t:Bs}(ht:t.length<=100)(hd:dep M.all 8 t)
  (hs:∀ S',(∀ m,m≠n->fnd S' m=fnd M.all m)->∀ s,secOf S' 8 t s=secOf M.all 8 t s):UndC w mb t fun a c=>secs (secOf M.all 8 t) a c:=by
 intro a c ha hc;obtain⟨X',h1,h2,_⟩:=h.ex;have h3:=und_all 8 w base mb X'.am _ X'.xs t a c h1.mod0 h1.a (dep_setI hf hb hd) ht ha hc;rwa[show secOf (setI M.all n i) 8 t=secOf M.all 8 t from funext fun s=>hs _ (fun m hm=>by rw[fnd_setI,if_neg hm]) s] at h3
theorem filled_own {w0 w:World}{base mb:Nat}{M:MM}{X:MX}{n tg:Bs}{ib:Nat}{i:IM}{x:IX}(h:MvQ w0 w base mb M X n ib i x)(hf:fnd M.all n=some i)(hS:∀ n i,fnd M.all n=some i->∃ nc,OwnOk i.cl nc i.own)(hd:∀ t,dep M.all 8 t)(htl:tg.length<=100)
  (hsb:∀ S',(∀ m,m≠n->fnd S' m=fnd M.all m)->∀ s,secOf S' 8 i.back s=secOf M.all 8 i.back s) (hst:∀ S',(∀ m,m≠n->fnd S' m=fnd M.all m)->∀ s,secOf S' 8 tg s=secOf M.all 8 tg s) (hbase:base<=w.heap.size) :
  Calls prog 130 #[pt mb,pt ib,.int .i64 i.size,.map (some x.om),str tg] w fun e w'=>e = .returned (.tuple #[])/\∃ l',MvQ w0 w' base mb M X n ib (fillI (fun a c=>secs (secOf M.all 8 i.back) a c) (fun a c=>secs (secOf M.all 8 tg) a c) i) {x with ol:=l'}/\Kept w w' (·≠x.om):=by
 have hs:(fnd M.all n).isSome=true:=by rw[hf];rfl
 have hok:=h.ok;refine(filled_any (base:=base) (cl:=i.cl) (nk:=i.size/2^i.cl) (back:=i.back) (tg:=tg) (fun w own l=>MvQ w0 w base mb M X n ib {i with own:=own} {x with ol:=l}/\OwnOk i.cl (i.size/2^i.cl) own)
  (fun w own l h=>h.1.ii.own) (fun w own l w' own' l' h hO hk ho=>⟨h.1.step hs (h.1.ii.own2 h.1.nd hO hk) rfl (hk.imp fun b hb e=>hb (by rw[e];simp[IX.fp])) ⟨hok.cl,hok.size,hok.whole,ho,hok.shots,hok.ns,hok.nb⟩,ho⟩) (fun w own l h=>⟨h.1.ii.cells.1,h.1.ii.cells.2.2.1⟩)
  (fun w own l h=>h.1.und hf rfl hok.nb (hd _) hsb) (fun w own l h=>h.1.und hf rfl htl (hd _) hst) (fun a c=>secs_len (fun s=>secOf_len hS 8 _ s) c a) hok.cl hok.size rfl (w:=w) (own:=i.own) (l:=x.ol) ⟨h,hok.own⟩ hok.own hbase).mono ?_
 rintro e w' ⟨rfl,l',h1,h2⟩;exact⟨rfl,l',h1.1,h2⟩
theorem filled_shot {w0 w:World}{base mb:Nat}{M:MM}{X:MX}{n tg:Bs}{ib k:Nat}{i:IM}{x:IX}{s:SX}{U1 U2:Nat->Nat->Bs}(h:MvQ w0 w base mb M X n ib (fillsI U1 U2 i k) x)(hf:fnd M.all n=some i)(hS:∀ n i,fnd M.all n=some i->∃ nc,OwnOk i.cl nc i.own)(hd:∀ t,dep M.all 8 t)(htl:tg.length<=100)
  (hU1:U1=fun a c=>secs (secOf M.all 8 i.back) a c) (hU2:U2=fun a c=>secs (secOf M.all 8 tg) a c) (hx:x.ss[k]? = some s) (hk0:i.shots[k]? = some s.s)
  (hsb:∀ S',(∀ m,m≠n->fnd S' m=fnd M.all m)->∀ s,secOf S' 8 i.back s=secOf M.all 8 i.back s) (hst:∀ S',(∀ m,m≠n->fnd S' m=fnd M.all m)->∀ s,secOf S' 8 tg s=secOf M.all 8 tg s) (hbase:base<=w.heap.size) :
  Calls prog 130 #[pt mb,pt ib,.int .i64 s.s.size,.map (some s.m),str tg] w fun e w'=>e = .returned (.tuple #[])/\∃ x',MvQ w0 w' base mb M X n ib (fillsI U1 U2 i (k+1)) x'/\x'.om=x.om/\x'.sv=x.sv/\x'.ss.map sxrow=x.ss.map sxrow/\(∀ j,j≠k->x'.ss[j]? = x.ss[j]?):=by
 have hs:(fnd M.all n).isSome=true:=by rw[hf];rfl
 have hok:=h.ok;have hsm:s.s∈(fillsI U1 U2 i k).shots:=by rw[h.ii.se];exact List.mem_map.2 ⟨s,List.mem_of_getElem? hx,rfl⟩
 obtain⟨o1,o2,o3⟩:=hok.shots _ hsm;have o3:OwnOk i.cl (s.s.size/2^i.cl) s.s.own:=o3;have o1:s.s.size<=4096:=o1;have hkl:k<x.ss.length:=by rcases Nat.lt_or_ge k x.ss.length with h|h;exact h;rw[List.getElem?_eq_none h] at hx;cases hx
 have hat:∀ (own:Nat->Option Bs) (l:ML Int),(x.ss.set k ⟨{s.s with own:=own},s.m,l⟩)[k]? = some ⟨{s.s with own:=own},s.m,l⟩:=fun own l=>by simp[hkl]
 have e0:({fillsI U1 U2 i k with shots:=(fillsI U1 U2 i k).shots.set k s.s}:IM)=fillsI U1 U2 i k:=by
  rw[set_same _ _ _ (by rw[h.ii.se,List.getElem?_map,hx];rfl)]
 have e1:({x with ss:=x.ss.set k s}:IX)=x:=by rw[set_same _ _ _ hx]
 refine(filled_any (base:=base) (cl:=i.cl) (nk:=s.s.size/2^i.cl) (back:=i.back) (tg:=tg) (U1:=U1) (U2:=U2) (fun w own l=>MvQ w0 w base mb M X n ib {fillsI U1 U2 i k with shots:=(fillsI U1 U2 i k).shots.set k {s.s with own:=own}} {x with ss:=x.ss.set k ⟨{s.s with own:=own},s.m,l⟩}/\OwnOk i.cl (s.s.size/2^i.cl) own)
  (fun w own l h=>h.1.ii.sm _ (List.mem_of_getElem? (hat own l))) (fun w own l w' own' l' h hO hk ho=>⟨?_,ho⟩) (fun w own l h=>⟨h.1.ii.cells.1,h.1.ii.cells.2.2.1⟩)
  (fun w own l h=>?_) (fun w own l h=>?_) (fun a c=>by rw[hU1];exact secs_len (fun s=>secOf_len hS 8 _ s) c a) hok.cl o1 rfl (w:=w) (own:=s.s.own) (l:=s.l) ⟨?_,o3⟩ o3 hbase).mono ?_
 ·have h9:=h.1.ii.shot2 h.1.nd (hat own l) hO hk;have h8:=h.1.step hs h9 (by unfold IX.fp;simp only[map_set2,List.set_set]) (hk.imp fun b hb e=>hb (by rw[e];unfold IX.fp;simp only[List.mem_cons,List.mem_append,List.mem_map];exact .inr (.inr (.inl ⟨_,List.mem_of_getElem? (hat own l),rfl⟩)))) ⟨hok.cl,hok.size,hok.whole,hok.own,fun t ht=>?_,?_,hok.nb⟩
  ·simpa only[List.set_set] using h8
  ·have ht:t∈((fillsI U1 U2 i k).shots.set k {s.s with own:=own}).set k {s.s with own:=own'}:=ht;rw[List.set_set] at ht;rcases set_mem _ _ _ _ ht with e|⟨j,_,e⟩
   ·subst e;exact⟨o1,o2,ho⟩
   ·exact hok.shots t (List.mem_of_getElem? e)
  ·show(((fillsI U1 U2 i k).shots.set k {s.s with own:=own}).set k {s.s with own:=own'}).length<=8;rw[List.set_set,List.length_set];exact hok.ns
 ·rw[hU1];exact h.1.und hf rfl hok.nb (hd _) hsb
 ·rw[hU2];exact h.1.und hf rfl htl (hd _) hst
 ·show MvQ w0 w base mb M X n ib {fillsI U1 U2 i k with shots:=(fillsI U1 U2 i k).shots.set k s.s} {x with ss:=x.ss.set k s};rw[e0,e1];exact h
 ·rintro e w' ⟨rfl,l',h1,h2⟩;refine⟨rfl,{x with ss:=x.ss.set k ⟨fillS i.cl U1 U2 s.s,s.m,l'⟩},?_,rfl,rfl,?_,fun j hj=>?_⟩
  ·have h3:=h1.1;rw[<-fillsI_step hk0];exact h3
  ·show(x.ss.set k _).map sxrow=_;rw[map_set2,set_same (x.ss.map sxrow) k _ (by rw[List.getElem?_map,hx];rfl)]
  ·simp[Ne.symm hj]
variable {w w1 w9:World}{base mb:Nat}{M M':MM}{X X':MX}
theorem mv_fail (h:MO w base mb M X)(hb:Below w.heap.size w w9)(hz:w9.heap[w.heap.size]? = some (.cells zrep 34 (0,0)))(e:Int) :
  ∃ W,W=st6 w9 w.heap.size (.int .i64 e) nilS nilS nilS (.int .i64 0) (.int .i64 0)/\Lies W w.heap.size (.int .i64 e) nilS nilS nilS (.int .i64 0) (.int .i64 0)/\MO W base mb M X/\Stp w W (X.fp mb) (X.fp mb):=by
 have h9:=reply_same (w:=w) h hb hz nlr (RepOK.fail w9 w.heap.size e);exact⟨_,rfl,st6_lies _ _ _ _ _ _ hz rfl,h9.2.1,h9.2.2⟩
theorem mv_ok (h5:MO w9 base mb M' X')(hs:Stp w w9 (X.fp mb) (X'.fp mb))(hz:w9.heap[w.heap.size]? = some (.cells zrep 34 (0,0))) :
  ∃ W,W=st6 w9 w.heap.size (.int .i64 0) nilS nilS nilS (.int .i64 0) (.int .i64 0)/\Lies W w.heap.size (.int .i64 0) nilS nilS nilS (.int .i64 0) (.int .i64 0)/\MO W base mb M' X'/\Stp w W (X.fp mb) (X'.fp mb):=by
 have h9:=reply_ok (w:=w) h5 hs hz nlr fun hm=>h5.not34 _ hm _ _ hz;exact⟨_,rfl,st6_lies _ _ _ _ _ _ hz rfl,h9.2.1,h9.2.2⟩
theorem lookB {am:Nat}{S:IL}{xs:List XI}(hA:AM w base am S xs){l:ML Bs}(hp:l.Perm (xs.map fun x=>(x.n,str x.i.back)))(n:Bs):Mx.look l n=(fnd S n).map fun i=>str i.back:=by
 cases hl:Mx.look l n with
 | some v =>
  obtain⟨z,hz,e⟩:=List.mem_map.1 (hp.mem_iff.1 (look_mem hl));simp only[Prod.mk.injEq] at e;rw[<-e.1,hA.find hz,<-e.2];rfl
 | none =>
  rw[look_none,(hp.map (·.1)).mem_iff,List.map_map] at hl;cases hf:fnd S n with
  | none=>rfl
  | some i=>exact absurd ((hA.names_S n).1 (by rw[hf];rfl)) hl
theorem lookM {am:Nat}{xs:List XI}(hA:AM w base am M.all xs){l:ML Bs}(hp:l.Perm (xs.map fun x=>(x.n,str x.i.back)))(n tg t:Bs):Mx.look (Mx.upd l n (str tg)) t=(movB M n tg t).map fun b=>str b:=by
 rw[look_upd,lookB hA hp];unfold movB;by_cases e:t=n
 ·rw[if_pos e,if_pos e];rfl
 ·rw[if_neg e,if_neg e];cases fnd M.all t<;>rfl
theorem II.set2 {ib:Nat}{i:IM}{x:IX}(h:II w base ib i x)(hnd:(x.fp ib).Nodup)(tg:Bs):II (w.setCell ⟨ib,2,none⟩ (str tg)) base ib {i with back:=tg} x:=by
 have hfn:=IX.fp_ib hnd;have hk:Kept w (w.setCell ⟨ib,2,none⟩ (str tg)) (·≠ib):=Kept.set _ _ _ _ (by simp);refine⟨?_,h.own.kept hk (Ne.symm hfn.1) fun b c f hb=>h.notib b c 5 f hb (by decide),h.se,h.so.kept hk fun q hq=>Ne.symm (hfn.2.2 q hq).1,fun s hs=>(h.sm s hs).kept hk (Ne.symm (hfn.2.1 s hs).1) fun b c f hb=>h.notib b c 5 f hb (by decide),h.maps.kept hk fun b c t f hb ht=>h.notib b c t f hb (by rcases ht with h|h<;>simp[h])⟩
 rw[heap_setCell_at' w ib 2 _ _ 87 _ h.ck];rfl
theorem stn_mov {n tg:Bs}(h:standsM (movB M n tg) n=0)(hn:n≠[]):stn (movB M n tg) 8 [n] tg=0:=by
 unfold standsM at h;rw[show(9:Nat)=8+1 from rfl] at h;unfold stn at h;rw[if_neg hn,show movB M n tg n=some tg by unfold movB;rw[if_pos rfl]] at h;simp only at h;rw[if_neg (by simp),if_neg (by simp)] at h;exact h
theorem flushed_all (M:MM)(n:Bs):(flushedM M n).all=M.all:=by
 unfold flushedM flushM;split
 ·cases fnd M.all n<;>rfl
 ·rfl
end Go.Proofs.YtgkabcaodnofnaaGreat
