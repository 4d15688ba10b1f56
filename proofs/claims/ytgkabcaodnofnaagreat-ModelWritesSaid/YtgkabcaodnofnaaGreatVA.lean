import Derived.Test.YtgkabcaodnofnaaGreatB43
import Derived.Test.YtgkabcaodnofnaaGreatB45
set_option linter.unusedSimpArgs false
set_option linter.unusedVariables false
open Go.Proofs.Tryz
namespace Go.Md
open Go.Proofs.YtgkabcaodnofnaaGreat
def secL (L:Bs)(j:Nat):Bs:=(L.drop (16*j)).take 16
theorem secs_secL:∀ (n:Nat)(L:Bs),L.length=16*n->secs (secL L) 0 n=L:=by
 have key:∀ (n a:Nat) (L:Bs),L.length=16*(a+n)->secs (secL L) a n=L.drop (16*a):=by
  intro n
  induction n with
  | zero=>intro a L h;rw[List.drop_of_length_le (by omega)];rfl
  | succ n ih =>
   intro a L h;simp only[secs];rw[ih (a+1) L (by omega)];unfold secL;rw[show 16*(a+1)=16*a+16 by omega,<-List.drop_drop,List.take_append_drop]
 intro n L h;have:=key n 0 L (by omega);simpa using this
theorem secs_mid {f:Nat->Bs}(hf:∀ s,(f s).length=16){a n z:Nat}(h:a+n<=z):((secs f 0 z).drop (16*a)).take (16*n)=secs f a n:=by
 obtain⟨r,rfl⟩:∃ r,z=a+(n+r):=⟨z-a-n,by omega⟩
 rw[secs_add f a 0 (n+r),List.drop_left' (secs_len hf a 0),Nat.zero_add,secs_add f n a r,List.take_left' (secs_len hf n a)]
theorem secL_secs {f:Nat->Bs}(hf:∀ s,(f s).length=16){a n j:Nat}(h:j<n):secL (secs f a n) j=f (a+j):=by
 obtain⟨r,rfl⟩:∃ r,n=j+(1+r):=⟨n-j-1,by omega⟩
 unfold secL;rw[secs_add f j a (1+r),List.drop_left' (secs_len hf j a),secs_add f 1 (a+j) r,List.take_left' (secs_len hf 1 (a+j))];simp[secs]
theorem secL_splice {L b:Bs}{p k j:Nat}(hb:b.length=16*k)(hL:16*(p+k)<=L.length):secL (splice L (16*p) b) j=if p<=j/\j<p+k then secL b (j-p) else secL L j:=by
 unfold secL splice;rw[hb];have h1:(L.take (16*p)).length=16*p:=by rw[List.length_take];omega
 by_cases h2:j<p
 ·rw[if_neg (by omega),List.drop_append_of_le_length (by omega),List.take_append_of_le_length (by rw[List.length_drop];omega),List.drop_take,List.take_take,Nat.min_eq_left (by omega)]
 ·by_cases h3:j<p+k
  ·rw[if_pos ⟨by omega,h3⟩,List.drop_append,List.drop_of_length_le (by omega),List.nil_append,h1,show 16*j-16*p=16*(j-p) by omega,List.drop_append_of_le_length (by omega),List.take_append_of_le_length (by rw[List.length_drop];omega)]
  ·rw[if_neg (by omega),List.drop_append,List.drop_of_length_le (by omega),List.nil_append,h1,List.drop_append,List.drop_of_length_le (by omega),List.nil_append,hb,List.drop_drop,show 16*p+16*k+(16*j-16*p-16*k)=16*j by omega]
theorem splice_len {L b:Bs}{o:Nat}(h:o+b.length<=L.length):(splice L o b).length=L.length:=by
 unfold splice;simp only[List.length_append,List.length_take,List.length_drop];omega
theorem wrI_sec (S:IL)(d:Nat)(hS:∀ n i,fnd S n=some i->∃ nc,OwnOk i.cl nc i.own):∀ (f a stop:Nat) (b:Bs) (i:IM),stop-a<=f->b.length=16*(stop-a)->i.cl<=6->i.size%2^i.cl=0->stop<=i.size->
  OwnOk i.cl (i.size/2^i.cl) i.own->∀ s,s<i.size->
  secIn S d (wrI S d (pieces (2^i.cl) f a stop) b i) i.size (wrI S d (pieces (2^i.cl) f a stop) b i).own s=if a<=s/\s<stop then secL b (s-a) else secIn S d i i.size i.own s
 | 0,a,stop,b,i,h1,h2,h3,h4,h5,h6,s,hs=>by
  simp only[pieces,wrI];rw[if_neg (by omega)]
 | f+1,a,stop,b,i,h1,h2,h3,h4,h5,h6,s,hs=>by
  simp only[pieces];by_cases hlt:a<stop
  ·rw[if_pos hlt];simp only[wrI];obtain⟨W,hW⟩:∃ W,W=2^i.cl:=⟨_,rfl⟩
   have hW0:0<W:=by rw[hW];exact Nat.two_pow_pos _
   have hmod:a%W<W:=Nat.mod_lt _ hW0;obtain⟨k,hk⟩:∃ k,k=min (W-a%W) (stop-a):=⟨_,rfl⟩
   rw[<-hW,<-hk];have hdm:=Nat.div_add_mod a W;have hmz:W*(i.size/W)=i.size:=by have:=Nat.div_add_mod i.size W;rw[<-hW] at h4;omega
   have hkc:a/W<i.size/W:=by
    rcases Nat.lt_or_ge (a/W) (i.size/W) with h|h
    ·exact h
    ·have:=Nat.mul_le_mul_left W h;omega
   have hF:∀ s,(secIn S d i i.size i.own s).length=16:=fun s=>secIn_len hS d i i.size i.own ⟨_,h6⟩ s;obtain⟨L,hL⟩:∃ L,L=secs (secIn S d i i.size i.own) (a/W*W) W:=⟨_,rfl⟩
   have hLl:L.length=16*W:=by rw[hL];exact secs_len hF _ _
   have hbt:(b.take (k*16)).length=16*k:=by rw[List.length_take];omega
   obtain⟨x,hx⟩:∃ x,x=splice L (a%W*16) (b.take (k*16)):=⟨_,rfl⟩
   rw[<-hL,<-hx];have hxl:x.length=16*W:=by rw[hx,splice_len (by omega),hLl]
   obtain⟨i1,hi1⟩:∃ i1,i1=putI i (a/W) x:=⟨_,rfl⟩
   rw[<-hi1];have e1:i1.cl=i.cl:=by rw[hi1];rfl
   have e2:i1.size=i.size:=by rw[hi1];rfl
   have e3:i1.back=i.back:=by rw[hi1];rfl
   have e4:∀ j,i1.own j=if j=a/W then some x else i.own j:=by rw[hi1];exact fun _=>rfl
   have ho1:OwnOk i1.cl (i1.size/2^i1.cl) i1.own:=by
    intro j bs hj;rw[e4] at hj;rw[e1,e2];split at hj
    ·rename_i e;cases hj;rw[<-hW];exact⟨by rw[e];exact hkc,hxl⟩
    ·exact h6 j bs hj
   have ih:=wrI_sec S d hS f (a+k) stop (b.drop (k*16)) i1 (by omega) (by rw[List.length_drop];omega) (by omega) (by rw[e1,e2];exact h4) (by omega) ho1 s (by omega);rw[e1,e2,<-hW] at ih;rw[ih];have hone:secIn S d i1 i.size i1.own s=if a<=s/\s<a+k then secL b (s-a) else secIn S d i i.size i.own s:=by
    unfold secIn;rw[if_pos hs,if_pos hs,e1,e3,e4,<-hW];have hds:=Nat.div_add_mod s W;have hms:s%W<W:=Nat.mod_lt _ hW0;by_cases hc:s/W=a/W
    ·rw[if_pos hc];simp only;have hdd:W*(s/W)=W*(a/W):=by rw[hc]
     rw[show(x.drop (s%W*16)).take 16=secL x (s%W) by unfold secL;rw[Nat.mul_comm],hx,Nat.mul_comm (a%W),secL_splice hbt (by omega)];have hLs:secL L (s%W)=secIn S d i i.size i.own s:=by
      rw[hL,secL_secs hF hms];congr 1;rw[Nat.mul_comm,<-hdd];exact hds
     by_cases hr:a<=s/\s<a+k
     ·rw[if_pos hr,if_pos (by omega),show s%W-a%W=s-a by omega];unfold secL;rw[List.drop_take,List.take_take,Nat.min_eq_left (by omega)]
     ·rw[if_neg hr,if_neg (by omega),hLs];unfold secIn;rw[if_pos hs,<-hW]
    ·rw[if_neg hc];have hdW:=Nat.mul_comm W (s/W);rw[if_neg];rintro⟨q1,q2⟩;apply hc;have g1:s<W*(a/W)+W:=by omega
     have g2:W*(a/W)<=s:=by omega
     exact Nat.div_eq_of_lt_le (by rw[Nat.mul_comm];exact g2) (by rw[Nat.succ_mul,Nat.mul_comm];exact g1)
   rw[hone];by_cases hr:a+k<=s/\s<stop
   ·rw[if_pos hr,if_pos (by omega)];unfold secL;rw[List.drop_drop,show k*16+16*(s-(a+k))=16*(s-a) by omega]
   ·rw[if_neg hr];by_cases hr2:a<=s/\s<a+k
    ·rw[if_pos hr2,if_pos (by omega)]
    ·rw[if_neg hr2,if_neg (by omega)]
  ·rw[if_neg hlt];simp only[wrI];rw[if_neg (by omega)]
theorem writeI_data {S:IL}(hS:∀ n i,fnd S n=some i->IOk i){n:Bs}{i:IM}(hf:fnd S n=some i)(hd:dep S 8 n){a:Nat}{b:Bs}(hb:b.length%16=0)(hl:a+b.length/16<=i.size) :
  secs (secIn (setI S n (writeI S 8 i a b)) 8 (writeI S 8 i a b) (writeI S 8 i a b).size (writeI S 8 i a b).own) 0 (writeI S 8 i a b).size=splice (secs (secIn S 8 i i.size i.own) 0 i.size) (16*a) b:=by
 have e:=writeI_same S 8 i a b;have hS':∀ n i,fnd S n=some i->∃ nc,OwnOk i.cl nc i.own:=fun n i h=>⟨_,(hS n i h).own⟩
 have hok:=hS n i hf;have hF:∀ s,(secIn S 8 i i.size i.own s).length=16:=fun s=>secIn_len hS' 8 i i.size i.own ⟨_,hok.own⟩ s;have hw:=wrI_sec S 8 hS' (a+b.length/16-a) a (a+b.length/16) b i (Nat.le_refl _) (by omega) hok.cl hok.whole hl hok.own;have hwi:wrI S 8 (pieces (2^i.cl) (a+b.length/16-a) a (a+b.length/16)) b i=writeI S 8 i a b:=rfl;rw[hwi] at hw;obtain⟨j,hj⟩:∃ j,j=writeI S 8 i a b:=⟨_,rfl⟩
 rw[<-hj] at hw e ⊢;rw[secIn_congr (S:=S) (d:=8) (i:=i) (i':=j) e.1 (fun s=>by rw[e.2.2.1];exact secOf_back (fun m hm=>by rw[fnd_setI,if_neg hm]) hf hd s) j.size j.own,e.2.1];have hw':∀ s,s<i.size->secIn S 8 i i.size j.own s=if a<=s/\s<a+b.length/16 then secL b (s-a) else secIn S 8 i i.size i.own s:=fun s hs=>by
  rw[<-hw s hs,secIn_congr (S:=S) (S':=S) (d:=8) (i:=i) (i':=j) e.1 (fun s=>by rw[e.2.2.1]) i.size j.own]
 have hL:=secs_len hF i.size 0;have hR:(splice (secs (secIn S 8 i i.size i.own) 0 i.size) (16*a) b).length=16*i.size:=by rw[splice_len (by omega),hL]
 rw[<-secs_secL _ _ hR];refine secs_congr _ _ fun s h1 h2=>?_;rw[hw' s (by omega),secL_splice (k:=b.length/16) (by omega) (by omega),secL_secs hF (by omega),Nat.zero_add]
theorem secOf_free {S S':IL}{n:Bs}(h:∀ m,m≠n->fnd S' m=fnd S m)(hfree:∀ m i,fnd S m=some i->i.back≠n):∀ (d:Nat) (m:Bs) (s:Nat),m≠n->secOf S' d m s=secOf S d m s
 | 0,_,_,_=>rfl
 | d+1,m,s,hm=>by
  unfold secOf;rw[h m hm];cases hf:fnd S m with
  | none=>rfl
  | some i=>simp only;rw[secOf_free h hfree d i.back s (hfree m i hf)]
theorem viewN_free {S S':IL}{n:Bs}(h:∀ m,m≠n->fnd S' m=fnd S m)(hfree:∀ m i,fnd S m=some i->i.back≠n){m:Bs}(hm:m≠n):viewN S' m=viewN S m:=by
 unfold viewN;rw[h m hm];cases hf:fnd S m with
 | none=>rfl
 | some i =>
  have key:∀ size own,secIn S' 8 i size own=secIn S 8 i size own:=fun size own=>by
   funext s;unfold secIn;rw[secOf_free h hfree 8 i.back s (hfree m i hf)]
  simp only[viewI];rw[key]
  congr 1
  apply List.map_congr_left;intro s _;rw[key]
theorem namesM_setI {S:IL}{n:Bs}{i i':IM}(hf:fnd S n=some i):namesM (setI S n i')=namesM S:=by
 unfold namesM;rw[setI_names,hf];rfl
theorem viewN_name (S:IL)(n:Bs):(viewN S n).name=n:=by unfold viewN;split<;>rfl
theorem viewN_data {S:IL}{n:Bs}{i:IM}(hf:fnd S n=some i):(viewN S n).data=secs (secIn S 8 i i.size i.own) 0 i.size:=by unfold viewN;rw[hf];rfl
theorem view_len {S:IL}(hS:∀ n i,fnd S n=some i->IOk i){n:Bs}{i:IM}(hf:fnd S n=some i):(viewN S n).data.length=16*i.size:=by
 rw[viewN_data hf,secs_len (secIn_len (fun n i h=>⟨_,(hS n i h).own⟩) 8 i i.size i.own ⟨_,(hS n i hf).own⟩)]
theorem doM_read {M:MM}{n:Bs}{i:IM}(hf:fnd M.all n=some i)(a k:Int):doM M ⟨3,n,[],a,k,0,[]⟩=if withinI i.size a k=true then(M,{data:=secs (secIn M.all 8 i i.size i.own) a.toNat k.toNat},0) else(M,failR 6,0):=by
 unfold doM;rw[if_neg (by simp),if_neg (by rintro⟨_,_,h3⟩;simp only at h3;rw[h3] at hf;cases hf)];show doK readF M _=_;rw[doK_plain (by rfl)];unfold readF;simp only[hf]
theorem read_data {S:IL}(hS:∀ n i,fnd S n=some i->IOk i){n:Bs}{i:IM}(hf:fnd S n=some i){a k:Nat}(h:a+k<=i.size):secs (secIn S 8 i i.size i.own) a k=((viewN S n).data.drop (16*a)).take (16*k):=by
 rw[viewN_data hf,secs_mid (secIn_len (fun n i h=>⟨_,(hS n i h).own⟩) 8 i i.size i.own ⟨_,(hS n i hf).own⟩) h]
theorem doM_write {M:MM}{n:Bs}{i:IM}(hf:fnd M.all n=some i){a:Nat}{b:Bs}(hb:b.length%16=0)(hl:a+b.length/16<=i.size) :
  doM M ⟨4,n,[],a,0,0,b⟩=if aboveN M.all n≠0 then(M,failR 14,0) else({M with all:=setI M.all n (writeI M.all 8 i a b),ch:=fun m=>if m=n then true else M.ch m},{},0):=by
 unfold doM;rw[if_neg (by simp),if_neg (by rintro⟨_,_,h3⟩;simp only at h3;rw[h3] at hf;cases hf)];show doK writeF M _=_;have hw:writeF M ⟨4,n,[],a,0,0,b⟩=if aboveN M.all n≠0 then(M,failR 14,0) else({M with all:=setI M.all n (writeI M.all 8 i a b)},{},0):=by
  unfold writeF;simp only[hf];by_cases ha:aboveN M.all n≠0
  ·rw[if_pos ha,if_pos ha]
  ·rw[if_neg ha,if_neg ha,if_neg (by omega),if_pos (by unfold withinI;simp;omega)];simp only[Int.toNat_natCast]
 unfold doK;rw[hw];by_cases ha:aboveN M.all n≠0
 ·rw[if_pos ha,if_pos ha];rfl
 ·rw[if_neg ha,if_neg ha];rfl
def wantN (k:Int):Int:=if k=26 then 0 else if k<1\/26<k\/k=1 then 1 else 4
def repN (M:MM)(k:Int):Rp:=if k=26 then{names:=namesM M.all} else failR (wantN k)
theorem repN_code (M:MM)(k:Int):(repN M k).code=wantN k:=by
 unfold repN;split
 ·rename_i h;subst h;rfl
 ·rfl
theorem doM_noname {M:MM}{n:Bs}(hf:fnd M.all n=none)(k:Int):doM M ⟨k,n,[],0,9,1,[]⟩=(M,repN M k,0):=by
 unfold doM repN wantN;by_cases h1:k<1\/26<k
 ·rw[if_pos h1,if_neg (by omega),if_neg (by omega),if_pos (by omega)]
 ·rw[if_neg h1];by_cases h2:k=1
  ·subst h2;rw[if_neg (by simp),if_neg (by omega),if_neg (by omega),if_pos (by omega)];show doK createF M _=_;unfold doK createF;simp only;rw[if_pos (Or.inr (Or.inr (by decide)))];simp
  ·by_cases h3:k=26
   ·subst h3;rw[if_neg (by simp),if_pos rfl];show doK listF M _=_;rw[doK_plain (by rfl)];rfl
   ·rw[if_pos ⟨h2,h3,hf⟩,if_neg h3,if_neg h3,if_neg (by omega)]
theorem doM_list (M:MM):doM M ⟨26,[],[],0,0,0,[]⟩=(M,{names:=namesM M.all},0):=by
 unfold doM;rw[if_neg (by simp),if_neg (by simp)];show doK listF M _=_;rw[doK_plain (by rfl)];rfl
theorem fnd_names {S:IL}{n:Bs}(h:n∉namesM S):fnd S n=none:=by
 cases hf:fnd S n with
 | none=>rfl
 | some i=>exact absurd ((List.mergeSort_perm _ _).mem_iff.2 (fnd_isSome_mem.1 (by rw[hf];rfl))) h
theorem write_law {M:MM}(hS:∀ n i,fnd M.all n=some i->IOk i)(hnd:(M.all.map (·.1)).Nodup)(hdp:∀ m,dep M.all 8 m){n:Bs}{i:IM}(hf:fnd M.all n=some i){k:Nat}(hk:(namesM M.all)[k]? = some n){a:Nat}{b:Bs}(hb:b.length%16=0)(hl:a+b.length/16<=i.size) :
  ∃ M' cd,doM M ⟨4,n,[],a,0,0,b⟩=(M',failR cd,0)/\namesM M'.all=namesM M.all/\(∀ j:Nat,j≠k->(viewsM M'.all)[j]? = (viewsM M.all)[j]?)/\
   ((cd=14/\M'=M)\/(cd=0/\(viewN M'.all n).data=splice (viewN M.all n).data (16*a) b)):=by
 rw[doM_write hf hb hl];by_cases ha:aboveN M.all n≠0
 ·rw[if_pos ha];exact⟨M,14,rfl,rfl,fun _ _=>rfl,.inl ⟨rfl,rfl⟩⟩
 ·rw[if_neg ha];have hn:=namesM_setI (i':=writeI M.all 8 i a b) hf;refine⟨_,0,rfl,hn,fun j hj=>?_,.inr ⟨rfl,?_⟩⟩
  ·unfold viewsM;simp only;rw[hn,List.getElem?_map,List.getElem?_map];cases hj':(namesM M.all)[j]? with
   | none=>rfl
   | some m =>
    have hmn:m≠n:=by
     rintro rfl;have hnd':(namesM M.all).Nodup:=(List.mergeSort_perm _ _).nodup_iff.2 hnd;obtain⟨h1,e1⟩:=List.getElem?_eq_some_iff.1 hj';obtain⟨h2,e2⟩:=List.getElem?_eq_some_iff.1 hk;exact hj (Decidable.byContradiction fun hne=>by
      rcases Nat.lt_or_gt_of_ne hne with h|h
      ·exact List.pairwise_iff_getElem.1 hnd' j k h1 h2 h (e1.trans e2.symm)
      ·exact List.pairwise_iff_getElem.1 hnd' k j h2 h1 h (e2.trans e1.symm))
    show some (viewN _ m)=some (viewN _ m)
    congr 1
    exact viewN_free (fun t ht=>by rw[fnd_setI,if_neg ht]) (fun t q hq=>above_none (by omega) hq) hmn
  ·have hf':fnd (setI M.all n (writeI M.all 8 i a b)) n=some (writeI M.all 8 i a b):=by rw[fnd_setI,if_pos rfl]
   simp only;rw[viewN_data hf',viewN_data hf];exact writeI_data hS hf (hdp n) hb hl
theorem splice_succ {L b:Bs}{o i:Nat}{c:UInt8}(hi:b[i]? = some c)(h:o+b.length<=L.length):(splice L o (b.take i)).set (o+i) c=splice L o (b.take (i+1)):=by
 obtain⟨hib,rfl⟩:=List.getElem?_eq_some_iff.1 hi;unfold splice;have h1:(L.take o).length=o:=by rw[List.length_take];omega
 have h2:(b.take i).length=i:=by rw[List.length_take];omega
 have h3:(b.take (i+1)).length=i+1:=by rw[List.length_take];omega
 rw[List.set_append_right _ _ (by omega),h1,h2,h3,show o+i-o=i by omega,List.set_append_right _ _ (by omega),h2,Nat.sub_self,List.take_add_one,hi]
 congr 1
 have h4:L.drop (o+i)=L[o+i] :: L.drop (o+i+1):=List.drop_eq_getElem_cons (by omega);rw[h4,List.set_cons_zero,<-Nat.add_assoc];rw[List.append_assoc];rfl
end Go.Md
namespace Go.Proofs.YtgkabcaodnofnaaGreat
open Go.RowKit Go.Mx Go.Md
variable {w0 w w':World}{base mb:Nat}{M:MM}{X:MX}
theorem Stt.oks (h:Stt w0 w base mb M X):∀ n i,fnd M.all n=some i->IOk i:=h.mo.a.oks
theorem VS.len {lo bs:Nat}{v:Value}{vs:List VW}(h:VS w lo bs v vs):∃ va vc,v = .slice va vs.length vc:=by
 obtain⟨gs,rfl,ho,_⟩:=h;rw[List.length_map];rcases ho.shape with⟨h2,h3⟩|⟨q,cc,h2,_⟩
 ·have h3:gs=[]:=by simpa using h3
  subst h3;exact⟨_,_,h2⟩
 ·rw[List.length_map] at h2;exact⟨_,_,h2⟩
theorem VS.row {lo bs:Nat}{v:Value}{vs:List VW}(h:VS w lo bs v vs)(i:Nat)(hi:i<vs.length) :
  ∃ b o dv sv mv,(∀ w' (k:IntKind),(Instr.indexAt 38 v (.int k (i:Int))).run prog w' = .ok (.pointer (some ⟨b,o,none⟩)) w')/\OwnB w lo 5 dv vs[i].data/\
   ∀ w',Below w.heap.size w w'->∀ j u,([str vs[i].name,.int .i64 vs[i].cl,str vs[i].back,dv,sv,mv]:List Value)[j]? = some u->w'.cell? ⟨b,o+j,none⟩=some u:=by
 obtain⟨gs,rfl,ho,hin⟩:=h;have hi':i<gs.length:=by simpa using hi
 obtain⟨b,o,h1,h2⟩:=slG_addrs ho.slG (t:=38) underlying38 size45 i (by rw[List.length_map];exact hi');rw[show(gs.map vrow).getD i []=vrow gs[i] by rw[List.getD_eq_getElem?_getD,List.getElem?_map,List.getElem?_eq_getElem hi'];rfl] at h2;have e:(gs.map (·.v))[i]=gs[i].v:=List.getElem_map ..;exact⟨b,o,gs[i].dv,gs[i].sv,gs[i].mv,h1,by rw[e];exact(hin _ (List.getElem_mem hi')).d,fun w' hB j u hu=>h2 w' hB j u (by rw[e] at hu;exact hu)⟩
theorem ownB_k {lo n:Nat}{e:TypeId}{v:Value}{l:Bs}(h:OwnB w lo e v l)(hn:l.length=n):∃ a c,v = .slice a n c:=by
 subst hn;rcases h.shape with⟨rfl,rfl⟩|⟨g,c,rfl,_⟩<;>exact⟨_,_,rfl⟩
theorem ownG_k {lo s n:Nat}{e:TypeId}{v:Value}{l:List (List Value)}(h:OwnG w lo e s v l)(hn:l.length=n):∃ a c,v = .slice a n c:=by
 subst hn;rcases h.shape with⟨rfl,h2⟩|⟨g,c,rfl,_⟩
 ·rw[h2];exact⟨_,_,rfl⟩
 ·exact⟨_,_,rfl⟩
theorem frl0 {frl:List Value}{k:Nat}(h:frl.length=k):(frl.map fun v=>[v]).length=k:=by rw[List.length_map];exact h
theorem views_at {S:IL}{k:Nat}(hk:k<(viewsM S).length):∃ n i,(namesM S)[k]? = some n/\fnd S n=some i/\(viewsM S)[k]=viewN S n/\(viewsM S)[k].name=n:=by
 unfold viewsM at hk ⊢;rw[List.length_map] at hk;obtain⟨n,hn⟩:∃ n,(namesM S)[k]? = some n:=⟨_,List.getElem?_eq_getElem hk⟩
 obtain⟨i,hi⟩:=Option.isSome_iff_exists.1 (names_some hn);have e:((namesM S).map (viewN S))[k]'(by rw[List.length_map];exact hk)=viewN S n:=by
  rw[List.getElem_map];congr 1;rw[List.getElem?_eq_getElem hk] at hn;exact Option.some.inj hn
 exact⟨n,i,hn,hi,e,by rw[e];exact viewN_name S n⟩
theorem views_len16 (h:Stt w0 w base mb M X):(viewsM M.all).length<=16:=by
 unfold viewsM namesM sortN;rw[List.length_map,List.length_mergeSort,List.length_map];exact h.ok.le
theorem name100 (h:Stt w0 w base mb M X){n:Bs}{i:IM}(hf:fnd M.all n=some i):n.length<=100:=by
 obtain⟨x,hx,hxn⟩:∃ x∈X.xs,x.n=n:=by
  have h1:n∈M.all.map (·.1):=fnd_isSome_mem.1 (by rw[hf];rfl);have hp:(X.xs.map (·.n)).Perm (M.all.map (·.1)):=by
   have:=h.mo.a.p.map (·.1);rwa[List.map_map] at this
  exact List.mem_map.1 (hp.mem_iff.2 h1)
 rw[<-hxn];exact h.mo.a.nl x hx
theorem VR.part {w:World}{v:Value}{vs:List VW}(h:VR w v vs)(lo hi:Nat)(h1:lo<=hi)(h2:hi<=vs.length) :
  ∃ v',VR w v' ((vs.take hi).drop lo)/\∀ w' (k k':IntKind),(Instr.slice 38 v (some (.int k (lo:Int))) (some (.int k' (hi:Int))) none).run prog w' = .ok v' w':=by
 obtain⟨gs,rfl,hs,hin⟩:=h;rw[List.length_map] at h2;obtain⟨v',k1,k2⟩:=hs.part (P:=prog) (t:=38) underlying38 size45 lo hi h1 (by rw[List.length_map];exact h2);refine⟨v',⟨(gs.take hi).drop lo,by rw[List.map_drop,List.map_take],by rw[List.map_drop,List.map_take];exact k1,fun g hg=>hin g (List.mem_of_mem_take (List.mem_of_mem_drop hg))⟩,k2⟩
theorem one_part {α:Type}{l:List α}{i:Nat}{x:α}(h:l[i]? = some x):(l.take (i+1)).drop i=[x]:=by
 obtain⟨hl,rfl⟩:=List.getElem?_eq_some_iff.1 h;rw[List.take_add_one,h,List.drop_append,List.drop_of_length_le (by rw[List.length_take];omega),List.length_take,Nat.min_eq_left (by omega),Nat.sub_self];rfl
end Go.Proofs.YtgkabcaodnofnaaGreat
