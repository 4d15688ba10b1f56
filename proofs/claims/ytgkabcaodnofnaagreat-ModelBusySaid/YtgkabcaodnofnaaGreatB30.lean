import Derived.Test.YtgkabcaodnofnaaGreatB28
import Derived.Test.YtgkabcaodnofnaaGreatB29
import Derived.Test.YtgkabcaodnofnaaGreatRows
import Derived.Test.YtgkabcaodnofnaaGreatB01
import Derived.Defers
import Derived.Laws.Pointers
import Derived.Laws.LoneSync
import Derived.RegionTactic
import Derived.RegionCalls
import Derived.ChangeAlike
set_option linter.unusedSimpArgs false
set_option linter.unusedVariables false
set_option maxRecDepth 100000
set_option maxHeartbeats 1600000
open Go.Proofs.Tryz
namespace Go.Md
open Go.Proofs.YtgkabcaodnofnaaGreat
theorem ok_flush_chg {M:MM}(h:MOk M){n:Bs}{i i':IM}{S:IL}(hf:fnd M.all n=some i)(hb:i'.back=i.back)(hc:Chg M.all n i' S):MOk (flushM {M with all:=S} n):=by
 have h1:=ok_flush (ok_chg h hf hb hc) n;have e:flushM {M with all:=S,ch:=fun m=>if m=n then true else M.ch m} n=flushM {M with all:=S} n:=by
  have hS:fnd S n=some i':=by rw[hc.2,if_pos rfl]
  unfold flushM;simp only[hS]
  congr 1
  funext m;by_cases e:m=n
  ·rw[if_pos e,if_pos e]
  ·rw[if_neg e,if_neg e,if_neg e]
 rw[e] at h1;exact h1
theorem comS_chg (bn:Bs)(cl:Nat)(own:Nat->Option Bs):∀ (zs:List Int) (S:IL) (b:IM),fnd S bn=some b->∃ b',b'.back=b.back/\Chg S bn b' (comS bn cl own zs S)
 | [],S,b,hf=>⟨b,rfl,Chg.same hf⟩
 | z :: r,S,b,hf=>by
  unfold comS;rw[hf];cases ho:own z.toNat with
  | none=>exact comS_chg bn cl own r S b hf
  | some bs =>
   obtain⟨b',h1,h2⟩:=comS_chg bn cl own r (setI S bn (writeI S 8 b (z.toNat*2^cl) bs)) (writeI S 8 b (z.toNat*2^cl) bs) (by rw[fnd_setI,if_pos rfl]);exact⟨b',h1.trans (writeI_same S 8 b _ _).2.2.1,(Chg.set hf _).trans h2⟩
theorem ok_commit {M:MM}(h:MOk M){n:Bs}{i b:IM}(hi:fnd M.all n=some i)(hb:fnd M.all i.back=some b)(hne:i.back≠n):MOk (comM M n i b):=by
 have h1:=ok_flush h n;have hall:(flushM M n).all=M.all:=flushM_all M n;have hb1:fnd (flushM M n).all i.back=some b:=by rw[hall];exact hb
 obtain⟨S1,hS1⟩:∃ S1,S1=if comN i b=b.size then(flushM M n).all else setI (flushM M n).all i.back (resizeI b (comN i b)):=⟨_,rfl⟩
 have hc1:∃ b1,b1.back=b.back/\Chg (flushM M n).all i.back b1 S1:=by
  rw[hS1];split
  ·exact⟨b,rfl,Chg.same hb1⟩
  ·exact⟨resizeI b (comN i b),rfl,Chg.set hb1 _⟩
 obtain⟨b1,hbb,hc1⟩:=hc1;obtain⟨b2,hbb2,hc2⟩:=comS_chg i.back i.cl i.own (keysO (i.size/2^i.cl) i.own) S1 b1 (by rw[hc1.2,if_pos rfl]);have hc:=hc1.trans hc2;have h4:=ok_flush_chg h1 hb1 (hbb2.trans hbb) hc;obtain⟨M4,hM4⟩:∃ M4,M4=flushM {flushM M n with all:=comS i.back i.cl i.own (keysO (i.size/2^i.cl) i.own) S1} i.back:=⟨_,rfl⟩
 rw[<-hM4] at h4;have hi4:fnd M4.all n=some i:=by
  rw[hM4,flushM_all];show fnd (comS _ _ _ _ _) n=some i;rw[hc.2,if_neg (Ne.symm hne),hall];exact hi
 have h5:=ok_flush_chg h4 hi4 (i':={i with own:=fun _=>none}) rfl (Chg.set hi4 _);unfold comM;simp only;rw[<-hS1,<-hM4];exact h5
def Refuse (F:MM->Cm->MM×Rp×Nat):Prop:=∀ M c,(F M c).2.1.code≠0->(F M c).1=M/\(F M c).2.1=failR (F M c).2.1.code/\(F M c).2.2=0
def Quiet (F:MM->Cm->MM×Rp×Nat):Prop:=∀ M c,(F M c).1=M/\(F M c).2.2=0
theorem refuse_turns {F:MM->Cm->MM×Rp×Nat}(h:Turns F)(M:MM)(c:Cm)(hn:HasN M c)(hc:(F M c).2.1.code≠0):(F M c).1=M/\(F M c).2.1=failR (F M c).2.1.code/\(F M c).2.2=0:=by
 obtain⟨i,hi⟩:=Option.isSome_iff_exists.1 hn;rcases h M c i hi with⟨h1,h2,h3,h4⟩|⟨i',S,hb,hcg,h1,h2,h3⟩
 ·exact⟨h1,h2,h4⟩
 ·rw[h2] at hc;exact absurd rfl hc
theorem quiet_check:Quiet checkF:=fun M c=>⟨rfl,rfl⟩
theorem quiet_list:Quiet listF:=fun M c=>⟨rfl,rfl⟩
theorem quiet_info:Quiet infoF:=fun M c=>by unfold infoF;split<;>exact⟨rfl,rfl⟩
theorem quiet_dirty:Quiet dirtyF:=fun M c=>by
 unfold dirtyF;split
 ·exact⟨rfl,rfl⟩
 split
 ·exact⟨rfl,rfl⟩
 split<;>exact⟨rfl,rfl⟩
theorem quiet_read:Quiet readF:=fun M c=>by
 unfold readF;split
 ·exact⟨rfl,rfl⟩
 split<;>exact⟨rfl,rfl⟩
theorem refuse_check:Refuse checkF:=fun M c h=>absurd rfl h
theorem refuse_list:Refuse listF:=fun M c h=>absurd rfl h
theorem refuse_flush:Refuse flushF:=fun M c h=>absurd rfl h
theorem refuse_info:Refuse infoF:=fun M c h=>by
 revert h;unfold infoF;split
 ·exact fun _=>⟨rfl,rfl,rfl⟩
 ·exact fun h=>absurd rfl h
theorem refuse_dirty:Refuse dirtyF:=fun M c h=>by
 revert h;unfold dirtyF;split
 ·exact fun _=>⟨rfl,rfl,rfl⟩
 split
 ·exact fun _=>⟨rfl,rfl,rfl⟩
 split
 ·exact fun h=>absurd rfl h
 ·exact fun _=>⟨rfl,rfl,rfl⟩
theorem refuse_read:Refuse readF:=fun M c h=>by
 revert h;unfold readF;split
 ·exact fun _=>⟨rfl,rfl,rfl⟩
 split
 ·exact fun h=>absurd rfl h
 ·exact fun _=>⟨rfl,rfl,rfl⟩
theorem refuse_remove:Refuse removeF:=fun M c h=>by
 revert h;unfold removeF;split
 ·exact fun _=>⟨rfl,rfl,rfl⟩
 ·exact fun h=>absurd rfl h
theorem refuse_commit:Refuse commitF:=fun M c h=>by
 revert h;unfold commitF;split
 ·exact fun _=>⟨rfl,rfl,rfl⟩
 split
 ·exact fun _=>⟨rfl,rfl,rfl⟩
 split
 ·exact fun _=>⟨rfl,rfl,rfl⟩
 split
 ·exact fun _=>⟨rfl,rfl,rfl⟩
 split
 ·exact fun _=>⟨rfl,rfl,rfl⟩
 split
 ·exact fun _=>⟨rfl,rfl,rfl⟩
 ·exact fun h=>absurd rfl h
theorem refuse_create:Refuse createF:=fun M c h=>by
 revert h;unfold createF;split
 ·exact fun _=>⟨rfl,rfl,rfl⟩
 split
 ·exact fun _=>⟨rfl,rfl,rfl⟩
 split
 ·exact fun _=>⟨rfl,rfl,rfl⟩
 split
 ·exact fun _=>⟨rfl,rfl,rfl⟩
 split
 ·exact fun _=>⟨rfl,rfl,rfl⟩
 split
 ·exact fun _=>⟨rfl,rfl,rfl⟩
 ·exact fun h=>absurd rfl h
theorem movedM_no (M:MM)(n tg:Bs)(h:(movedM M n tg).2.1≠0):(movedM M n tg).1=M/\(movedM M n tg).2.2=0:=by
 revert h;unfold movedM;split
 ·exact fun _=>⟨rfl,rfl⟩
 split
 ·exact fun _=>⟨rfl,rfl⟩
 split
 ·exact fun _=>⟨rfl,rfl⟩
 split
 ·exact fun _=>⟨rfl,rfl⟩
 ·exact fun h=>absurd rfl h
theorem refuse_mov (tt:Cm->Bs):Refuse (movF tt):=fun M c h=>by
 have h1:=movedM_no M c.name (tt c) h;exact⟨h1.1,rfl,h1.2⟩
theorem dep_absent {S:IL}{a:Bs}(h:fnd S a=none):∀ d,dep S d a
 | 0=>h
 | d+1=>by unfold dep;rw[h];trivial
theorem stn_dep {S:IL}{B:Bs->Option Bs}(hB:∀ m,B m=(fnd S m).map (·.back))(h0:fnd S []=none):∀ (k:Nat) (seen:List Bs) (a:Bs),k+seen.length=9->stn B k seen a≠10->stn B k seen a≠11->dep S (8-seen.length) a
 | 0,seen,a,hk,h,_=>absurd rfl h
 | k+1,seen,a,hk,h1,h2=>by
  by_cases ha:a=[]
  ·subst ha;exact dep_absent h0 _
  ·unfold stn at h1 h2;rw[if_neg ha] at h1 h2;cases hf:fnd S a with
   | none=>exact dep_absent hf _
   | some i =>
    rw[hB a,hf] at h1 h2;simp only[Option.map_some] at h1 h2;by_cases hm:a∈seen
    ·rw[if_pos hm] at h2;exact absurd rfl h2
    ·rw[if_neg hm] at h1 h2;by_cases hl:8<seen.length+1
     ·rw[if_pos hl] at h1;exact absurd rfl h1
     ·rw[if_neg hl] at h1 h2;have ih:=stn_dep hB h0 k (a :: seen) i.back (by rw[List.length_cons];omega) h1 h2;rw[List.length_cons] at ih;rw[show 8-seen.length=(8-(seen.length+1))+1 by omega];unfold dep;rw[hf];exact ih
theorem stn_no11 {S:IL}{B:Bs->Option Bs}(hB:∀ m,B m=(fnd S m).map (·.back)):∀ (k:Nat) (seen:List Bs) (a:Bs),(∃ e,dep S e a/\∀ x∈seen,¬ dep S e x)->stn B k seen a≠11
 | 0,seen,a,_=>by unfold stn;decide
 | k+1,seen,a,⟨e,he,hs⟩=>by
  unfold stn;split
  ·decide
  ·cases hf:fnd S a with
   | none=>rw[hB a,hf];simp only[Option.map_none];decide
   | some i =>
    rw[hB a,hf];simp only[Option.map_some];rw[if_neg fun hm=>hs a hm he];split
    ·decide
    ·obtain⟨e',h1,h2,h3⟩:=dep_min hf he;exact stn_no11 hB k (a :: seen) i.back ⟨e',h2,fun x hx=>by
      rcases List.mem_cons.1 hx with rfl|hx
      ·exact h3
      ·exact fun h4=>hs x hx (dep_le h4 (by omega))⟩
theorem dep_via {S S':IL}{n:Bs}(h:∀ m,m≠n->fnd S' m=fnd S m)(hn:dep S' 8 n):∀ (d:Nat) (m:Bs),dep S d m->dep S' (d+8) m
 | 0,m,hm=>by
  by_cases e:m=n
  ·subst e;exact dep_le hn (by omega)
  ·have hm:fnd S m=none:=hm;exact dep_absent (by rw[h m e];exact hm) _
 | d+1,m,hm=>by
  by_cases e:m=n
  ·subst e;exact dep_le hn (by omega)
  ·rw[show d+1+8=(d+8)+1 by omega];unfold dep at hm ⊢;rw[h m e];cases hf:fnd S m with
   | none=>trivial
   | some i=>rw[hf] at hm;exact dep_via h hn d i.back hm
theorem ok_back {M:MM}(h:MOk M){n:Bs}{i i':IM}(hf:fnd M.all n=some i)(hb:i'.back=[]\/(fnd M.all i'.back).isSome=true)(hd:∀ m,dep (setI M.all n i') 8 m):MOk (flushM {M with all:=setI M.all n i'} n):=by
 have hS:fnd (setI M.all n i') n=some i':=by rw[fnd_setI,if_pos rfl]
 have hk:(fnd M.kept n).isSome=true:=by
  have:=h.kb n;rw[hf] at this;cases hk:fnd M.kept n with
  | none=>rw[hk] at this;cases this
  | some _=>rfl
 have key:∀ b:Bs,(fnd M.all b).isSome=true->(fnd (setI M.all n i') b).isSome=true:=fun b hb=>by
  rw[fnd_setI];split
  ·rfl
  ·exact hb
 unfold flushM;simp only[hS];refine⟨fun m j hj=>?_,fun m j hj=>?_,hd,?_,?_,fun m=>?_,fun m hm=>?_,fun m hm=>?_⟩
 ·have hj:fnd (setI M.all n i') m=some j:=hj;rw[fnd_setI] at hj;by_cases e:m=n
  ·subst e;exact h.nm _ _ hf
  ·rw[if_neg e] at hj;exact h.nm _ _ hj
 ·have hj:fnd (setI M.all n i') m=some j:=hj;show j.back=[]\/(fnd (setI M.all n i') j.back).isSome=true;rw[fnd_setI] at hj;by_cases e:m=n
  ·rw[if_pos e] at hj;cases hj;exact hb.imp id (key _)
  ·rw[if_neg e] at hj;exact(h.bk _ _ hj).imp id (key _)
 ·show(setI M.all n i').length<=16;rw[setI_len (by rw[hf];rfl)];exact h.le
 ·show(setI M.kept n i').length<=16;rw[setI_len hk];exact h.kl
 ·show(fnd (setI M.kept n i') m).map (·.back)=(fnd (setI M.all n i') m).map (·.back);rw[fnd_setI,fnd_setI];split
  ·rfl
  ·exact h.kb m
 ·show fnd (setI M.kept n i') m=fnd (setI M.all n i') m;rw[fnd_setI,fnd_setI];by_cases e:m=n
  ·rw[if_pos e,if_pos e]
  ·rw[if_neg e,if_neg e];have hm:(if m=n then false else M.ch m)=false:=hm;rw[if_neg e] at hm;exact h.ch m hm
 ·show(fnd (setI M.all n i') m).isSome=true;have hm:(if m=n then false else M.ch m)=true:=hm;by_cases e:m=n
  ·rw[if_pos e] at hm;cases hm
  ·rw[if_neg e] at hm;exact key _ (h.cn m hm)
theorem ok_moved {M:MM}(h:MOk M){n:Bs}(hn:(fnd M.all n).isSome=true)(tg:Bs):MOk (movedM M n tg).1:=by
 obtain⟨i,hi⟩:=Option.isSome_iff_exists.1 hn;have hne:n≠[]:=fun e=>by have:=h.nm _ _ hi;rw[e] at this;cases this
 have hn0:fnd M.all []=none:=by
  cases hf:fnd M.all [] with
  | none=>rfl
  | some i=>have:=h.nm _ _ hf;cases this
 unfold movedM;rw[hi];simp only;split
 ·exact h
 rename_i h1;split
 ·exact h
 rename_i h2;split
 ·exact h
 rename_i h3;have h2:standsM (movB M n tg) n=0:=by
  by_cases e:standsM (movB M n tg) n=0
  ·exact e
  ·exact absurd e h2
 obtain⟨M1,hM1⟩:∃ M1,M1=(if tg=[] then M else flushedM M tg):=⟨_,rfl⟩
 rw[<-hM1];have hok:MOk M1:=by rw[hM1];split;exact h;exact ok_flushed h tg
 have hall:M1.all=M.all:=by rw[hM1];split;rfl;exact flushed_all M tg
 have hi1:fnd M1.all n=some i:=by rw[hall];exact hi
 obtain⟨S,hS⟩:∃ S,S=setI M.all n (movI M.all i tg):=⟨_,rfl⟩
 have hS2:∀ m,fnd S m=if m=n then some (movI M.all i tg) else fnd M.all m:=fun m=>by rw[hS,fnd_setI]
 have hB:∀ m,movB M n tg m=(fnd S m).map (·.back):=fun m=>by
  rw[hS2];unfold movB;split
  ·rfl
  ·rfl
 have hS0:fnd S []=none:=by rw[hS2,if_neg (Ne.symm hne)];exact hn0
 have hdn:dep S 8 n:=stn_dep hB hS0 9 [] n rfl (by show standsM _ n≠10;rw[h2];decide) (by show standsM _ n≠11;rw[h2];decide);have hall16:∀ m,dep S 16 m:=fun m=>dep_via (fun t ht=>by rw[hS2,if_neg ht]) hdn 8 m (h.dp m);have hd:∀ m,dep S 8 m:=fun m=>by
  cases hf:fnd S m with
  | none=>exact dep_absent hf 8
  | some j =>
   refine stn_dep hB hS0 9 [] m rfl (fun h10=>h3 ?_) (stn_no11 hB 9 [] m ⟨16,hall16 m,fun x hx=>by cases hx⟩);have hm:∃ j',fnd M.all m=some j':=by
    rw[hS2] at hf;split at hf
    ·rename_i e;exact⟨i,by rw[e];exact hi⟩
    ·exact⟨j,hf⟩
   obtain⟨j',hj'⟩:=hm;exact List.any_eq_true.2 ⟨_,fnd_mem hj',decide_eq_true h10⟩
 have htg:tg=[]\/(fnd M1.all tg).isSome=true:=by
  by_cases e:tg=[]
  ·exact .inl e
  ·refine .inr ?_;rw[hall];cases hf:fnd M.all tg with
   | none=>exact absurd ⟨e,hf⟩ h1
   | some _=>rfl
 have h9:=ok_back hok hi1 (i':=movI M.all i tg) htg (by rw[hall,<-hS];exact hd);exact h9
theorem fnd_isSome_mem {S:IL}{n:Bs}:(fnd S n).isSome=true↔n∈S.map (·.1):=by
 induction S with
 | nil=>simp[fnd_nil]
 | cons p r ih =>
  rw[fnd_cons,List.map_cons,List.mem_cons];by_cases h:p.1=n
  ·rw[if_pos h];simp[h]
  ·rw[if_neg h,ih];constructor
   ·exact .inr
   ·rintro(e|e)
    ·exact absurd e.symm h
    ·exact e
theorem kept_len {M:MM}(h:MOk M)(ha:(M.all.map (·.1)).Nodup)(hk:(M.kept.map (·.1)).Nodup):M.kept.length=M.all.length:=by
 have hp:(M.kept.map (·.1)).Perm (M.all.map (·.1)):=(List.perm_ext_iff_of_nodup hk ha).2 fun n=>by
  rw[<-fnd_isSome_mem,<-fnd_isSome_mem];have:=h.kb n;cases h1:fnd M.kept n<;>cases h2:fnd M.all n<;>simp[h1,h2] at this ⊢
 have:=hp.length_eq;simpa using this
theorem flushedM_kept_len {M:MM}(h:MOk M)(n:Bs):(flushedM M n).kept.length=M.kept.length:=by
 unfold flushedM;split
 ·unfold flushM;cases hf:fnd M.all n with
  | none=>rfl
  | some i =>
   have hk:(fnd M.kept n).isSome=true:=by
    have:=h.kb n;rw[hf] at this;cases hk:fnd M.kept n with
    | none=>rw[hk] at this;cases this
    | some _=>rfl
   exact setI_len hk i
 ·rfl
theorem dep_new {S S':IL}{n:Bs}(h:∀ m,m≠n->fnd S' m=fnd S m)(hb:∀ m i,fnd S m=some i->i.back≠n):∀ (d:Nat) (m:Bs),m≠n->dep S d m->dep S' d m
 | 0,m,hm,hd=>by
  have hd:fnd S m=none:=hd;show fnd S' m=none;rw[h m hm];exact hd
 | d+1,m,hm,hd=>by
  unfold dep at hd ⊢;rw[h m hm];cases hf:fnd S m with
  | none=>trivial
  | some i=>rw[hf] at hd;exact dep_new h hb d i.back (hb _ _ hf) hd
theorem setI_len_new {S:IL}{n:Bs}(h:fnd S n=none)(i:IM):(setI S n i).length=S.length+1:=by
 unfold setI;rw[h];simp
theorem ok_new {M:MM}(h:MOk M){n:Bs}{i':IM}(hf:fnd M.all n=none)(hno:nameOk n=true)(hl:M.all.length<16)(hkl:M.kept.length<16)(hb:i'.back=[]\/(fnd M.all i'.back).isSome=true)(hd:∀ m,dep (setI M.all n i') 8 m):MOk (flushM {M with all:=setI M.all n i'} n):=by
 have hS:fnd (setI M.all n i') n=some i':=by rw[fnd_setI,if_pos rfl]
 have hk:fnd M.kept n=none:=by
  have:=h.kb n;rw[hf] at this;cases hk:fnd M.kept n with
  | none=>rfl
  | some _=>rw[hk] at this;cases this
 have key:∀ b:Bs,(fnd M.all b).isSome=true->(fnd (setI M.all n i') b).isSome=true:=fun b hb=>by
  rw[fnd_setI];split
  ·rfl
  ·exact hb
 unfold flushM;simp only[hS];refine⟨fun m j hj=>?_,fun m j hj=>?_,hd,?_,?_,fun m=>?_,fun m hm=>?_,fun m hm=>?_⟩
 ·have hj:fnd (setI M.all n i') m=some j:=hj;rw[fnd_setI] at hj;by_cases e:m=n
  ·subst e;exact hno
  ·rw[if_neg e] at hj;exact h.nm _ _ hj
 ·have hj:fnd (setI M.all n i') m=some j:=hj;show j.back=[]\/(fnd (setI M.all n i') j.back).isSome=true;rw[fnd_setI] at hj;by_cases e:m=n
  ·rw[if_pos e] at hj;cases hj;exact hb.imp id (key _)
  ·rw[if_neg e] at hj;exact(h.bk _ _ hj).imp id (key _)
 ·show(setI M.all n i').length<=16;rw[setI_len_new hf];omega
 ·show(setI M.kept n i').length<=16;rw[setI_len_new hk];omega
 ·show(fnd (setI M.kept n i') m).map (·.back)=(fnd (setI M.all n i') m).map (·.back);rw[fnd_setI,fnd_setI];split
  ·rfl
  ·exact h.kb m
 ·show fnd (setI M.kept n i') m=fnd (setI M.all n i') m;rw[fnd_setI,fnd_setI];by_cases e:m=n
  ·rw[if_pos e,if_pos e]
  ·rw[if_neg e,if_neg e];have hm:(if m=n then false else M.ch m)=false:=hm;rw[if_neg e] at hm;exact h.ch m hm
 ·show(fnd (setI M.all n i') m).isSome=true;have hm:(if m=n then false else M.ch m)=true:=hm;by_cases e:m=n
  ·rw[if_pos e] at hm;cases hm
  ·rw[if_neg e] at hm;exact key _ (h.cn m hm)
theorem ok_create {M:MM}(h:MOk M)(ha:(M.all.map (·.1)).Nodup)(hk:(M.kept.map (·.1)).Nodup)(c:Cm):MOk (createF M c).1:=by
 unfold createF;split
 ·exact h
 rename_i h1;split
 ·exact h
 split
 ·exact h
 rename_i h3;split
 ·exact h
 rename_i h4;split
 ·exact h
 rename_i h5;split
 ·exact h
 rename_i h6;have hno:nameOk c.name=true:=by
  cases e:nameOk c.name with
  | true=>rfl
  | false=>exact absurd (.inl e) h1
 have hne:c.name≠[]:=fun e=>by rw[e] at hno;cases hno
 have hf:fnd M.all c.name=none:=by
  cases e:fnd M.all c.name with
  | none=>rfl
  | some _=>rw[e] at h3;exact absurd rfl h3
 have hn0:fnd M.all []=none:=by
  cases hf:fnd M.all [] with
  | none=>rfl
  | some i=>have:=h.nm _ _ hf;cases this
 have hst:standsM (backsB M.all c.name c.tt) c.name=0:=by
  by_cases e:standsM (backsB M.all c.name c.tt) c.name=0
  ·exact e
  ·exact absurd e h6
 simp only;obtain⟨M1,hM1⟩:∃ M1,M1=(if c.tt=[] then M else flushedM M c.tt):=⟨_,rfl⟩
 rw[<-hM1];have hok:MOk M1:=by rw[hM1];split;exact h;exact ok_flushed h _
 have hall:M1.all=M.all:=by rw[hM1];split;rfl;exact flushed_all M _
 have hkl:M1.kept.length<16:=by
  have e:M1.kept.length=M.kept.length:=by rw[hM1];split;rfl;exact flushedM_kept_len h _
  rw[e,kept_len h ha hk];omega
 obtain⟨i',hi'⟩:∃ i':IM,i'=⟨c.n.toNat,c.m.toNat,c.tt,fun _=>none,[],[]⟩:=⟨_,rfl⟩
 rw[<-hi'];have hib:i'.back=c.tt:=by rw[hi']
 have hB:∀ m,backsB M.all c.name c.tt m=(fnd (setI M.all c.name i') m).map (·.back):=fun m=>by
  rw[fnd_setI];unfold backsB;split
  ·simp[hib]
  ·rfl
 have hS0:fnd (setI M.all c.name i') []=none:=by rw[fnd_setI,if_neg (Ne.symm hne)];exact hn0
 have hdn:dep (setI M.all c.name i') 8 c.name:=stn_dep hB hS0 9 [] c.name rfl (by show standsM _ _≠10;rw[hst];decide) (by show standsM _ _≠11;rw[hst];decide);have hbk:∀ m i,fnd M.all m=some i->i.back≠c.name:=fun m i hm e=>by
  rcases h.bk _ _ hm with h7|h7
  ·rw[h7] at e;exact hne e.symm
  ·rw[e,hf] at h7;cases h7
 refine ok_new hok (by rw[hall];exact hf) hno (by rw[hall];omega) hkl ?_ fun m=>?_
 ·rw[hib,hall];by_cases e:c.tt=[]
  ·exact .inl e
  ·refine .inr ?_;cases e2:fnd M.all c.tt with
   | none=>exact absurd ⟨e,e2⟩ h5
   | some _=>rfl
 ·rw[hall];by_cases e:m=c.name
  ·rw[e];exact hdn
  ·exact dep_new (fun t ht=>by rw[fnd_setI,if_neg ht]) hbk 8 m e (h.dp m)
end Go.Md
namespace Go.Crc
def poly:BitVec 32:=0x82f63b78#32
def stp (c:BitVec 32):BitVec 32:=if c.getLsbD 0 then(c >>> 1) ^^^ poly else c >>> 1
def stpN:Nat->BitVec 32->BitVec 32
 | 0,c=>c
 | n+1,c=>stpN n (stp c)
def z8 (b:UInt8):BitVec 32:=BitVec.ofNat 32 b.toNat
def crcB (h:BitVec 32)(b:UInt8):BitVec 32:=stpN 8 (h ^^^ z8 b)
def crcL (h:BitVec 32)(bs:List UInt8):BitVec 32:=bs.foldl crcB h
def more (sum:BitVec 32)(bs:List UInt8):BitVec 32 := ~~~ (crcL (~~~ sum) bs)
def sum (bs:List UInt8):BitVec 32:=more 0 bs
theorem stp_xor (a b:BitVec 32):stp (a ^^^ b)=stp a ^^^ stp b:=by
 unfold stp;rw[BitVec.getLsbD_xor,BitVec.ushiftRight_xor_distrib];cases a.getLsbD 0<;>cases b.getLsbD 0<;>simp
 ·rw[BitVec.xor_assoc]
 ·rw[BitVec.xor_assoc,BitVec.xor_assoc];congr 1;rw[BitVec.xor_comm]
 ·have:(a >>> 1 ^^^ poly) ^^^ (b >>> 1 ^^^ poly)=(a >>> 1 ^^^ b >>> 1) ^^^ (poly ^^^ poly):=by
   simp only[BitVec.xor_assoc];congr 1;rw[<-BitVec.xor_assoc,BitVec.xor_comm poly,BitVec.xor_assoc]
  rw[this];simp
theorem stpN_xor:∀ n (a b:BitVec 32),stpN n (a ^^^ b)=stpN n a ^^^ stpN n b
 | 0,_,_=>rfl
 | n+1,a,b=>by rw[stpN,stp_xor,stpN_xor n,stpN,stpN]
theorem stpN_add:∀ m n (c:BitVec 32),stpN (m+n) c=stpN n (stpN m c)
 | 0,n,c=>by rw[Nat.zero_add];rfl
 | m+1,n,c=>by rw[Nat.add_right_comm,stpN,stpN_add m n,stpN]
theorem stpN_shift:∀ n (c:BitVec 32),(∀ i,i<n->c.getLsbD i=false)->stpN n c=c >>> n
 | 0,c,_=>by simp[stpN]
 | n+1,c,h=>by
  rw[stpN,show stp c=c >>> 1 by unfold stp;rw[h 0 (by omega)];simp];rw[stpN_shift n (c >>> 1) (fun i hi=>by rw[BitVec.getLsbD_ushiftRight];exact h (1+i) (by omega))];rw[<-BitVec.shiftRight_add,Nat.add_comm]
theorem stp4 (c:BitVec 32):stpN 4 c=stpN 4 (c &&& 15#32) ^^^ (c >>> 4):=by
 have e:c=(c &&& 15#32) ^^^ (c &&& ~~~ 15#32):=by
  apply BitVec.eq_of_getLsbD_eq;intro i hi;simp only[BitVec.getLsbD_xor,BitVec.getLsbD_and,BitVec.getLsbD_not,hi,decide_true,Bool.true_and];cases c.getLsbD i<;>cases (15#32).getLsbD i<;>rfl
 have e2:(c &&& ~~~ 15#32) >>> 4=c >>> 4:=by
  apply BitVec.eq_of_getLsbD_eq;intro i hi;simp only[BitVec.getLsbD_ushiftRight,BitVec.getLsbD_and,BitVec.getLsbD_not];by_cases h:4+i<32
  ·have:(15#32).getLsbD (4+i)=false:=by
    rw[show(15#32).getLsbD (4+i)=(15#32).getLsbD (4+i) from rfl];have:∀ j:Fin 28,(15#32).getLsbD (4+j.val)=false:=by decide
    exact this ⟨i,by omega⟩
   rw[this];simp[h]
  ·rw[BitVec.getLsbD_of_ge c _ (by omega)];simp
 have e1:stpN 4 (c &&& ~~~ 15#32)=c >>> 4:=by
  rw[<-e2];refine stpN_shift 4 _ fun i hi=>?_;rw[BitVec.getLsbD_and,BitVec.getLsbD_not];have:∀ j:Fin 4,(15#32).getLsbD j.val=true:=by decide
  rw[this ⟨i,hi⟩];simp
 rw[<-e1,<-stpN_xor,<-e]
theorem crcL_append (h:BitVec 32)(a b:List UInt8):crcL h (a++b)=crcL (crcL h a) b:=by simp[crcL]
theorem more_parts (s:BitVec 32)(a b:List UInt8):more (more s a) b=more s (a++b):=by
 unfold more;rw[BitVec.not_not,crcL_append]
def dB (bits:BitVec 32)(i:Nat):UInt8:=UInt8.ofNat (bits.toNat/2^(8*i))
/-! fingers -/
def prime:BitVec 64:=0x100000001b3#64
def zz (b:UInt8):BitVec 64:=BitVec.ofNat 64 b.toNat
def finB (h:BitVec 64)(b:UInt8):BitVec 64:=(h ^^^ zz b)*prime
def finL (h:BitVec 64)(bs:List UInt8):BitVec 64:=bs.foldl finB h
def mix (h:BitVec 64):BitVec 64:=h ^^^ (h >>> 32)
def off:BitVec 64:=0xcbf29ce484222325#64
def finger (bs:List UInt8):BitVec 64:=mix (finL off bs)
end Go.Crc
namespace Go.Proofs.YtgkabcaodnofnaaGreat.Sb
open Go.RowKit Go.Mx
theorem disable (w:World):(callFunc 170 #[]).run prog w = .ok (.value (.tuple #[])) w:=run_call_mark0 func170 (by kernel_rfl) (by kernel_rfl) (by kernel_rfl) .disable (by kernel_rfl) w
theorem enable (w:World):(callFunc 172 #[]).run prog w = .ok (.value (.tuple #[])) w:=run_call_mark0 func172 (by kernel_rfl) (by kernel_rfl) (by kernel_rfl) .enable (by kernel_rfl) w
theorem acquire (a:Addr)(w:World):(callFunc 173 #[.pointer (some a)]).run prog w = .ok (.value (.tuple #[])) w:=run_call_marked func173 (by kernel_rfl) (by kernel_rfl) (by kernel_rfl) .acquire (by kernel_rfl) a w
theorem releaseMerge (a:Addr)(w:World):(callFunc 175 #[.pointer (some a)]).run prog w = .ok (.value (.tuple #[])) w:=run_call_marked func175 (by kernel_rfl) (by kernel_rfl) (by kernel_rfl) .releaseMerge (by kernel_rfl) a w
theorem store_deferred (a:Addr)(x:Value)(u:FrameMode)(w:World)(hc:w.cell? a=some x)(hz:w.frozen? a=false) :
  CallsD prog 110 #[.pointer (some a),.bool true] u w fun e u' w'=>u'=u/\(e = .returned (.tuple #[])/\w'=w.drew.setCell a (.int .u32 1)):=by
 have hc':w.drew.cell? a=some x:=by go_simp
 have hz':w.drew.frozen? a=false:=by go_simp
 have hst:=run_call_store (P:=prog) func152 (by kernel_rfl) (by kernel_rfl) (by kernel_rfl) (by kernel_rfl) (k:=.u32) (y:=1) hc' hz'
 go_enter_d func110,ntmps110
 go_wp2
 go_region_calls
 all_goals (go_end0;exact⟨rfl,rfl⟩)
theorem unlock_deferred (a:Addr)(u:FrameMode)(w:World)(hc:w.cell? a=some (.int .i32 1))(hz:w.frozen? a=false) :
  CallsD prog 109 #[.pointer (some a)] u w fun e u' w'=>u'=u/\(e = .returned (.tuple #[])/\w'=w.setCell a (.int .i32 0)):=by
 have hd:=disable;have he:=enable;have hr:=releaseMerge;have hadd:=run_call_add (P:=prog) func176 (by kernel_rfl) (by kernel_rfl) (by kernel_rfl) .i32 (by kernel_rfl) (y := -1) (s:=0) hc hz (by simp[go_sem];rfl);have hcv:=run_convert_to_unsafe (P:=prog) (src:=230) (dst:=234) underlying230 underlying234 (by kernel_rfl) hc
 go_enter_d func109,ntmps109
 go_wp2
 go_end0
 go_wp2
 go_end0
 exact⟨rfl,rfl⟩
theorem lock_free (a:Addr)(w:World)(hc:w.cell? a=some (.int .i32 0))(hz:w.frozen? a=false) :
  Calls prog 108 #[.pointer (some a)] w fun e w'=>e = .returned (.tuple #[])/\w'=w.setCell a (.int .i32 1):=by
 have hd:=disable;have he:=enable;have ha:=acquire;have hcas:=run_call_cas_hit (P:=prog) func171 (by kernel_rfl) (by kernel_rfl) (by kernel_rfl) .i32 (by kernel_rfl) (y:=1) hc hz;have hc':(w.setCell a (.int .i32 1)).cell? a=some (.int .i32 1):=cs_same hc;have hcv:=run_convert_to_unsafe (P:=prog) (src:=230) (dst:=234) underlying230 underlying234 (by kernel_rfl) hc';go_enter func108,ntmps108
 go_wp2
 first|go_end0|(simp only[Exit.inBlock,Exit.then];refine bodyPost_ret (results_none rfl _ _ _) rfl ?_)|refine bodyPost_ret (results_none rfl _ _ _) rfl ?_
 go_wp2
 go_end0
 exact⟨rfl,rfl⟩
open Go.RowKit Go.Mx Go.Crc
theorem xor_u32 (a b:BitVec 32):bits .xor .u32 (a.toNat:Int) (b.toNat:Int)=((a ^^^ b).toNat:Int):=by
 rw[show(a ^^^ b).toNat=a.toNat ^^^ b.toNat from BitVec.toNat_xor a b];exact u32_xor_nat a.toNat b.toNat a.isLt b.isLt
theorem stp_true (c:BitVec 32)(h:c.getLsbD 0=true):bits .xor .u32 ((c.toNat:Int)/(2:Int)) 2197175160=((stp c).toNat:Int):=by
 have e1:(c.toNat:Int)/(2:Int)=((c >>> 1).toNat:Int):=by
  rw[BitVec.toNat_ushiftRight,Nat.shiftRight_eq_div_pow];simp
 have e2:(2197175160:Int)=(poly.toNat:Int):=by decide
 rw[e1,e2,xor_u32];unfold stp;rw[if_pos h]
theorem stp_false (c:BitVec 32)(h:c.getLsbD 0=false):(c.toNat:Int)/(2:Int)=((stp c).toNat:Int):=by
 unfold stp;rw[h];simp only[Bool.false_eq_true,if_false];rw[BitVec.toNat_ushiftRight,Nat.shiftRight_eq_div_pow];simp
theorem and1_u32 (c:BitVec 32):bits .and .u32 (c.toNat:Int) 1=((c.toNat%2:Nat):Int):=by
 have:=u32_and_nat c.toNat 1 c.isLt (by omega);rw[Nat.and_one_is_mod] at this;exact this
theorem lsb_true (c:BitVec 32)(h:c.getLsbD 0=true):bits .and .u32 (c.toNat:Int) 1=1:=by
 have:c.toNat.testBit 0=true:=h;rw[Nat.testBit_zero] at this;rw[and1_u32];simp at this;omega
theorem lsb_false (c:BitVec 32)(h:c.getLsbD 0=false):bits .and .u32 (c.toNat:Int) 1=0:=by
 have:c.toNat.testBit 0=false:=h;rw[Nat.testBit_zero] at this;rw[and1_u32];simp at this;omega
def tab (k:Nat):BitVec 32:=stpN 4 (BitVec.ofNat 32 k)
def Ent (w:World)(b n:Nat):Prop:=∀ i,i<n->w.cell? ⟨b,3+i,none⟩=some (.int .u32 (tab i).toNat)
theorem grown_trans {a b c:World}{r:Option Nat}(h:a.grownBy b r)(k:b.grownBy c r):a.grownBy c r :=
 ⟨k.os.trans h.os,k.tape.trans h.tape,k.output.trans h.output,Nat.le_trans h.size k.size,fun i hi hr=>(k.block i (Nat.lt_of_lt_of_le hi h.size) hr).trans (h.block i hi hr)⟩
theorem grown_set (w:World)(b o:Nat)(v:Value):w.grownBy (w.setCell ⟨b,o,none⟩ v) (some b) :=
 ⟨rfl,rfl,rfl,by simp,fun i _ hr=>Below.heap_setCell w ⟨b,o,none⟩ v i (fun e=>hr (by rw[e]))⟩
structure Room (w:World)(b:Nat):Prop where
 ent:∀ i,i<16->∃ v,w.cell? ⟨b,3+i,none⟩=some v
 fz:∀ o,w.frozen? ⟨b,o,none⟩=false
theorem cs_off {w:World}{b o o':Nat}{v:Value}(h:o≠o'):(w.setCell ⟨b,o,none⟩ v).cell? ⟨b,o',none⟩=w.cell? ⟨b,o',none⟩ :=
 World.cell?_setCell_other w _ _ _ (by simp[h])
theorem Room.set {w:World}{b:Nat}(h:Room w b)(o:Nat)(u:Value):Room (w.setCell ⟨b,o,none⟩ u) b:=by
 refine⟨fun i hi=>?_,fun o'=>by rw[fz_set];exact h.fz o'⟩;obtain⟨v,hv⟩:=h.ent i hi;by_cases e:o=3+i
 ·subst e;exact⟨u,cs_same hv⟩
 ·exact⟨v,by rw[cs_off e];exact hv⟩
theorem Room.drew {w:World}{b:Nat}(h:Room w b):Room w.drew b:=⟨fun i hi=>by rw[World.cell?_drew];exact h.ent i hi,fun o=>by have:=h.fz o;simpa using this⟩
theorem Ent.next {w:World}{b n:Nat}(h:Ent w b n)(hr:Room w b)(hn:n<16):Ent (w.setCell ⟨b,3+n,none⟩ (.int .u32 (tab n).toNat)) b (n+1):=by
 intro i hi;rcases Nat.lt_or_ge i n with h1|h1
 ·rw[cs_off (by omega)];exact h i h1
 ·obtain rfl:i=n:=by omega
  obtain⟨v,hv⟩:=hr.ent i hn;exact cs_same hv
structure FillPost (w w':World)(b:Nat):Prop where
 ent:Ent w' b 16
 room:Room w' b
 low:∀ o,o<3->w'.cell? ⟨b,o,none⟩=w.cell? ⟨b,o,none⟩
 grown:w.grownBy w' (some b)
theorem fill_any (b pl:Nat)(w:World)(hne:b≠pl)(hp:w.cell? ⟨pl,0,none⟩=some (.pointer (some ⟨b,0,none⟩)))(hr:Room w b) :
  Calls prog 201 #[.pointer (some ⟨pl,0,none⟩)] w fun e w'=>e = .returned (.tuple #[])/\FillPost w w' b:=by
 go_enter func201,ntmps201
 go_wp2
 go_loopw [4] (fun i wr=>∃ k:Nat,k<=16/\i = .int .i64 k/\Ent wr b k/\Room wr b/\(∀ o,o<3->wr.cell? ⟨b,o,none⟩=w.cell? ⟨b,o,none⟩)/\w.grownBy wr (some b))
  (fun i _=>16-(intOf i).toNat)
 case atStart=>exact⟨0,by omega,rfl,fun i hi=>absurd hi (by omega),hr,fun _ _=>rfl,World.grownBy.refl w _⟩
 case round =>
  obtain⟨k,hk,rfl,hent,hroom,hlow,hg⟩:=hrel;have HLOW:=hid hlow;clear hlow;by_cases hk16:k<16
  ·have HT:Hid (tab k=stpN 4 (BitVec.ofNat 32 k)):=rfl;have hkb:((BitVec.ofNat 32 k).toNat:Int)=(k:Int):=by simp;omega
   obtain⟨c0,hc0⟩:∃ c0,c0=BitVec.ofNat 32 k:=⟨_,rfl⟩
   rw[<-hc0] at HT hkb;clear hc0;have HK:=hid hkb;clear hkb;obtain⟨T,hT⟩:∃ T,T=tab k:=⟨_,rfl⟩
   rw[<-hT] at HT;have HTT:=hid hT;clear hT
   go_wp2
   go_loop [2,9] (fun c i=>∃ (j:Nat) (d:BitVec 32),j<=4/\i = .int .i64 j/\c = .int .u32 d.toNat/\Hid (T=stpN (4-j) d))
    (fun _ i=>4-(intOf i).toNat)
   case atStart=>exact⟨0,c0,by omega,rfl,by rw[HK.out],HT⟩
   case round =>
    obtain⟨j,d,hj,rfl,rfl,HT2⟩:=hrel;clear HT HK;by_cases hj4:j<4
    ·have hT3:=HT2.out;rw[show 4-j=(4-(j+1))+1 by omega,stpN] at hT3;have HT3:=hid hT3;clear hT3 HT2;have hdl:=d.isLt;cases hb:d.getLsbD 0
     ·have hm:=lsb_false d hb;have HS:=hid (stp_false d hb);clear hb
      go_wp2
      go_round
      case rel=>exact⟨j+1,stp d,by omega,by go_num,by rw[HS.out],HT3⟩
      case measure=>simp[intOf];omega
     ·have hm:=lsb_true d hb;have HS:=hid (stp_true d hb);clear hb
      go_wp2
      go_round
      case rel=>exact⟨j+1,stp d,by omega,by go_num,by rw[HS.out],HT3⟩
      case measure=>simp[intOf];omega
    ·obtain rfl:j=4:=by omega
     have hT3:=HT2.out;simp only[Nat.sub_self,stpN] at hT3;subst hT3;clear HT2;obtain⟨v,hv⟩:=hroom.ent k hk16;have hfz:=hroom.fz (3+k);have hp':wr.cell? ⟨pl,0,none⟩=some (.pointer (some ⟨b,0,none⟩)):=hg.cell hp (by simp;omega)
     go_wp2
     go_roundw
     case rel=>exact⟨k+1,by omega,by go_num,by rw[HTT.out];exact hent.next hroom hk16,hroom.set _ _,fun o ho=>by rw[cs_off (by omega)];exact HLOW.out o ho,grown_trans hg (grown_set _ _ _ _)⟩
     case measure=>simp[intOf];omega
  ·obtain rfl:k=16:=by omega
   go_wp2
   go_end0
   exact⟨rfl,hent,hroom,HLOW.out,hg⟩
open Go.RowKit Go.Mx Go.Crc
structure Done (w w':World)(b:Nat):Prop where
 done:w'.cell? ⟨b,0,none⟩=some (.int .u32 1)
 mu:w'.cell? ⟨b,1,none⟩=some (.int .i32 0)
 ent:Ent w' b 16
 room:Room w' b
 grown:w.grownBy w' (some b)
theorem grown_drew (w:World)(r:Option Nat):w.grownBy w.drew r:=⟨rfl,rfl,rfl,nlr,fun _ _ _=>rfl⟩
theorem Ent.set {w:World}{b n o:Nat}{u:Value}(h:Ent w b n)(ho:o<3):Ent (w.setCell ⟨b,o,none⟩ u) b n:=fun i hi=>by
 rw[cs_off (by omega)];exact h i hi
theorem Ent.drew {w:World}{b n:Nat}(h:Ent w b n):Ent w.drew b n:=fun i hi=>by rw[World.cell?_drew];exact h i hi
theorem slow_any (b pl:Nat)(hne:b≠pl)(w:World)(hp:w.cell? ⟨pl,0,none⟩=some (.pointer (some ⟨b,0,none⟩)))
  (h0:w.cell? ⟨b,0,none⟩=some (.int .u32 0)) (h1:w.cell? ⟨b,1,none⟩=some (.int .i32 0)) (hr:Room w b) :
  Calls prog 71 #[.pointer (some ⟨b,0,none⟩),.func (.func 201) #[] #[.pointer (some ⟨pl,0,none⟩)]] w fun e w'=>e = .returned (.tuple #[])/\Done w w' b:=by
 have hl:=run_call_load (P:=prog) func107 (by kernel_rfl) (by kernel_rfl) (by kernel_rfl) .u32 (by kernel_rfl) (w:=w.setCell ⟨b,1,none⟩ (.int .i32 1)) (a:=⟨b,0,none⟩) (x:=0) ((cs_off (by omega)).trans h0);have hp1:(w.setCell ⟨b,1,none⟩ (.int .i32 1)).cell? ⟨pl,0,none⟩=some (.pointer (some ⟨b,0,none⟩)):=(cs_ne hne).trans hp;have hr1:Room (w.setCell ⟨b,1,none⟩ (.int .i32 1)) b:=hr.set _ _;have hf0:=hr.fz 0;have hf1:=hr.fz 1;have hnot:∀ (x:Bool) (w:World),(Op.unary .not (.bool x)).run prog w = .ok (.bool (!x)) w:=fun _ _=>rfl
 go_enter_defers func71,ntmps71
 go_wp2_with (go_at_call 108;refine(lock_free ⟨b,1,none⟩ _ (by go_simp) (by go_simp)).mono ?_;rintro e w' ⟨rfl,rfl⟩)
 go_wp2_with (first|(go_at_call 201;refine(fill_any b pl _ hne hp1 hr1).mono ?_;rintro e w2 ⟨rfl,hfill⟩)|(go_at_call 70;go_in))
 refine leaves_cons (f:=110) (args := #[.pointer (some ⟨b,0,none⟩),.bool true]) (by simp) (by simp[go_sem]) ?_;refine(store_deferred ⟨b,0,none⟩ (.int .u32 0) .returning _ ?_ (hfill.room.fz 0)).mono ?_
 ·rw[hfill.low 0 (by omega),cs_off (by omega)];exact h0
 rintro e u' w'' ⟨rfl,rfl,rfl⟩;refine leaves_cons (f:=109) (args := #[.pointer (some ⟨b,1,none⟩)]) (by simp[settle]) (by simp[go_sem]) ?_;have hc1:(w2.drew.setCell ⟨b,0,none⟩ (.int .u32 1)).cell? ⟨b,1,none⟩=some (.int .i32 1):=by
  rw[cs_off (by omega),World.cell?_drew,hfill.low 1 (by omega)];exact cs_same h1
 have hr2:Room (w2.drew.setCell ⟨b,0,none⟩ (.int .u32 1)) b:=(hfill.room.drew).set _ _;refine(unlock_deferred ⟨b,1,none⟩ _ _ hc1 (hr2.fz 1)).mono ?_;rintro e u' w'' ⟨rfl,rfl,rfl⟩;have hd:Done w ((w2.drew.setCell ⟨b,0,none⟩ (.int .u32 1)).setCell ⟨b,1,none⟩ (.int .i32 0)) b :=
  {done:=by
    rw[cs_off (by omega)];have:w2.drew.cell? ⟨b,0,none⟩=some (.int .u32 0):=by rw[World.cell?_drew,hfill.low 0 (by omega),cs_off (by omega)];exact h0
    exact cs_same this
   mu:=cs_same hc1
   ent:=(hfill.ent.drew.set (by omega)).set (by omega)
   room:=hr2.set _ _
   grown:=grown_trans (grown_trans (grown_trans (grown_trans (grown_set w b 1 _) hfill.grown) (grown_drew _ _)) (grown_set _ _ _ _)) (grown_set _ _ _ _)}
 simp[Leaves,settle,results,results71];exact hd
theorem do_first (b pl:Nat)(hne:b≠pl)(w:World)(hp:w.cell? ⟨pl,0,none⟩=some (.pointer (some ⟨b,0,none⟩)))
  (h0:w.cell? ⟨b,0,none⟩=some (.int .u32 0)) (h1:w.cell? ⟨b,1,none⟩=some (.int .i32 0)) (hr:Room w b) :
  Calls prog 34 #[.pointer (some ⟨b,0,none⟩),.func (.func 201) #[] #[.pointer (some ⟨pl,0,none⟩)]] w fun e w'=>e = .returned (.tuple #[])/\Done w w' b:=by
 have hl:=run_call_load (P:=prog) func107 (by kernel_rfl) (by kernel_rfl) (by kernel_rfl) .u32 (by kernel_rfl) h0;have hnot:∀ (x:Bool) (w:World),(Op.unary .not (.bool x)).run prog w = .ok (.bool (!x)) w:=fun _ _=>rfl;go_enter func34,ntmps34
 go_wp2_with (first|(go_at_call 71;refine(slow_any b pl hne _ hp h0 h1 hr).mono ?_;rintro e w' ⟨rfl,hd⟩)|(go_at_call 70;go_in))
 go_end0
 exact⟨rfl,hd⟩
theorem do_done (a:Addr)(fv:Value)(w:World)(h0:w.cell? a=some (.int .u32 1)) :
  Calls prog 34 #[.pointer (some a),fv] w fun e w'=>e = .returned (.tuple #[])/\w=w':=by
 have hl:=run_call_load (P:=prog) func107 (by kernel_rfl) (by kernel_rfl) (by kernel_rfl) .u32 (by kernel_rfl) h0;have hnot:∀ (x:Bool) (w:World),(Op.unary .not (.bool x)).run prog w = .ok (.bool (!x)) w:=fun _ _=>rfl;go_enter func34,ntmps34
 go_wp2
 go_end0
 exact⟨rfl,rfl⟩
structure TabOk (w:World)(b:Nat):Prop where
 room:Room w b
 mu:w.cell? ⟨b,1,none⟩=some (.int .i32 0)
 once:w.cell? ⟨b,0,none⟩=some (.int .u32 0)\/(w.cell? ⟨b,0,none⟩=some (.int .u32 1)/\Ent w b 16)
theorem keep_alloc {w:World}{b:Nat}(hb:b<w.heap.size)(o:Obj):∀ i,(w.alloc o).cell? ⟨b,i,none⟩=w.cell? ⟨b,i,none⟩:=fun i=>World.cell?_alloc_past o b i hb
theorem Room.alloc {w:World}{b:Nat}(h:Room w b)(hb:b<w.heap.size)(o:Obj):Room (w.alloc o) b :=
 ⟨fun i hi=>by rw[keep_alloc hb];exact h.ent i hi,fun i=>by rw[World.frozen?_alloc_past o b i hb];exact h.fz i⟩
theorem Ent.alloc {w:World}{b n:Nat}(h:Ent w b n)(hb:b<w.heap.size)(o:Obj):Ent (w.alloc o) b n:=fun i hi=>by rw[keep_alloc hb];exact h i hi
theorem word_any (b:Nat)(x:BitVec 32)(w:World)(hb:b<w.heap.size)(ht:TabOk w b) :
  Calls prog 187 #[.pointer (some ⟨b,0,none⟩),.int .u32 x.toNat] w fun e w'=>e = .returned (.int .u32 (tab (x.toNat%16)).toNat)/\TabOk w' b/\w.grownBy w' (some b):=by
 have hmf:∀ (fn:Fn) (first cap:Array Value) (w:World),(Instr.makeFunc fn first cap).run prog w = .ok (.func fn first cap) w:=fun _ _ _ _=>rfl;obtain⟨hroom,hmu,honce⟩:=ht;have p0:(w.alloc (.cells #[.pointer (some ⟨b,0,none⟩)] 255)).cell? ⟨w.heap.size,0,none⟩=some (.pointer (some ⟨b,0,none⟩)):=cell_alloc1 _ _ _;have hk:∀ i,(w.alloc (.cells #[.pointer (some ⟨b,0,none⟩)] 255)).cell? ⟨b,i,none⟩=w.cell? ⟨b,i,none⟩:=keep_alloc hb _;have hr1:=hroom.alloc hb (.cells #[.pointer (some ⟨b,0,none⟩)] 255);have hm1:=(hk 1).trans hmu;have hg1:w.grownBy (w.alloc (.cells #[.pointer (some ⟨b,0,none⟩)] 255)) (some b):=World.grownBy_alloc w _ _;have hxl:=x.isLt;obtain⟨m,hm⟩:∃ m,m=x.toNat%16:=⟨_,rfl⟩
 have hmod:(x.toNat:Int)%16=(m:Int):=by omega
 have hm16:m<16:=by omega
 rw[<-hm];clear hm;rcases honce with h0|⟨h0,he⟩
 ·have hd0:=(hk 0).trans h0;go_enter func187,ntmps187
  go_wp2_with fail
  refine(do_first b w.heap.size (by omega) _ p0 hd0 hm1 hr1).mono ?_;rintro e w' ⟨rfl,hd⟩;have hc:=hd.ent m hm16;have hp2:=hd.grown.cell p0 (by simp;omega);clear p0 hk hr1 hm1 hd0 hmu
  go_wp2
  go_ret
  exact⟨rfl,⟨hd.room,hd.mu,.inr ⟨hd.done,hd.ent⟩⟩,grown_trans hg1 hd.grown⟩
 ·have hd0:=(hk 0).trans h0;have he1:=he.alloc hb (.cells #[.pointer (some ⟨b,0,none⟩)] 255);have hc:=he1 m hm16;go_enter func187,ntmps187
  go_wp2_with fail
  refine(do_done ⟨b,0,none⟩ _ _ hd0).mono ?_;rintro e w' ⟨rfl,rfl⟩;clear hk hmu
  go_wp2
  go_ret
  exact⟨rfl,⟨hr1,hm1,.inr ⟨hd0,he1⟩⟩,hg1⟩
end Go.Proofs.YtgkabcaodnofnaaGreat.Sb
