import Derived.Test.YtgkabcaodnofnaaGreatB36
import Derived.Test.YtgkabcaodnofnaaGreatB29
import Derived.Lib.SlBytesConst
set_option linter.unusedSimpArgs false
set_option linter.unusedVariables false
set_option maxRecDepth 100000
set_option maxHeartbeats 2000000
open Go.Proofs.Tryz
namespace Go.Md
open Go.Proofs.YtgkabcaodnofnaaGreat Go.Str
def fofK (k:Int):MM->Cm->MM×Rp×Nat :=
 if k=1 then createF else if k=2 then removeF else if k=3 then readF else if k=4 then writeF else if k=5 then noughtsF false else if k=6 then noughtsF true else if k=7 then resizeF else if k=8 then flushF
 else if k=9 then shootF else if k=10 then revertF else if k=11 then unshotF else if k<=17 then bitmapF else if k=18 then dirtyF else if k=19 then commitF else if k=20 then rebaseF else if k=21 then flattenF
 else if k=22 then exportF else if k=23 then bringF else if k=24 then checkF else if k=25 then infoF else listF
def doM (M:MM)(c:Cm):MM×Rp×Nat :=
 if c.kind<1\/26<c.kind then(M,failR 1,0)
 else if c.kind≠1/\c.kind≠26/\fnd M.all c.name=none then(M,failR 4,0)
 else doK (fofK c.kind) M c
theorem doK_quiet {F:MM->Cm->MM×Rp×Nat}(h:Quiet F){M:MM}{c:Cm}(ht:turnsI c.kind=false):(doK F M c).1=M:=by
 unfold doK;simp only;rw[if_neg (by rw[ht];simp)];exact(h M c).1
theorem doK_plain {F:MM->Cm->MM×Rp×Nat}{M:MM}{c:Cm}(ht:turnsI c.kind=false):doK F M c=F M c:=by
 unfold doK;simp only;rw[if_neg (by rw[ht];simp)]
theorem ok_doM {M:MM}(h:MOk M)(ha:(M.all.map (·.1)).Nodup)(hk:(M.kept.map (·.1)).Nodup)(c:Cm):MOk (doM M c).1:=by
 unfold doM;split
 ·exact h
 rename_i hr;split
 ·exact h
 rename_i hn;have hn':c.kind≠1->c.kind≠26->HasN M c:=fun h1 h2=>by
  unfold HasN;cases hf:fnd M.all c.name with
  | none=>exact absurd ⟨h1,h2,hf⟩ hn
  | some _=>rfl
 have hc:c.kind=1\/c.kind=2\/c.kind=3\/c.kind=4\/c.kind=5\/c.kind=6\/c.kind=7\/c.kind=8\/c.kind=9\/c.kind=10\/c.kind=11\/c.kind=12\/c.kind=13\/c.kind=14\/c.kind=15\/c.kind=16\/c.kind=17\/c.kind=18\/c.kind=19\/c.kind=20\/c.kind=21\/c.kind=22\/c.kind=23\/c.kind=24\/c.kind=25\/c.kind=26:=by omega
 have T:∀ {F:MM->Cm->MM×Rp×Nat},Turns F->c.kind≠1->c.kind≠26->turnsI c.kind=true->MOk (doK F M c).1:=fun hF h1 h2 h3=>hF.ok h (hn' h1 h2) h3;have Q:∀ {F:MM->Cm->MM×Rp×Nat},Quiet F->turnsI c.kind=false->MOk (doK F M c).1:=fun hF h3=>by rw[doK_quiet hF h3];exact h
 rcases hc with e|e|e|e|e|e|e|e|e|e|e|e|e|e|e|e|e|e|e|e|e|e|e|e|e|e
 ·rw[show fofK c.kind=createF by rw[e];rfl,doK_plain (by rw[e];rfl)];exact ok_create h ha hk c
 ·rw[show fofK c.kind=removeF by rw[e];rfl,doK_plain (by rw[e];rfl)];unfold removeF;split
  ·exact h
  ·rename_i h9;exact ok_remove h (by omega)
 ·rw[show fofK c.kind=readF by rw[e];rfl];exact Q quiet_read (by rw[e];rfl)
 ·rw[show fofK c.kind=writeF by rw[e];rfl];exact T turns_write (by omega) (by omega) (by rw[e];rfl)
 ·rw[show fofK c.kind=noughtsF false by rw[e];rfl];exact T (turns_noughts _) (by omega) (by omega) (by rw[e];rfl)
 ·rw[show fofK c.kind=noughtsF true by rw[e];rfl];exact T (turns_noughts _) (by omega) (by omega) (by rw[e];rfl)
 ·rw[show fofK c.kind=resizeF by rw[e];rfl];exact T turns_resize (by omega) (by omega) (by rw[e];rfl)
 ·rw[show fofK c.kind=flushF by rw[e];rfl,doK_plain (by rw[e];rfl)];exact ok_flushed h c.name
 ·rw[show fofK c.kind=shootF by rw[e];rfl];exact T turns_shoot (by omega) (by omega) (by rw[e];rfl)
 ·rw[show fofK c.kind=revertF by rw[e];rfl];exact T turns_revert (by omega) (by omega) (by rw[e];rfl)
 ·rw[show fofK c.kind=unshotF by rw[e];rfl];exact T turns_unshot (by omega) (by omega) (by rw[e];rfl)
 ·rw[show fofK c.kind=bitmapF by rw[e];rfl];exact T turns_bitmap (by omega) (by omega) (by rw[e];rfl)
 ·rw[show fofK c.kind=bitmapF by rw[e];rfl];exact T turns_bitmap (by omega) (by omega) (by rw[e];rfl)
 ·rw[show fofK c.kind=bitmapF by rw[e];rfl];exact T turns_bitmap (by omega) (by omega) (by rw[e];rfl)
 ·rw[show fofK c.kind=bitmapF by rw[e];rfl];exact T turns_bitmap (by omega) (by omega) (by rw[e];rfl)
 ·rw[show fofK c.kind=bitmapF by rw[e];rfl];exact T turns_bitmap (by omega) (by omega) (by rw[e];rfl)
 ·rw[show fofK c.kind=bitmapF by rw[e];rfl];exact T turns_bitmap (by omega) (by omega) (by rw[e];rfl)
 ·rw[show fofK c.kind=dirtyF by rw[e];rfl];exact Q quiet_dirty (by rw[e];rfl)
 ·rw[show fofK c.kind=commitF by rw[e];rfl,doK_plain (by rw[e];rfl)];unfold commitF;split
  ·exact h
  rename_i i hi;split
  ·exact h
  rename_i hbk;split
  ·exact h
  rename_i b hb;split
  ·exact h
  split
  ·exact h
  split
  ·exact h
  ·refine ok_commit h hi hb fun e2=>?_;obtain⟨d,_,h1,h2⟩:=dep_min hi (h.dp c.name);rw[e2] at h1;exact h2 h1
 ·rw[show fofK c.kind=rebaseF by rw[e];rfl,doK_plain (by rw[e];rfl)];exact ok_moved h (hn' (by omega) (by omega)) c.tt
 ·rw[show fofK c.kind=flattenF by rw[e];rfl,doK_plain (by rw[e];rfl)];exact ok_moved h (hn' (by omega) (by omega)) []
 ·rw[show fofK c.kind=exportF by rw[e];rfl];exact Q quiet_export (by rw[e];rfl)
 ·rw[show fofK c.kind=bringF by rw[e];rfl];exact T turns_bring (by omega) (by omega) (by rw[e];rfl)
 ·rw[show fofK c.kind=checkF by rw[e];rfl];exact Q quiet_check (by rw[e];rfl)
 ·rw[show fofK c.kind=infoF by rw[e];rfl];exact Q quiet_info (by rw[e];rfl)
 ·rw[show fofK c.kind=listF by rw[e];rfl];exact Q quiet_list (by rw[e];rfl)
theorem doK_code {F:MM->Cm->MM×Rp×Nat}{M:MM}{c:Cm}:(doK F M c).2=(F M c).2:=by
 unfold doK;simp only;split<;>rfl
theorem doK_fail {F:MM->Cm->MM×Rp×Nat}{M:MM}{c:Cm}(h:(F M c).2.1.code≠0):doK F M c=F M c:=by
 unfold doK;simp only;rw[if_neg fun h2=>h h2.1]
theorem doM_refused {M:MM}{c:Cm}(h:(doM M c).2.1.code≠0):(doM M c).1=M/\(doM M c).2.1=failR (doM M c).2.1.code/\(doM M c).2.2=0:=by
 unfold doM at h ⊢;split
 ·exact⟨rfl,rfl,rfl⟩
 rename_i hr;rw[if_neg hr] at h;split
 ·exact⟨rfl,rfl,rfl⟩
 rename_i hn;rw[if_neg hn] at h;have hn':c.kind≠1->c.kind≠26->HasN M c:=fun h1 h2=>by
  unfold HasN;cases hf:fnd M.all c.name with
  | none=>exact absurd ⟨h1,h2,hf⟩ hn
  | some _=>rfl
 rw[doK_code] at h;rw[doK_fail h];have hc:c.kind=1\/c.kind=2\/c.kind=3\/c.kind=4\/c.kind=5\/c.kind=6\/c.kind=7\/c.kind=8\/c.kind=9\/c.kind=10\/c.kind=11\/c.kind=12\/c.kind=13\/c.kind=14\/c.kind=15\/c.kind=16\/c.kind=17\/c.kind=18\/c.kind=19\/c.kind=20\/c.kind=21\/c.kind=22\/c.kind=23\/c.kind=24\/c.kind=25\/c.kind=26:=by omega
 have T:∀ {F:MM->Cm->MM×Rp×Nat},Turns F->c.kind≠1->c.kind≠26->(F M c).2.1.code≠0->(F M c).1=M/\(F M c).2.1=failR (F M c).2.1.code/\(F M c).2.2=0:=fun hF h1 h2 h3=>refuse_turns hF M c (hn' h1 h2) h3;rcases hc with e|e|e|e|e|e|e|e|e|e|e|e|e|e|e|e|e|e|e|e|e|e|e|e|e|e
 ·rw[show fofK c.kind=createF by rw[e];rfl] at h ⊢;exact refuse_create M c h
 ·rw[show fofK c.kind=removeF by rw[e];rfl] at h ⊢;exact refuse_remove M c h
 ·rw[show fofK c.kind=readF by rw[e];rfl] at h ⊢;exact refuse_read M c h
 ·rw[show fofK c.kind=writeF by rw[e];rfl] at h ⊢;exact T turns_write (by omega) (by omega) h
 ·rw[show fofK c.kind=noughtsF false by rw[e];rfl] at h ⊢;exact T (turns_noughts _) (by omega) (by omega) h
 ·rw[show fofK c.kind=noughtsF true by rw[e];rfl] at h ⊢;exact T (turns_noughts _) (by omega) (by omega) h
 ·rw[show fofK c.kind=resizeF by rw[e];rfl] at h ⊢;exact T turns_resize (by omega) (by omega) h
 ·rw[show fofK c.kind=flushF by rw[e];rfl] at h ⊢;exact refuse_flush M c h
 ·rw[show fofK c.kind=shootF by rw[e];rfl] at h ⊢;exact T turns_shoot (by omega) (by omega) h
 ·rw[show fofK c.kind=revertF by rw[e];rfl] at h ⊢;exact T turns_revert (by omega) (by omega) h
 ·rw[show fofK c.kind=unshotF by rw[e];rfl] at h ⊢;exact T turns_unshot (by omega) (by omega) h
 ·rw[show fofK c.kind=bitmapF by rw[e];rfl] at h ⊢;exact T turns_bitmap (by omega) (by omega) h
 ·rw[show fofK c.kind=bitmapF by rw[e];rfl] at h ⊢;exact T turns_bitmap (by omega) (by omega) h
 ·rw[show fofK c.kind=bitmapF by rw[e];rfl] at h ⊢;exact T turns_bitmap (by omega) (by omega) h
 ·rw[show fofK c.kind=bitmapF by rw[e];rfl] at h ⊢;exact T turns_bitmap (by omega) (by omega) h
 ·rw[show fofK c.kind=bitmapF by rw[e];rfl] at h ⊢;exact T turns_bitmap (by omega) (by omega) h
 ·rw[show fofK c.kind=bitmapF by rw[e];rfl] at h ⊢;exact T turns_bitmap (by omega) (by omega) h
 ·rw[show fofK c.kind=dirtyF by rw[e];rfl] at h ⊢;exact refuse_dirty M c h
 ·rw[show fofK c.kind=commitF by rw[e];rfl] at h ⊢;exact refuse_commit M c h
 ·rw[show fofK c.kind=rebaseF by rw[e];rfl] at h ⊢;exact refuse_mov _ M c h
 ·rw[show fofK c.kind=flattenF by rw[e];rfl] at h ⊢;exact refuse_mov _ M c h
 ·rw[show fofK c.kind=exportF by rw[e];rfl] at h ⊢;exact refuse_export M c h
 ·rw[show fofK c.kind=bringF by rw[e];rfl] at h ⊢;exact T turns_bring (by omega) (by omega) h
 ·rw[show fofK c.kind=checkF by rw[e];rfl] at h ⊢;exact refuse_check M c h
 ·rw[show fofK c.kind=infoF by rw[e];rfl] at h ⊢;exact refuse_info M c h
 ·rw[show fofK c.kind=listF by rw[e];rfl] at h ⊢;exact refuse_list M c h
def nmA:Bs:=[97]
def digs:Bs:=[48,49,50,51,52,53,54,55,56,57,97,98,99,100,101,102]
def aw1:Cm:=⟨1,nmA,[],0,0,4,[]⟩
def aw4:Cm:=⟨4,nmA,[],1,0,0,digs⟩
def aw3:Cm:=⟨3,nmA,[],1,1,0,[]⟩
def awM0:MM:=⟨[],[],fun _=>false⟩
def awI:IM:=⟨0,4,[],fun _=>none,[],[]⟩
def awM1:MM:=⟨[(nmA,awI)],[(nmA,awI)],fun m=>if m=nmA then false else false⟩
def awJ:IM:=writeI [(nmA,awI)] 8 awI 1 digs
def awM2:MM:=⟨[(nmA,awJ)],[(nmA,awI)],fun n=>if n=nmA then true else awM1.ch n⟩
theorem aw_one:createF awM0 aw1=(awM1,{},1):=by rfl
theorem aw_two:writeF awM1 aw4=({awM1 with all:=[(nmA,awJ)]},{},0):=by rfl
theorem aw_three:readF awM2 aw3=(awM2,{data:=digs},0):=by rfl
theorem MOk.one {i k:IM}{ch:Bs->Bool}(hb:i.back=[])(hk:k.back=[])(hc:∀ n,ch n=false->n=nmA->k=i)(hn:∀ n,ch n=true->n=nmA):MOk ⟨[(nmA,i)],[(nmA,k)],ch⟩:=by
 have hf:∀ (j:IM) n,fnd [(nmA,j)] n=if nmA=n then some j else none:=fun j n=>by rw[fnd_cons,fnd_nil]
 refine⟨fun n j h=>?_,fun n j h=>?_,fun n=>?_,by simp,by simp,fun n=>?_,fun n h=>?_,fun n h=>?_⟩
 ·simp only[hf] at h;split at h
  ·rename_i e;rw[<-e];rfl
  ·cases h
 ·simp only[hf] at h;split at h
  ·cases h;exact .inl hb
  ·cases h
 ·unfold dep;simp only[hf];split
  ·trivial
  ·rename_i j h;split at h
   ·cases h
    show dep [(nmA,i)] 7 i.back;have h0:fnd [(nmA,i)] []=none:=by rw[hf];rfl
    rw[hb];unfold dep;simp only[h0]
   ·cases h
 ·simp only[hf];split
  ·simp[hb,hk]
  ·rfl
 ·simp only[hf];split
  ·rename_i e;rw[hc n h e.symm]
  ·rfl
 ·simp only[hf];rw[if_pos (hn n h).symm];rfl
theorem aw_ok0:MOk awM0 where
 nm:=fun n i h=>by cases h
 bk:=fun n i h=>by cases h
 dp:=fun n=>by show dep [] 8 n;unfold dep;simp only[fnd_nil]
 le:=by simp[awM0]
 kl:=by simp[awM0]
 kb:=fun n=>rfl
 ch:=fun n _=>rfl
 cn:=fun n h=>by cases h
theorem aw_ok1:MOk awM1:=MOk.one rfl rfl (fun _ _ _=>rfl) fun n h=>by
 have h':(if n=nmA then false else false)=true:=h;simp at h'
theorem aw_ok2:MOk awM2:=MOk.one (by rfl) rfl (fun n h e=>by rw[e] at h;simp at h) fun n h=>by
 by_cases e:n=nmA
 ·exact e
 ·have h':(if n=nmA then true else(if n=nmA then false else false))=true:=h;simp[e] at h'
theorem nodup_le {l m:List Bs}:l.Nodup->(∀ x∈l,x∈m)->l.length<=m.length:=by
 induction l generalizing m with
 | nil=>intro _ _;simp
 | cons a r ih =>
  intro hn hs;rw[List.nodup_cons] at hn;have ha:=hs a (by simp);have h1:=ih (m:=m.erase a) hn.2 fun x hx=>(List.mem_erase_of_ne (by rintro rfl;exact hn.1 hx)).2 (hs x (by simp[hx]));rw[List.length_erase_of_mem ha] at h1;have:0<m.length:=List.length_pos_of_mem ha;simp only[List.length_cons];omega
end Go.Md
namespace Go.Proofs.YtgkabcaodnofnaaGreat
open Go.RowKit Go.Mx Go.Md
theorem MO.cl_le {w:World}{base mb:Nat}{M:MM}{X:MX}(h:MO w base mb M X)(hM:MOk M):X.cl.length<=16:=by
 have h1:=nodup_le (l:=X.cl.map (·.1)) (m:=M.all.map (·.1)) h.h.nodup fun n hn=>by
  obtain⟨p,hp,rfl⟩:=List.mem_map.1 hn;have h2:M.ch p.1=true:=by rw[h.hc p.1,look_of_mem h.h.nodup (show(p.1,p.2)∈X.cl from hp)];rfl
  have h3:=hM.cn _ h2;cases hf:fnd M.all p.1 with
  | none=>rw[hf] at h3;cases h3
  | some i=>exact List.mem_map.2 ⟨_,fnd_mem hf,rfl⟩
 rw[List.length_map,List.length_map] at h1;exact Nat.le_trans h1 hM.le
theorem awake_any (w:World):Calls prog 12 #[] w fun e w'=>e = .returned (.bool true)/\Below w.heap.size w w':=by
 have HN:=hid (new_any w 0 (Nat.zero_le _));go_enter func12,ntmps12
 go_upto_region 4 with(go_at_call 13;refine HN.out.mono ?_;rintro e w1 ⟨rfl,hMO1,hb1⟩)
 have HM1:=hid hMO1;have hC1:CIn w1 (MX.fp (w.heap.size+3) (newX w.heap.size [] (w.heap.size+1) [] (w.heap.size+2) [])) aw1 (.slice none 0 0):=⟨⟨none,0,rfl,by simp[aw1],by simp[maxLen],fun h=>absurd rfl h⟩,by simp[aw1,nmA],by simp[aw1],by simp[aw1]⟩
 have hD1:=do_any 36 (fun _ _=>True) createF create_any aw1 rfl (.inl rfl) (by decide) hMO1 aw_ok0 (Nat.zero_le _) (.slice none 0 0) hC1 trivial (by simp[newX]) (enters_of func36 (by kernel_rfl) rfl);have e1:doK createF awM0 aw1=(awM1,{},1):=by unfold doK;rw[aw_one];rfl
 rw[show(⟨[],[],fun _=>false⟩:MM)=awM0 from rfl,e1] at hD1;have HD1:=hid hD1;have HB1:=hid hb1;clear hMO1 hC1 hD1 hb1;go_upto_region 5 with(go_at_call 14;refine HD1.out.mono ?_;rintro e w2 ⟨r1,lv1,X2,rfl,hr1,hl1,hMO2,hfr2,hfv2,hst2⟩;obtain⟨d1,n1,s1,rfl,o1,o2,o3⟩:=hr1.ex;obtain⟨a1,a2,a3,rfl⟩:=ownB_sh o1;obtain⟨b1,b2,b3,rfl⟩:=ownG_sh o2;obtain⟨c1,c2,c3,rfl⟩:=ownG_sh o3;obtain⟨fr1,hlo,hln⟩:=hl1;obtain⟨l1,l2,l3,rfl⟩:=ownG_sh hlo)
 have hs02:w.heap.size+4<=w2.heap.size:=by
  have h1:=hst2.k.size;have h2:=blk_lt HM1.out.ck;omega
 obtain⟨w3,hw3⟩:∃ z,z=w2.alloc (.cells #[.int .i64 0,.slice a1 a2 a3,.slice b1 b2 b3,.slice c1 c2 c3,.int .i64 0,.int .i64 0] 34):=⟨_,rfl⟩
 have hb23:Below w2.heap.size w2 w3:=by rw[hw3];exact brf.alloc nlr _
 have hs3:w3.heap.size=w2.heap.size+1:=by rw[hw3];simp
 have hqa:w3.heap[w2.heap.size]? = some (.cells #[.int .i64 0,.slice a1 a2 a3,.slice b1 b2 b3,.slice c1 c2 c3,.int .i64 0,.int .i64 0] 34 (0,0)):=by rw[hw3];exact alloc_new w2 _
 rw[<-hw3];obtain⟨w4,hw4⟩:∃ z,z=w3.alloc (.cells #[.int .u8 48,.int .u8 49,.int .u8 50,.int .u8 51,.int .u8 52,.int .u8 53,.int .u8 54,.int .u8 55,.int .u8 56,.int .u8 57,.int .u8 97,.int .u8 98,.int .u8 99,.int .u8 100,.int .u8 101,.int .u8 102] 5 (16,17)):=⟨_,rfl⟩
 have kc1:(convert 23 23 (.slice (some ⟨w3.heap.size,0,none⟩) 16 16)).run prog (w3.alloc (.cells #[.int .u8 48,.int .u8 49,.int .u8 50,.int .u8 51,.int .u8 52,.int .u8 53,.int .u8 54,.int .u8 55,.int .u8 56,.int .u8 57,.int .u8 97,.int .u8 98,.int .u8 99,.int .u8 100,.int .u8 101,.int .u8 102] 5)) = .ok (.slice (some ⟨w3.heap.size,0,none⟩) 16 16) (w3.alloc (.cells #[.int .u8 48,.int .u8 49,.int .u8 50,.int .u8 51,.int .u8 52,.int .u8 53,.int .u8 54,.int .u8 55,.int .u8 56,.int .u8 57,.int .u8 97,.int .u8 98,.int .u8 99,.int .u8 100,.int .u8 101,.int .u8 102] 5 (16,17))):=Lib.run_convert_bytes_const (P:=prog) w3 23 5 #[.int .u8 48,.int .u8 49,.int .u8 50,.int .u8 51,.int .u8 52,.int .u8 53,.int .u8 54,.int .u8 55,.int .u8 56,.int .u8 57,.int .u8 97,.int .u8 98,.int .u8 99,.int .u8 100,.int .u8 101,.int .u8 102] 16 16 underlying23 underlying5
 have hb34:Below w3.heap.size w3 w4:=by rw[hw4];exact brf.alloc nlr _
 have hs4:w4.heap.size=w2.heap.size+2:=by rw[hw4];simp[hs3]
 have hqd:w4.heap[w3.heap.size]? = some (.cells (digs.map u8).toArray 5 (16,17)):=by rw[hw4];exact alloc_new w3 _
 have hb24:Below w2.heap.size w2 w4:=hb23.trans (hb34.mono (by omega));have hMO4:=hMO2.below hb24;have hlt2:=hMO2.lt;have hC4:CIn w4 (X2.fp (w.heap.size+3)) aw4 (.slice (some ⟨w3.heap.size,0,none⟩) 16 16):=by
  refine⟨⟨some ⟨w3.heap.size,0,none⟩,16,rfl,by simp[aw4,digs],by simp[maxLen],fun _=>⟨w3.heap.size,0,rfl,by omega,fun hm=>by have:=hlt2 _ hm;omega,fun i hi=>?_⟩⟩,by simp[aw4,nmA],by simp[aw4],by simp[aw4,digs]⟩;have hi':i<digs.length:=hi;simp only[World.cell?,hqd];simp[hi'];show _=(((digs[i]?).getD 0).toNat:Int)
  rw[List.getElem?_eq_getElem hi'];rfl
 have hD4:=do_any 39 HasN writeF writes_any aw4 rfl (.inr (.inr rfl)) (by decide) hMO4 aw_ok1 (Nat.zero_le _) _ hC4 rfl (Nat.le_trans (hMO4.cl_le aw_ok1) (by omega)) (enters_of func39 (by kernel_rfl) rfl);have e4:doK writeF awM1 aw4=(awM2,{},0):=by unfold doK;rw[aw_two];rfl
 rw[e4] at hD4;have HD4:=hid hD4;have hbase2:Below w.heap.size w w2:=HB1.out.trans (hst2.below (fun b hb=>by
  rcases newX_fp hb with e|e|e|e
  ·omega
  ·omega
  ·simp[fpA] at e;omega
  ·simp[fpA] at e;omega) HB1.out.size)
 have H2:=jd9 hbase2 hr1 hlo hln hb23 hs3 hqa hb34 (And.intro hs4 (And.intro hb24 (And.intro hs02 hlt2)));have HF2:=hid (fun(b:Nat) (hb:b∈X2.fp (w.heap.size+3))=>(show w.heap.size<=b from(hst2.n b hb).elim (fun h=>by
  rcases newX_fp h with e|e|e|e
  ·omega
  ·omega
  ·simp[fpA] at e;omega
  ·simp[fpA] at e;omega) (fun h=>Nat.le_trans HB1.out.size h)))
 have HW4:=hid hw4;clear hbase2 hr1 hlo hln hb23 hs3 hqa hb34 hs4 hb24 hs02 hlt2 hMO4 hMO2 hC4 hD4 hqd hw3 hst2 o1 o2 o3 hfr2 hfv2 HD1;go_upto_region 6 with(go_at_call 14;rw[<-HW4.out];refine HD4.out.mono ?_;rintro e w5 ⟨r4,lv4,X5,rfl,hr4,hl4,hMO5,hfr5,hfv5,hst5⟩;obtain⟨d4,n4,s4,rfl,p1,p2,p3⟩:=hr4.ex;obtain⟨f1,f2,f3,rfl⟩:=ownB_sh p1;obtain⟨g1,g2,g3,rfl⟩:=ownG_sh p2;obtain⟨i1,i2,i3,rfl⟩:=ownG_sh p3;obtain⟨fr4,hlo4,hln4⟩:=hl4;obtain⟨j1,j2,j3,rfl⟩:=ownG_sh hlo4)
 obtain⟨w6,hw6⟩:∃ z,z=w5.alloc (.cells #[.int .i64 0,.slice f1 f2 f3,.slice g1 g2 g3,.slice i1 i2 i3,.int .i64 0,.int .i64 0] 34):=⟨_,rfl⟩
 have hb56:Below w5.heap.size w5 w6:=by rw[hw6];exact brf.alloc nlr _
 have hs6:w6.heap.size=w5.heap.size+1:=by rw[hw6];simp
 have hqb:w6.heap[w5.heap.size]? = some (.cells #[.int .i64 0,.slice f1 f2 f3,.slice g1 g2 g3,.slice i1 i2 i3,.int .i64 0,.int .i64 0] 34 (0,0)):=by rw[hw6];exact alloc_new w5 _
 have hMO6:=hMO5.below hb56;have hC6:CIn w6 (X5.fp (w.heap.size+3)) aw3 (.slice none 0 0):=⟨⟨none,0,rfl,by simp[aw3],by simp[maxLen],fun h=>absurd rfl h⟩,by simp[aw3,nmA],by simp[aw3],by simp[aw3]⟩
 have hD6:=do_any 38 HasN readF read_any aw3 rfl (.inr (.inr rfl)) (by decide) hMO6 aw_ok2 (Nat.zero_le _) _ hC6 rfl (Nat.le_trans (hMO6.cl_le aw_ok2) (by omega)) (enters_of func38 (by kernel_rfl) rfl);have e6:doK readF awM2 aw3=(awM2,{data:=digs},0):=by unfold doK;rw[aw_three];rfl
 rw[e6] at hD6;have HD6:=hid hD6;have H5:=jd5 hst5 hb56 hs6 hqb hMO5.lt;have HW6:=hid hw6;clear hst5 hb56 hs6 hqb hMO6 hMO5 hC6 hD6 hr4 hlo4 hln4 p1 p2 p3 hfr5 hfv5 HD4 kc1;rw[<-hw6];clear hw6;go_upto_region 7 with(go_at_call 14;refine HD6.out.mono ?_;rintro e w7 ⟨r6,lv6,X7,rfl,hr6,hl6,hMO7,hfr7,hfv7,hst7⟩;obtain⟨d6,n6,s6,rfl,p1,p2,p3⟩:=hr6.ex;obtain⟨q1,q2,q3,rfl⟩:=ownB_sh p1;obtain⟨t1,t2,t3,rfl⟩:=ownG_sh p2;obtain⟨v1,v2,v3,rfl⟩:=ownG_sh p3;obtain⟨fr6,hlo6,hln6⟩:=hl6;obtain⟨y1,y2,y3,rfl⟩:=ownG_sh hlo6)
 obtain⟨w8,hw8⟩:∃ z,z=w7.alloc (.cells #[.int .i64 0,.slice q1 q2 q3,.slice t1 t2 t3,.slice v1 v2 v3,.int .i64 0,.int .i64 0] 34):=⟨_,rfl⟩
 have hb78:Below w7.heap.size w7 w8:=by rw[hw8];exact brf.alloc nlr _
 have hqc:w8.heap[w7.heap.size]? = some (.cells #[.int .i64 0,.slice q1 q2 q3,.slice t1 t2 t3,.slice v1 v2 v3,.int .i64 0,.int .i64 0] 34 (0,0)):=by rw[hw8];exact alloc_new w7 _
 rw[<-hw8];obtain⟨hbase2,hr1,hlo,hln,hb23,hs3,hqa,hb34,hs4,hb24,hs02,hlt2⟩:=H2.out;obtain⟨hst5,hb56,hs6,hqb,hlt5⟩:=H5.out;have hs45:w4.heap.size<=w5.heap.size:=hst5.k.size;have hs67:w6.heap.size<=w7.heap.size:=hst7.k.size;have na5:w2.heap.size∉X5.fp (w.heap.size+3):=fun hm=>(hst5.n _ hm).elim (fun h=>by have:=hlt2 _ h;omega) (fun h=>by omega);have ha4:=(hb34.block w2.heap.size (by omega)).trans hqa;have ha5:=(hst5.k.block w2.heap.size (by omega) (fun hm=>by have:=hlt2 _ hm;omega)).trans ha4;have ha6:=(hb56.block w2.heap.size (by omega)).trans ha5;have ha7:=(hst7.k.block w2.heap.size (by omega) na5).trans ha6;have ha8:=(hb78.block w2.heap.size (by omega)).trans ha7;have hb7:=(hst7.k.block w5.heap.size (by omega) (fun hm=>by have:=hlt5 _ hm;omega)).trans hqb;have hb8:=(hb78.block w5.heap.size (by omega)).trans hb7
 have z0:w8.cell? ⟨w2.heap.size,0,none⟩=some (.int .i64 0):=by simp[World.cell?,ha8]
 have z1:w8.cell? ⟨w5.heap.size,0,none⟩=some (.int .i64 0):=by simp[World.cell?,hb8]
 have z2:w8.cell? ⟨w7.heap.size,0,none⟩=some (.int .i64 0):=by simp[World.cell?,hqc]
 have z3:w8.cell? ⟨w7.heap.size,1,none⟩=some (.slice q1 q2 q3):=by simp[World.cell?,hqc]
 have hl2:l2=1:=by
  rcases hlo.shape with⟨he,h2⟩|⟨g,c,he,_⟩
  ·have:=congrArg List.length h2;rw[List.length_map,hln] at this;cases this
  ·cases he;rw[List.length_map,hln]
 subst hl2;have hcv:=conv_sl (P:=prog) (src:=23) (dst:=9) (e:=5) underlying23 underlying5 underlying9 (p1.slB.below hb78 nlr);have hlen:∀ w',(Builtin.len_ #[35] 3 #[.slice l1 1 l3]).run prog w' = .ok (.int .i64 ((1:Nat):Int)) w':=fun w'=>len_sl underlying35 rfl w';have hF2:∀ b∈X2.fp (w.heap.size+3),w.heap.size<=b:=fun b hb=>HF2.out b hb;have hF5:∀ b∈X5.fp (w.heap.size+3),w.heap.size<=b:=fun b hb=>(hst5.n b hb).elim (hF2 b) (fun h=>by omega);have hall:Below w.heap.size w w8:=((((hbase2.trans (hb24.mono (by omega))).trans (hst5.below hF2 (by omega))).trans (hb56.mono (by omega))).trans (hst7.below hF5 (by omega))).trans (hb78.mono (by omega));have HALL:=hid hall;have hdg:(⟨digs.toArray⟩:ByteArray)=⟨#[48,49,50,51,52,53,54,55,56,57,97,98,99,100,101,102]⟩:=rfl;rw[hdg] at hcv
 clear hall hF2 hF5 hbase2 hr1 hlo hln hb23 hs3 hqa hb34 hs4 hb24 hs02 hlt2 hst5 hb56 hs6 hqb hlt5 hs45 hs67 na5 ha4 ha5 ha6 ha7 ha8 hb7 hb8 hdg hw8 hqc hb78 p1 p2 p3 hr6 hlo6 hln6 hMO7 hfr7 hfv7 hst7 H2 H5 HW6 HW4 HD6
 go_wp2_with fail
 go_ret
 exact⟨by simp,HALL.out⟩
end Go.Proofs.YtgkabcaodnofnaaGreat
