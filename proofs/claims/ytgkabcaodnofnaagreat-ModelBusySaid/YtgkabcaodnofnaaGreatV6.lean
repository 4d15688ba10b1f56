import Derived.Test.YtgkabcaodnofnaaGreatB43
import Derived.Test.YtgkabcaodnofnaaGreatB45
import Derived.Test.YtgkabcaodnofnaaGreatB02
import Derived.SizedLaws
import Derived.Deep.CutBlock
set_option linter.unusedSimpArgs false
set_option linter.unusedVariables false
set_option maxRecDepth 100000
set_option maxHeartbeats 3000000
open Go.Proofs.Tryz
namespace Go.Proofs.YtgkabcaodnofnaaGreat
open Go.RowKit Go.Mx Go.Md
variable {w0 w w':World}{base mb:Nat}{M:MM}{X:MX}
theorem led_any {W:World}{v:Value}{gs:List (Cm×Value)}(hs:SlC w0 v gs)(hb:Below w0.heap.size w0 W)(hf:FitAll gs)(hw:∀ g∈gs,(Lit.int .i64 g.1.kind).wf=true)(hbase:base<=w0.heap.size) :
  Calls prog 18 #[v] W fun e w'=>∃ mb X,e = .returned (pt mb)/\Stt w0 w' base mb (ledF M0 (gs.map (·.1))) X:=by
 have hla:=fun w'=>hs.o.len (P:=prog) (t:=22) (ty:=3) underlying22 w';obtain⟨n,hn⟩:∃ n,n=gs.length:=⟨_,rfl⟩
 rw[List.length_map,<-hn] at hla;have hn80:n<=80:=by rw[hn];exact hf.1
 have HN:=hid (stt_new w0 W base hb hbase);have hq:∀ mb (w':World),(binOp .eql 28 (pt mb) (.pointer none)).run prog w' = .ok (.bool false) w':=fun mb w'=>by simp[go_sem]
 have H:=jd4 hs hf hw hn;clear hs hb hf hw hbase hn;go_enter func18,ntmps18
 go_upto_region 5 with(go_at_call 13;refine HN.out.mono ?_;rintro e w1 ⟨mb,X1,rfl,hS1⟩)
 have HS1:=hid hS1;clear hS1
 go_loopw [4] (fun s4 wr=>∃ i:Nat,s4 = .int .i64 i/\i<=n/\Hid (∃ X,Stt w0 wr base mb (ledF M0 ((gs.take i).map (·.1))) X)) (fun s4 _=>n-(intOf s4).toNat)
 case atStart=>exact⟨0,rfl,Nat.zero_le _,hid ⟨X1,HS1.out⟩⟩
 case round =>
  obtain⟨i,rfl,hi,hR⟩:=hrel;obtain⟨wO,hwO⟩:∃ q,q=wr:=⟨_,rfl⟩
  subst hwO;obtain⟨X2,hS⟩:=hR.out;by_cases hlt:i<n
  ·have hig:i<gs.length:=by rw[<-H.out.2.2.2];exact hlt
   obtain⟨g,hg⟩:∃ g,g=gs[i]:=⟨_,rfl⟩
   have hgm:g∈gs:=by rw[hg];exact List.getElem_mem _
   have hgi:gs[i]? = some g:=by rw[List.getElem?_eq_getElem hig,hg]
   obtain⟨bb,bo,hia,hrow⟩:=slG_addrs H.out.1.o (t:=22) underlying22 size25 i (by rw[List.length_map];exact hig);rw[show(gs.map crow).getD i []=crow g by rw[List.getD_eq_getElem?_getD,List.getElem?_map,hgi];rfl] at hrow;obtain⟨da,dn,dc,hdv⟩:=slB_shape (H.out.1.d g hgm);have hds:=H.out.1.d g hgm;rw[hdv] at hds;have r0:wO.cell? ⟨bb,bo,none⟩=some (.int .i64 g.1.kind):=by have:=hrow wO hS.b 0 _ rfl;simpa using this
   have r1:wO.cell? ⟨bb,bo+1,none⟩=some (str g.1.name):=hrow wO hS.b 1 _ rfl;have r2:wO.cell? ⟨bb,bo+2,none⟩=some (str g.1.tt):=hrow wO hS.b 2 _ rfl;have r3:wO.cell? ⟨bb,bo+3,none⟩=some (.int .i64 g.1.a):=hrow wO hS.b 3 _ rfl;have r4:wO.cell? ⟨bb,bo+4,none⟩=some (.int .i64 g.1.n):=hrow wO hS.b 4 _ rfl;have r5:wO.cell? ⟨bb,bo+5,none⟩=some (.int .i64 g.1.m):=hrow wO hS.b 5 _ rfl;have r6:wO.cell? ⟨bb,bo+6,none⟩=some (.slice da dn dc):=hrow wO hS.b 6 _ (by simp[hdv]);have HD:=hid (hS.step g.1 (.slice da dn dc) hds (H.out.2.1.2 g hgm) (H.out.2.2.1 g hgm));have HG:=hid hgi;clear hig hg hgm hgi hrow hdv hds hS
   go_wp2_with (go_at_call 14;refine HD.out.mono ?_;rintro e w5 ⟨r5v,lv5,X5,rfl,_,_,hS5,_⟩;have HS5:=hid hS5;clear hS5)
   go_roundw
   case measure=>simp only[intOf];omega
   case rel=>exact⟨i+1,by go_num,by omega,hid ⟨X5,by rw[ledF_take HG.out];exact HS5.out⟩⟩
  ·obtain rfl:i=n:=by omega
   have HS:=hid hS;clear hS
   go_wp2_with fail
   go_ret
   exact⟨mb,X2,rfl,by have h9:=HS.out;rw[List.take_of_length_le (by rw[<-H.out.2.2.2];exact Nat.le_refl _)] at h9;exact h9⟩
end Go.Proofs.YtgkabcaodnofnaaGreat
namespace Go.Md
open Go.Proofs.YtgkabcaodnofnaaGreat
def secL (L:Bs)(j:Nat):Bs:=(L.drop (16*j)).take 16
theorem secL_secs {f:Nat->Bs}(hf:∀ s,(f s).length=16){a n j:Nat}(h:j<n):secL (secs f a n) j=f (a+j):=by
 obtain⟨r,rfl⟩:∃ r,n=j+(1+r):=⟨n-j-1,by omega⟩
 unfold secL;rw[secs_add f j a (1+r),List.drop_left' (secs_len hf j a),secs_add f 1 (a+j) r,List.take_left' (secs_len hf 1 (a+j))];simp[secs]
theorem viewN_name (S:IL)(n:Bs):(viewN S n).name=n:=by unfold viewN;split<;>rfl
theorem viewN_data {S:IL}{n:Bs}{i:IM}(hf:fnd S n=some i):(viewN S n).data=secs (secIn S 8 i i.size i.own) 0 i.size:=by unfold viewN;rw[hf];rfl
end Go.Md
namespace Go.Proofs.YtgkabcaodnofnaaGreat
open Go.RowKit Go.Mx Go.Md
variable {w0 w w':World}{base mb:Nat}{M:MM}{X:MX}
theorem Stt.oks (h:Stt w0 w base mb M X):∀ n i,fnd M.all n=some i->IOk i:=h.mo.a.oks
theorem VS.len {lo bs:Nat}{v:Value}{vs:List VW}(h:VS w lo bs v vs):∃ va vc,v = .slice va vs.length vc:=by
 obtain⟨gs,rfl,ho,_⟩:=h;rw[List.length_map];rcases ho.shape with⟨h2,h3⟩|⟨q,cc,h2,_⟩
 ·have h3:gs=[]:=by simpa using h3
  subst h3;exact⟨_,_,h2⟩
 ·rw[List.length_map] at h2;exact⟨_,_,h2⟩
theorem VS.row {lo bs:Nat}{v:Value}{vs:List VW}(h:VS w lo bs v vs)(i:Nat)(hi:i<vs.length) :
  ∃ b o dv sv mv,(∀ w' (k:IntKind),(Instr.indexAt 38 v (.int k (i:Int))).run prog w' = .ok (.pointer (some ⟨b,o,none⟩)) w')/\OwnB w lo 5 dv vs[i].data/\
   ∀ w',Below w.heap.size w w'->∀ j u,([str vs[i].name,.int .i64 vs[i].cl,str vs[i].back,dv,sv,mv]:List Value)[j]? = some u->w'.cell? ⟨b,o+j,none⟩=some u:=by
 obtain⟨gs,rfl,ho,hin⟩:=h;have hi':i<gs.length:=by simpa using hi
 obtain⟨b,o,h1,h2⟩:=slG_addrs ho.slG (t:=38) underlying38 size45 i (by rw[List.length_map];exact hi');rw[show(gs.map vrow).getD i []=vrow gs[i] by rw[List.getD_eq_getElem?_getD,List.getElem?_map,List.getElem?_eq_getElem hi'];rfl] at h2;have e:(gs.map (·.v))[i]=gs[i].v:=List.getElem_map ..;exact⟨b,o,gs[i].dv,gs[i].sv,gs[i].mv,h1,by rw[e];exact(hin _ (List.getElem_mem hi')).d,fun w' hB j u hu=>h2 w' hB j u (by rw[e] at hu;exact hu)⟩
theorem views_at {S:IL}{k:Nat}(hk:k<(viewsM S).length):∃ n i,(namesM S)[k]? = some n/\fnd S n=some i/\(viewsM S)[k]=viewN S n/\(viewsM S)[k].name=n:=by
 unfold viewsM at hk ⊢;rw[List.length_map] at hk;obtain⟨n,hn⟩:∃ n,(namesM S)[k]? = some n:=⟨_,List.getElem?_eq_getElem hk⟩
 obtain⟨i,hi⟩:=Option.isSome_iff_exists.1 (names_some hn);have e:((namesM S).map (viewN S))[k]'(by rw[List.length_map];exact hk)=viewN S n:=by
  rw[List.getElem_map];congr 1;rw[List.getElem?_eq_getElem hk] at hn;exact Option.some.inj hn
 exact⟨n,i,hn,hi,e,by rw[e];exact viewN_name S n⟩
theorem views_len16 (h:Stt w0 w base mb M X):(viewsM M.all).length<=16:=by
 unfold viewsM namesM sortN;rw[List.length_map,List.length_mergeSort,List.length_map];exact h.ok.le
end Go.Proofs.YtgkabcaodnofnaaGreat
namespace Go.Proofs.YtgkabcaodnofnaaGreat
open Go.ChangeShapes Go.WideShapes Go.ChangeAt Go.RowKit Go.Deep Go.Mx Go.Md
set_option linter.unusedVariables false
set_option linter.unusedSimpArgs false
theorem info25:(prog.info? 25).map (fun i=>(i.zero,i.size,i.bytes))=some (some (.agg #[.int .i64 0,.string ⟨#[]⟩,.string ⟨#[]⟩,.int .i64 0,.int .i64 0,.int .i64 0,.slice none 0 0]),7,88):=by kernel_rfl
theorem ownG_empty (w:World)(e:TypeId)(s:Nat):OwnG (w.alloc (.cells #[] e)) w.heap.size e s (.slice (some ⟨w.heap.size,0,none⟩) 0 0) [] :=
 ⟨World.ownsRow_made w #[] 0 (Nat.le_refl _) (by simp[maxLen]) (by simp),by simp⟩
theorem crow_one {g:Cm×Value}(h:∃ a n c,g.2 = .slice a n c):∀ u∈crow g,u.oneCell'=true:=by
 obtain⟨a,n,c,h⟩:=h;intro u hu;simp only[crow,h,List.mem_cons,List.not_mem_nil,or_false] at hu;rcases hu with rfl|rfl|rfl|rfl|rfl|rfl|rfl<;>rfl
theorem crow_ones {w:World}{v:Value}{gs:List (Cm×Value)}(hs:SlC w v gs):∀ r∈gs.map crow,∀ u∈r,u.oneCell'=true:=by
 intro r hr;obtain⟨g,hg,rfl⟩:=List.mem_map.1 hr;exact crow_one (slB_shape (hs.d g hg))
theorem crow_lens (gs:List (Cm×Value)):∀ r∈gs.map crow,r.length=7:=by
 intro r hr;obtain⟨g,_,rfl⟩:=List.mem_map.1 hr;rfl
theorem slc_app {W w:World}{v v':Value}{gs:List (Cm×Value)}{g:Cm×Value}(hs:SlC W v gs)(hb:Below W.heap.size W w)(hd:SlB W W.heap.size g.2 g.1.data){b:Nat}(ho:OwnG w b 25 7 v' (gs.map crow++[crow g])):SlC w v' (gs++[g]) :=
 ⟨by rw[List.map_append];exact ho.slG,fun q hq=>by
  rcases List.mem_append.1 hq with h|h
  ·exact((hs.d q h).below hb (Nat.le_refl _)).mono hb.size
  ·obtain rfl:q=g:=by simpa using h
   exact(hd.below hb (Nat.le_refl _)).mono hb.size⟩
theorem fit_app {gs:List (Cm×Value)}{g:Cm×Value}(h:FitAll (gs++[g])):FitAll gs/\Fit g.1 :=
 ⟨⟨by have:=h.1;simp at this;omega,fun q hq=>h.2 q (by simp[hq])⟩,h.2 g (by simp)⟩
theorem cmd_of2 {H:Type}{enc:TypeId×Value->H}{w:World}{base:Nat}{spare:Nat->Bool}{held:Bool}{r:Reach}{b0:Nat}{v:Value}{d:DataW H}{p:List MemPlace}(hv:Value.okWide prog w r b0 25 v)(h:DataW.Trod enc prog w base spare held 25 v d p) :
  ∃ (c:Cm) (dv:Value),v=cmV c dv/\SlB w w.heap.size dv c.data/\(Lit.int .i64 c.kind).wf=true:=by
 obtain⟨cs,rfl,hsz⟩:=okWide_struct underlying25 hv;obtain⟨l⟩:=cs;obtain⟨fuel,hf⟩:=h;have hf':DataW.trod enc prog w base spare held fuel 25 l=some (d,p):=hf;obtain⟨g,rfl,h1,h2⟩:=crow_of hf';exact⟨g.1,g.2,rfl,h1,h2⟩
theorem SlC.at {W:World}{v:Value}{gs:List (Cm×Value)}(hs:SlC W v gs){i:Nat}{g:Cm×Value}(hg:gs[i]? = some g):∃ bb bo da dn dc,(∀ w' (k:IntKind),(Instr.indexAt 22 v (.int k (i:Int))).run prog w' = .ok (.pointer (some ⟨bb,bo,none⟩)) w')/\SlB W W.heap.size (.slice da dn dc) g.1.data/\
  ∀ w',Below W.heap.size W w'->w'.cell? ⟨bb,bo,none⟩=some (.int .i64 g.1.kind)/\w'.cell? ⟨bb,bo+1,none⟩=some (str g.1.name)/\w'.cell? ⟨bb,bo+2,none⟩=some (str g.1.tt)/\w'.cell? ⟨bb,bo+3,none⟩=some (.int .i64 g.1.a)/\w'.cell? ⟨bb,bo+4,none⟩=some (.int .i64 g.1.n)/\w'.cell? ⟨bb,bo+5,none⟩=some (.int .i64 g.1.m)/\w'.cell? ⟨bb,bo+6,none⟩=some (.slice da dn dc):=by
 obtain⟨hi,rfl⟩:=List.getElem?_eq_some_iff.1 hg;have hgm:gs[i]∈gs:=List.getElem_mem _;obtain⟨bb,bo,hia,hrow⟩:=slG_addrs hs.o (t:=22) underlying22 size25 i (by rw[List.length_map];exact hi);rw[show(gs.map crow).getD i []=crow gs[i] by rw[List.getD_eq_getElem?_getD,List.getElem?_map,hg];rfl] at hrow;obtain⟨da,dn,dc,hdv⟩:=slB_shape (hs.d _ hgm);have hds:=hs.d _ hgm;rw[hdv] at hds;exact⟨bb,bo,da,dn,dc,hia,hds,fun w' hb=>⟨by have:=hrow w' hb 0 _ rfl;simpa using this,hrow w' hb 1 _ rfl,hrow w' hb 2 _ rfl,hrow w' hb 3 _ rfl,hrow w' hb 4 _ rfl,hrow w' hb 5 _ rfl,hrow w' hb 6 _ (by simp[hdv])⟩⟩
end Go.Proofs.YtgkabcaodnofnaaGreat
namespace Go.Proofs.YtgkabcaodnofnaaGreat
open Go.ChangeShapes Go.WideShapes Go.ChangeAt Go.RowKit Go.Deep Go.Mx Go.Md
theorem bytes25:prog.bytesOf 25=88:=by kernel_rfl
theorem len_slice {H:Type}{enc:TypeId×Value->H}{w W:World}{base:Nat}{spare:Nat->Bool}{held:Bool}{v:Value}{d:DataW H}{p:List MemPlace}{gs:List (Cm×Value)}(hs:SlC W v gs)
  (h:DataW.Trod enc prog w base spare held 22 v d p):gs.length=0\/∃ elems sp,d = .slice elems sp/\elems.length=gs.length:=by
 obtain⟨oa,cap,rfl,_⟩:=hs.o;rw[List.length_map] at h;obtain⟨fuel,hf⟩:=h;rcases open_slice underlying22 hf with⟨hcs,_⟩|⟨a,len,cap',m,n,D,Pl,hcs,_,_,_,_,hx,_⟩
 ·simp[Value.cells] at hcs;exact .inl (by rw[hcs.2.1];rfl)
 ·simp[Value.cells] at hcs;simp only[Prod.mk.injEq] at hx;exact .inr ⟨_,_,hx.1,by rw[List.length_map,List.length_range];exact hcs.2.1.symm⟩
end Go.Proofs.YtgkabcaodnofnaaGreat
namespace Go.Md
open Go.Proofs.YtgkabcaodnofnaaGreat
def Shown (S T:IL):Prop:=∀ n i,fnd S n=some i->∃ j,fnd T n=some j/\j.size=i.size/\∀ s,s<i.size->secIn T 8 j j.size j.own s=secIn S 8 i i.size i.own s
theorem Shown.refl (S:IL):Shown S S:=fun n i h=>⟨i,h,rfl,fun _ _=>rfl⟩
theorem Shown.trans {S T U:IL}(h:Shown S T)(h2:Shown T U):Shown S U:=fun n i hi=>by
 obtain⟨j,h3,h4,h5⟩:=h n i hi;obtain⟨k,h6,h7,h8⟩:=h2 n j h3;exact⟨k,h6,h7.trans h4,fun s hs=>(h8 s (by omega)).trans (h5 s hs)⟩
theorem Shown.data {S T:IL}(h:Shown S T){n:Bs}{i:IM}(hf:fnd S n=some i):(viewN T n).data=(viewN S n).data:=by
 obtain⟨j,h1,h2,h3⟩:=h n i hf;rw[viewN_data h1,viewN_data hf];rw[h2] at h3 ⊢;exact secs_congr _ _ fun s _ hs=>h3 s (by omega)
def core (i:IM):Nat×Nat×Bs×(Nat->Option Bs):=(i.cl,i.size,i.back,i.own)
theorem core_some {S T:IL}(h:∀ m,(fnd T m).map core=(fnd S m).map core){m:Bs}{i:IM}(hi:fnd S m=some i):∃ j,fnd T m=some j/\j.cl=i.cl/\j.size=i.size/\j.back=i.back/\j.own=i.own:=by
 have h1:=h m;rw[hi] at h1;obtain⟨j,hj,e⟩:=Option.map_eq_some_iff.1 h1;simp only[core,Prod.mk.injEq] at e;exact⟨j,hj,e⟩
theorem secOf_core {S T:IL}(h:∀ m,(fnd T m).map core=(fnd S m).map core):∀ (d:Nat) (m:Bs) (s:Nat),secOf T d m s=secOf S d m s
 | 0,_,_=>rfl
 | d+1,m,s=>by
  unfold secOf;cases hS:fnd S m with
  | none =>
   have h1:=h m;rw[hS] at h1;rw[show fnd T m=none by simpa using h1]
  | some i =>
   obtain⟨j,hj,e1,e2,e3,e4⟩:=core_some h hS;rw[hj];simp only[e1,e2,e3,e4];rw[secOf_core h d i.back s]
theorem Shown.core {S T:IL}(h:∀ m,(fnd T m).map core=(fnd S m).map core):Shown S T:=fun n i hi=>by
 obtain⟨j,hj,e1,e2,e3,e4⟩:=core_some h hi;refine⟨j,hj,e2,fun s hs=>?_⟩;unfold secIn;rw[e1,e2,e3,e4,secOf_core h]
theorem core_set {S:IL}{n:Bs}{i i':IM}(hf:fnd S n=some i)(hc:core i'=core i):∀ m,(fnd (setI S n i') m).map core=(fnd S m).map core:=fun m=>by
 rw[fnd_setI];split
 ·rename_i e;subst e;rw[hf];simp[hc]
 ·rfl
theorem secOf_in {S:IL}{m:Bs}{i:IM}(hd:dep S 8 m)(hf:fnd S m=some i)(s:Nat):secOf S 8 m s=secIn S 8 i i.size i.own s:=by
 rw[<-secOf_deep hd 9 (by omega) s];show secOf S (8+1) m s=_;unfold secOf secIn;rw[hf]
theorem mov_shown {S:IL}(hS:∀ n i,fnd S n=some i->IOk i){n tg:Bs}{i:IM}(hf:fnd S n=some i)(hd:∀ m,dep S 8 m)(hd':∀ m,dep (setI S n (movI S i tg)) 8 m):Shown S (setI S n (movI S i tg)):=by
 obtain⟨i',hi'⟩:∃ i',i'=movI S i tg:=⟨_,rfl⟩
 rw[<-hi'] at hd' ⊢;have e1:i'.cl=i.cl:=by rw[hi'];rfl
 have e2:i'.size=i.size:=by rw[hi'];rfl
 have e3:i'.back=tg:=by rw[hi'];rfl
 have e4:i'.own=fillO i.cl (fun a c=>secs (secOf S 8 i.back) a c) (fun a c=>secs (secOf S 8 tg) a c) i.own (i.size/2^i.cl):=by rw[hi'];rfl
 have hok:=hS n i hf;have hlen:∀ m s,(secOf S 8 m s).length=16:=fun m s=>secOf_len (fun n i h=>⟨_,(hS n i h).own⟩) 8 m s;obtain⟨S',hS'⟩:∃ S',S'=setI S n i':=⟨_,rfl⟩
 have hfn:fnd S' n=some i':=by rw[hS',fnd_setI,if_pos rfl]
 have hoth:∀ m,m≠n->fnd S' m=fnd S m:=fun m hm=>by rw[hS',fnd_setI,if_neg hm]
 rw[<-hS'] at hd' ⊢;have htg:∀ s,secOf S 8 tg s=secOf S' 8 tg s:=fun s=>by
  have:=secOf_back (S:=S') (S':=S) (n:=n) (i:=i') (fun m hm=>(hoth m hm).symm) hfn (hd' n) s;rw[e3] at this;exact this
 have hone:∀ s,secIn S' 8 i' i'.size i'.own s=secIn S 8 i i.size i.own s:=by
  intro s;unfold secIn;rw[e2];by_cases hs:s<i.size
  ·rw[if_pos hs,if_pos hs,e1,e3,e4];obtain⟨W,hW⟩:∃ W,W=2^i.cl:=⟨_,rfl⟩
   have hW0:0<W:=by rw[hW];exact Nat.two_pow_pos _
   have hwh:=hok.whole;rw[<-hW] at hwh ⊢;have hmz:W*(i.size/W)=i.size:=by have:=Nat.div_add_mod i.size W;omega
   have hlt:s/W<i.size/W:=by
    rcases Nat.lt_or_ge (s/W) (i.size/W) with h|h
    ·exact h
    ·have h1:=Nat.mul_le_mul_left W h;have h2:=Nat.div_add_mod s W;omega
   have hms:s%W<W:=Nat.mod_lt _ hW0;have hsd:s/W*W+s%W=s:=by have:=Nat.div_add_mod s W;rw[Nat.mul_comm] at this;exact this
   unfold fillO;cases ho:i.own (s/W) with
   | some b=>simp[ho]
   | none =>
    rw[<-hW];have k1:∀ m,secL (secs (secOf S 8 m) (s/W*W) W) (s%W)=secOf S 8 m s:=fun m=>by rw[secL_secs (hlen m) hms,hsd]
    by_cases hu:secs (secOf S 8 i.back) (s/W*W) W≠secs (secOf S 8 tg) (s/W*W) W
    ·rw[if_pos ⟨hlt,rfl,hu⟩];simp only;have:=k1 i.back;unfold secL at this;rw[Nat.mul_comm (s%W) 16];exact this
    ·rw[if_neg (fun h=>hu h.2.2)];simp only;have hu:secs (secOf S 8 i.back) (s/W*W) W=secs (secOf S 8 tg) (s/W*W) W:=Decidable.not_not.1 hu;rw[<-htg,<-k1 tg,<-hu,k1]
  ·rw[if_neg hs,if_neg hs]
 have key:∀ (e:Nat) (m:Bs) (s:Nat),dep S' e m->secOf S' 8 m s=secOf S 8 m s:=by
  intro e
  induction e with
  | zero =>
   intro m s hm;have h1:fnd S' m=none:=hm;have hmn:m≠n:=by rintro rfl;rw[hfn] at h1;cases h1
   have h2:fnd S m=none:=by rw[<-hoth m hmn];exact h1
   show secOf S' (7+1) m s=secOf S (7+1) m s;unfold secOf;rw[h1,h2]
  | succ e ih =>
   intro m s hm;cases hfm:fnd S' m with
   | none=>exact ih m s (by
     cases e with
     | zero=>exact hfm
     | succ e=>unfold dep;rw[hfm];trivial)
   | some j =>
    by_cases hmn:m=n
    ·subst hmn;rw[hfn] at hfm;cases hfm;rw[secOf_in (hd' m) hfn,secOf_in (hd m) hf,hone]
    ·have h2:fnd S m=some j:=by rw[<-hoth m hmn];exact hfm
     rw[secOf_in (hd' m) hfm,secOf_in (hd m) h2];have hb:dep S' e j.back:=by unfold dep at hm;rw[hfm] at hm;exact hm
     unfold secIn;rw[ih j.back s hb]
 intro m j hj;by_cases hmn:m=n
 ·subst hmn;rw[hf] at hj;cases hj;exact⟨i',hfn,e2,fun s _=>hone s⟩
 ·refine⟨j,by rw[hoth m hmn];exact hj,rfl,fun s _=>?_⟩;unfold secIn;rw[key 8 j.back s (hd' _)]
theorem moved_shown {M:MM}(h:MOk M)(hS:∀ n i,fnd M.all n=some i->IOk i)(n tg:Bs):Shown M.all (movedM M n tg).1.all:=by
 cases hf:fnd M.all n with
 | none=>unfold movedM;rw[hf];exact Shown.refl _
 | some i =>
  have hdp:=(ok_moved h (n:=n) (by rw[hf];rfl) tg).dp;unfold movedM at hdp ⊢;rw[hf] at hdp ⊢;simp only at hdp ⊢;split
  ·exact Shown.refl _
  rename_i c1;rw[if_neg c1] at hdp;split
  ·exact Shown.refl _
  rename_i c2;rw[if_neg c2] at hdp;split
  ·exact Shown.refl _
  rename_i c3;rw[if_neg c3] at hdp;simp only[flushM_all] at hdp ⊢;have e:(if tg=[] then M else flushedM M tg).all=M.all:=by split;rfl;exact flushed_all _ _
  rw[e] at hdp ⊢;exact mov_shown hS hf h.dp hdp
theorem doK_all (F:MM->Cm->MM×Rp×Nat)(M:MM)(c:Cm):(doK F M c).1.all=(F M c).1.all:=by unfold doK;simp only;split<;>rfl
theorem doK_cd {F:MM->Cm->MM×Rp×Nat}{M:MM}{c:Cm}:(doK F M c).2=(F M c).2:=by unfold doK;simp only;split<;>rfl
def upK (k:Int):Prop:=k=8\/k=9\/(11<=k/\k<=17)\/k=20\/k=21
def bK (k:Int):Prop:=k=4\/k=5\/k=6\/k=7\/k=10\/k=23\/k=2
theorem busy_up {M:MM}(h:MOk M)(hS:∀ n i,fnd M.all n=some i->IOk i)(c:Cm)(hu:upK c.kind):Shown M.all (doM M c).1.all:=by
 unfold doM;split
 ·exact Shown.refl _
 split
 ·exact Shown.refl _
 rename_i h1 h2;rw[doK_all];rcases hu with e|e|e|e|e
 ·rw[e];show Shown M.all (flushedM M c.name).all;rw[flushed_all];exact Shown.refl _
 ·rw[e];show Shown M.all (shootF M c).1.all;unfold shootF;split
  ·exact Shown.refl _
  rename_i i hf
  repeat' split
  all_goals first|exact Shown.refl _|exact Shown.core (core_set hf rfl)
 ·by_cases e11:c.kind=11
  ·rw[e11];show Shown M.all (unshotF M c).1.all;unfold unshotF;split
   ·exact Shown.refl _
   rename_i i hf
   repeat' split
   all_goals first|exact Shown.refl _|exact Shown.core (core_set hf rfl)
  ·have:fofK c.kind=bitmapF:=by unfold fofK;rw[if_neg (by omega),if_neg (by omega),if_neg (by omega),if_neg (by omega),if_neg (by omega),if_neg (by omega),if_neg (by omega),if_neg (by omega),if_neg (by omega),if_neg (by omega),if_neg (by omega),if_pos (by omega)]
   rw[this];unfold bitmapF;split
   ·exact Shown.refl _
   rename_i i hf
   repeat' split
   all_goals first|exact Shown.refl _|exact Shown.core (core_set hf rfl)
 ·rw[e];exact moved_shown h hS _ _
 ·rw[e];exact moved_shown h hS _ _
theorem busy_other {M:MM}{c:Cm}(hB:(fnd M.all c.name).isSome=true)(ha:aboveN M.all c.name≠0)(hu:¬ upK c.kind):(doM M c).1=M/\(bK c.kind->(doM M c).2.1.code=14):=by
 obtain⟨i,hf⟩:=Option.isSome_iff_exists.1 hB;have ha1:0<aboveN M.all c.name:=by omega
 by_cases h1:c.kind<1\/26<c.kind
 ·refine⟨?_,fun hb=>by unfold bK at hb;omega⟩;unfold doM;rw[if_pos h1]
 have hd:doM M c=doK (fofK c.kind) M c:=by
  unfold doM;rw[if_neg h1,if_neg (by rintro⟨_,_,h3⟩;rw[h3] at hf;cases hf)]
 have hbusy:(doK (fofK c.kind) M c).2.1.code=14->(doM M c).1=M/\(bK c.kind->(doM M c).2.1.code=14):=fun e=>by
  rw[<-hd] at e;exact⟨(doM_refused (by rw[e];decide)).1,fun _=>e⟩
 have hquiet:turnsI c.kind=false->Quiet (fofK c.kind)->¬ bK c.kind->(doM M c).1=M/\(bK c.kind->(doM M c).2.1.code=14):=fun ht hq hb=>by
  rw[hd];exact⟨doK_quiet hq ht,fun h=>absurd h hb⟩
 have hk:c.kind=1\/c.kind=2\/c.kind=3\/c.kind=4\/c.kind=5\/c.kind=6\/c.kind=7\/c.kind=10\/c.kind=18\/c.kind=19\/c.kind=22\/c.kind=23\/c.kind=24\/c.kind=25\/c.kind=26:=by
  unfold upK at hu;omega
 rcases hk with e|e|e|e|e|e|e|e|e|e|e|e|e|e|e
 ·have hc:(doM M c).2.1.code≠0:=by
   rw[hd,doK_cd,e];show(createF M c).2.1.code≠0;unfold createF;split
   ·exact(by decide:(1:Int)≠0)
   split
   ·exact(by decide:(1:Int)≠0)
   exact(by decide:(5:Int)≠0)
  exact⟨(doM_refused hc).1,fun hb=>by unfold bK at hb;omega⟩
 ·refine hbusy ?_;rw[doK_cd,e];show(removeF M c).2.1.code=14;unfold removeF;rw[if_pos ha]
 ·exact hquiet (by rw[e];rfl) (by rw[e];exact quiet_read) (by unfold bK;omega)
 ·refine hbusy ?_;rw[doK_cd,e];show(writeF M c).2.1.code=14;unfold writeF;rw[hf];simp only;rw[if_pos ha]
 ·refine hbusy ?_;rw[doK_cd,e];show(noughtsF false M c).2.1.code=14;unfold noughtsF;rw[hf];simp only;rw[if_pos ha]
 ·refine hbusy ?_;rw[doK_cd,e];show(noughtsF true M c).2.1.code=14;unfold noughtsF;rw[hf];simp only;rw[if_pos ha]
 ·refine hbusy ?_;rw[doK_cd,e];show(resizeF M c).2.1.code=14;unfold resizeF;rw[hf];simp only;rw[if_pos ha]
 ·refine hbusy ?_;rw[doK_cd,e];show(revertF M c).2.1.code=14;unfold revertF;rw[hf];simp only;rw[if_pos ha]
 ·exact hquiet (by rw[e];rfl) (by rw[e];exact quiet_dirty) (by unfold bK;omega)
 ·have hc:(doM M c).2.1.code≠0:=by
   rw[hd,doK_cd,e];show(commitF M c).2.1.code≠0;unfold commitF;rw[hf];simp only;split
   ·exact(by decide:(15:Int)≠0)
   split
   ·exact(by decide:(4:Int)≠0)
   rw[if_pos (Or.inl ha1)];exact(by decide:(14:Int)≠0)
  exact⟨(doM_refused hc).1,fun hb=>by unfold bK at hb;omega⟩
 ·exact hquiet (by rw[e];rfl) (by rw[e];exact quiet_export) (by unfold bK;omega)
 ·refine hbusy ?_;rw[doK_cd,e];show(bringF M c).2.1.code=14;unfold bringF;rw[hf];simp only;rw[if_pos ha]
 ·exact hquiet (by rw[e];rfl) (by rw[e];exact quiet_check) (by unfold bK;omega)
 ·exact hquiet (by rw[e];rfl) (by rw[e];exact quiet_info) (by unfold bK;omega)
 ·exact hquiet (by rw[e];rfl) (by rw[e];exact quiet_list) (by unfold bK;omega)
theorem above_some {S:IL}{m:Bs}{i:IM}(hf:fnd S m=some i):aboveN S i.back≠0:=by
 unfold aboveN;have hm:(m,i)∈S.filter fun p=>decide (p.2.back=i.back):=List.mem_filter.2 ⟨fnd_mem hf,by simp⟩;intro h;rw[List.length_eq_zero_iff.1 h] at hm;cases hm
end Go.Md
namespace Go.Proofs.YtgkabcaodnofnaaGreat
open Go.RowKit Go.Mx Go.Md
theorem viewN_back {S:IL}{n:Bs}{i:IM}(hf:fnd S n=some i):(viewN S n).back=i.back:=by unfold viewN;rw[hf];rfl
def BInv (k:Int)(Ml M:MM):Prop:=(upK k->Shown Ml.all M.all)/\(¬ upK k->M=Ml)
theorem BInv.step {k:Int}{Ml M:MM}(h:BInv k Ml M)(hl:MOk Ml)(hM:MOk M)(hS:∀ n i,fnd M.all n=some i->IOk i){n:Bs}{i:IM}(hf:fnd Ml.all n=some i)(hb:i.back≠[]){c:Cm}(hk:c.kind=k)(hn:c.name=i.back) :
  BInv k Ml (doM M c).1/\(bK k->(doM M c).2.1.code=14):=by
 by_cases hu:upK k
 ·exact⟨⟨fun _=>(h.1 hu).trans (busy_up hM hS c (by rw[hk];exact hu)),fun h9=>absurd hu h9⟩,fun h9=>by unfold upK at hu;unfold bK at h9;omega⟩
 ·obtain rfl:=h.2 hu;have hB:(fnd M.all c.name).isSome=true:=by rw[hn];exact(hl.bk n i hf).resolve_left hb
  have h9:=busy_other (c:=c) hB (by rw[hn];exact above_some hf) (by rw[hk];exact hu);exact⟨⟨fun h8=>absurd h8 hu,fun _=>h9.1⟩,fun hb=>h9.2 (by rw[hk];exact hb)⟩
theorem BInv.data {k:Int}{Ml M:MM}(h:BInv k Ml M){n:Bs}{i:IM}(hf:fnd Ml.all n=some i):(viewN M.all n).data=(viewN Ml.all n).data:=by
 by_cases hu:upK k
 ·exact(h.1 hu).data hf
 ·rw[h.2 hu]
theorem busylaw_any {W:World}{v:Value}{gs:List (Cm×Value)}{kd ca ci cm:Int}{cn ct cb:Bs}{da:Option Addr}{dn dc:Nat}(hs:SlC W v gs)(hw:∀ g∈gs,(Lit.int .i64 g.1.kind).wf=true)(hd:SlB W W.heap.size (.slice da dn dc) cb)(hk:(Lit.int .i64 kd).wf=true)(hn:(gs.length+1)*88<=140737488355328) :
  Calls prog 6 #[v,.agg #[.int .i64 kd,str cn,str ct,.int .i64 ca,.int .i64 ci,.int .i64 cm,.slice da dn dc]] W fun e w'=>e = .returned (.bool true)/\Below W.heap.size W w':=by
 obtain⟨c,hc⟩:∃ c:Cm,c=⟨kd,cn,ct,ca,ci,cm,cb⟩:=⟨_,rfl⟩
 have hq:∀ mb (w':World),(binOp .eql 28 (pt mb) (.pointer none)).run prog w' = .ok (.bool false) w':=fun mb w'=>by simp[go_sem]
 have HAW:=hid awake_any;obtain⟨w1,hw1⟩:∃ q,q=W.alloc (.cells #[.int .i64 kd,str cn,str ct,.int .i64 ca,.int .i64 ci,.int .i64 cm,.slice da dn dc] 25):=⟨_,rfl⟩
 have hb1:Below W.heap.size W w1:=by rw[hw1];exact(Below.refl _ _).alloc (Nat.le_refl _) _
 have hz1:w1.heap.size=W.heap.size+1:=by rw[hw1];simp
 have hq1:w1.heap[W.heap.size]? = some (.cells #[.int .i64 kd,str cn,str ct,.int .i64 ca,.int .i64 ci,.int .i64 cm,.slice da dn dc] 25 (0,0)):=by rw[hw1];exact alloc_new W _
 have hbox:∀ w',Below w1.heap.size w1 w'->w'.heap[W.heap.size]? = some (.cells #[.int .i64 kd,str cn,str ct,.int .i64 ca,.int .i64 ci,.int .i64 cm,.slice da dn dc] 25 (0,0)):=fun w' hB=>(hB.block _ (by omega)).trans hq1;have c0:∀ w',Below w1.heap.size w1 w'->w'.cell? ⟨W.heap.size,0,none⟩=some (.int .i64 kd):=fun w' hB=>by simp[World.cell?,hbox w' hB]
 have c1:∀ w',Below w1.heap.size w1 w'->w'.cell? ⟨W.heap.size,1,none⟩=some (str cn):=fun w' hB=>by simp[World.cell?,hbox w' hB]
 have c2:∀ w',Below w1.heap.size w1 w'->w'.cell? ⟨W.heap.size,2,none⟩=some (str ct):=fun w' hB=>by simp[World.cell?,hbox w' hB]
 have c3:∀ w',Below w1.heap.size w1 w'->w'.cell? ⟨W.heap.size,3,none⟩=some (.int .i64 ca):=fun w' hB=>by simp[World.cell?,hbox w' hB]
 have c4:∀ w',Below w1.heap.size w1 w'->w'.cell? ⟨W.heap.size,4,none⟩=some (.int .i64 ci):=fun w' hB=>by simp[World.cell?,hbox w' hB]
 have c5:∀ w',Below w1.heap.size w1 w'->w'.cell? ⟨W.heap.size,5,none⟩=some (.int .i64 cm):=fun w' hB=>by simp[World.cell?,hbox w' hB]
 have c6:∀ w',Below w1.heap.size w1 w'->w'.cell? ⟨W.heap.size,6,none⟩=some (.slice da dn dc):=fun w' hB=>by simp[World.cell?,hbox w' hB]
 have H:=jd6 hs hw hd hk hn trivial;have HW1:=jd2 hb1 hz1;have HBX:=hid hbox;clear hs hw hd hk hn hbox hq1 hb1 hz1 hc c;go_enter func6,ntmps6
 go_wp2_with fail
 rw[<-hw1];clear hw1
 go_cut [18] from 19 (fun s18 wx=>∃ b:Bool,s18 = .bool b/\Hid ((b=false->FitAll (gs++[((⟨kd,cn,ct,ca,ci,cm,cb⟩:Cm),.slice da dn dc)]))/\Below w1.heap.size w1 wx))
 case first =>
  refine wp_region_held_drew (S:=(fun w'=>Below w1.heap.size w1 w')) (by kernel_rfl) (Below.refl _ _).drew (fun hHeld=>?_);refine sk 1 ?_;try simp only[nk]
  refine sk 3 ?_;try simp only[nk]
  have hsl:∀ w',Below w1.heap.size w1 w'->SlG w' W.heap.size 7 v (gs.map crow):=fun w' hB=>H.out.1.o.below (HW1.out.1.trans (hB.mono (by rw[HW1.out.2];omega))) (Nat.le_refl _);refine wpAnyH_ready (rs:=[0,4]) (by kernel_rfl) (by simp) (AllReadyH.cons rfl (fun K hK=>?_) (AllReadyH.cons rfl (fun K hK=>?_) AllReadyH.nil))
  ·go_simp
   refine hK.out _ _ ((Below.refl _ _).drew.alloc (Nat.le_refl _) _) (fun hHeld=>?_);clear hK K
   try simp only[nk]
   have ho1:=ownG_empty w1.drew 25 7;refine wpAnyH_ready (rs:=[2,4]) (by kernel_rfl) (by simp) (AllReadyH.cons rfl (fun K hK=>?_) (AllReadyH.cons rfl (fun K hK=>?_) AllReadyH.nil))
   ·refine step_append_sg _ (by rfl) (.tmp 12) (.tmp 13) 22 25 _ 7 88 (by rfl) underlying22 info25 rfl (by decide) w1.heap.size (.slice (some ⟨w1.heap.size,0,none⟩) 0 0) [] (by rfl) ho1 W.heap.size v (gs.map crow) (by rfl) (hsl _ hHeld) (crow_lens gs) (crow_ones H.out.1) (by rw[List.length_map];have:=H.out.2.2.2.2.1;simp;omega) (by rw[List.length_map];have:=H.out.2.2.2.2.1;simp;omega) (by have:=hHeld.size;omega) ?_;intro v3 w3 ho3 hg3 hb3;have hB3:=hHeld.trans hb3;refine hK.out _ _ (hB3) (fun hHeld=>?_);clear hK K
    try simp only[nk]
    refine wpAnyH_ready (rs:=[4]) (by kernel_rfl) (by simp) (AllReadyH.cons rfl (fun K hK=>?_) AllReadyH.nil);go_simp
    have hoX:=ho3.below (w':=w3.alloc (.cells #[.int .i64 kd,str cn,str ct,.int .i64 ca,.int .i64 ci,.int .i64 cm,.slice da dn dc] 25)) (Below.alloc (Below.refl _ _) (Nat.le_refl _) _) (Nat.le_refl _);refine hK.out _ _ (Below.alloc (by assumption) (Below.size (by assumption)) _) (fun hHeld=>?_);clear hK K
    try simp only[nk]
    refine wpAnyH_ready (rs:=[5]) (by kernel_rfl) (by simp) (AllReadyH.cons rfl (fun K hK=>?_) AllReadyH.nil);refine step_append_g _ (by rfl) (.tmp 14) (.tmp 16) 22 25 _ 7 88 (by rfl) underlying22 info25 rfl (by decide) w1.heap.size _ ([]++gs.map crow) (by rfl) hoX w3.heap.size 1 (crow ((⟨kd,cn,ct,ca,ci,cm,cb⟩:Cm),.slice da dn dc)) (by rfl) rfl (row_cells w3 (crow ((⟨kd,cn,ct,ca,ci,cm,cb⟩:Cm),.slice da dn dc)) 25) (crow_one ⟨_,_,_,rfl⟩) (by have:=H.out.2.2.2.2.1;simp;omega) (by have:=H.out.2.2.2.2.1;simp;omega) (by have:=hHeld.size;omega) ?_;intro v5 w5 ho5 hg5 hb5;have hB5:=hHeld.trans hb5;refine hK.out _ _ (hB5) (fun hHeld=>?_);clear hK K
    try simp only[nk]
    refine wpAnyH_ready (rs:=[6]) (by kernel_rfl) (by simp) (AllReadyH.cons rfl (fun K hK=>?_) AllReadyH.nil);have hC5:=slc_app (g:=((⟨kd,cn,ct,ca,ci,cm,cb⟩:Cm),.slice da dn dc)) H.out.1 (HW1.out.1.trans (hB5.mono (by rw[HW1.out.2];omega))) H.out.2.2.1 (by simpa using ho5);have HH5:=hid (heavy_any hC5);clear hC5;go_simp
    go_wp2_with (go_at_call 11;refine HH5.out.mono ?_;rintro e w6 ⟨b6,rfl,hf6,hb6⟩)
    refine hK.out _ _ (hB5.trans (hb6.mono hB5.size)) (fun hHeld6=>?_);clear hK K
    try simp only[nk]
    refine wpAnyH_done (by kernel_rfl) ?_ _;have HF6:=jd2 hf6 hHeld6;clear hf6 hHeld6 hb6 HH5
    go_wp2_with fail
    go_meet
    case rel=>exact⟨b6,rfl,HF6⟩
   ·go_simp
    have ho2:=ho1.below (w':=(w1.drew.alloc (.cells #[] 25)).alloc (.cells #[.int .i64 kd,str cn,str ct,.int .i64 ca,.int .i64 ci,.int .i64 cm,.slice da dn dc] 25)) (Below.alloc (Below.refl _ _) (Nat.le_refl _) _) (Nat.le_refl _);have hrw:=row_cells (w1.drew.alloc (.cells #[] 25)) (crow ((⟨kd,cn,ct,ca,ci,cm,cb⟩:Cm),.slice da dn dc)) 25;rw[show(w1.drew.alloc (.cells #[] 25)).heap.size=w1.heap.size+1 by simp] at hrw;refine hK.out _ _ (Below.alloc (by assumption) (Below.size (by assumption)) _) (fun hHeld=>?_);clear hK K
    try simp only[nk]
    refine wpAnyH_ready (rs:=[2]) (by kernel_rfl) (by simp) (AllReadyH.cons rfl (fun K hK=>?_) AllReadyH.nil);refine step_append_sg _ (by rfl) (.tmp 12) (.tmp 13) 22 25 _ 7 88 (by rfl) underlying22 info25 rfl (by decide) w1.heap.size (.slice (some ⟨w1.heap.size,0,none⟩) 0 0) [] (by rfl) ho2 W.heap.size v (gs.map crow) (by rfl) (hsl _ hHeld) (crow_lens gs) (crow_ones H.out.1) (by rw[List.length_map];have:=H.out.2.2.2.2.1;simp;omega) (by rw[List.length_map];have:=H.out.2.2.2.2.1;simp;omega) (by have:=hHeld.size;omega) ?_;intro v3 w3 ho3 hg3 hb3;have hB3:=hHeld.trans hb3;refine hK.out _ _ (hB3) (fun hHeld=>?_);clear hK K
    try simp only[nk]
    have hoX:=ho3;refine wpAnyH_ready (rs:=[5]) (by kernel_rfl) (by simp) (AllReadyH.cons rfl (fun K hK=>?_) AllReadyH.nil);refine step_append_g _ (by rfl) (.tmp 14) (.tmp 16) 22 25 _ 7 88 (by rfl) underlying22 info25 rfl (by decide) w1.heap.size _ ([]++gs.map crow) (by rfl) hoX (w1.heap.size+1) 1 (crow ((⟨kd,cn,ct,ca,ci,cm,cb⟩:Cm),.slice da dn dc)) (by rfl) rfl (fun j u hj=>hg3.cell (hrw j u hj) (by simp[Value.ownBlock])) (crow_one ⟨_,_,_,rfl⟩) (by have:=H.out.2.2.2.2.1;simp;omega) (by have:=H.out.2.2.2.2.1;simp;omega) (by have:=hHeld.size;omega) ?_;intro v5 w5 ho5 hg5 hb5;have hB5:=hHeld.trans hb5;refine hK.out _ _ (hB5) (fun hHeld=>?_);clear hK K
    try simp only[nk]
    refine wpAnyH_ready (rs:=[6]) (by kernel_rfl) (by simp) (AllReadyH.cons rfl (fun K hK=>?_) AllReadyH.nil);have hC5:=slc_app (g:=((⟨kd,cn,ct,ca,ci,cm,cb⟩:Cm),.slice da dn dc)) H.out.1 (HW1.out.1.trans (hB5.mono (by rw[HW1.out.2];omega))) H.out.2.2.1 (by simpa using ho5);have HH5:=hid (heavy_any hC5);clear hC5;go_simp
    go_wp2_with (go_at_call 11;refine HH5.out.mono ?_;rintro e w6 ⟨b6,rfl,hf6,hb6⟩)
    refine hK.out _ _ (hB5.trans (hb6.mono hB5.size)) (fun hHeld6=>?_);clear hK K
    try simp only[nk]
    refine wpAnyH_done (by kernel_rfl) ?_ _;have HF6:=jd2 hf6 hHeld6;clear hf6 hHeld6 hb6 HH5
    go_wp2_with fail
    go_meet
    case rel=>exact⟨b6,rfl,HF6⟩
  ·go_simp
   have hrw:∀ j u,(crow ((⟨kd,cn,ct,ca,ci,cm,cb⟩:Cm),.slice da dn dc))[j]? = some u->(w1.drew.alloc (.cells #[.int .i64 kd,str cn,str ct,.int .i64 ca,.int .i64 ci,.int .i64 cm,.slice da dn dc] 25)).cell? ⟨w1.heap.size,j,none⟩=some u:=row_cells w1.drew (crow ((⟨kd,cn,ct,ca,ci,cm,cb⟩:Cm),.slice da dn dc)) 25;have hrw2:∀ j u,(crow ((⟨kd,cn,ct,ca,ci,cm,cb⟩:Cm),.slice da dn dc))[j]? = some u->((w1.drew.alloc (.cells #[.int .i64 kd,str cn,str ct,.int .i64 ca,.int .i64 ci,.int .i64 cm,.slice da dn dc] 25)).alloc (.cells #[] 25)).cell? ⟨w1.heap.size,j,none⟩=some u:=fun j u hj=>(World.cell?_alloc_some _ _ _ (by rw[hrw j u hj];rfl)).trans (hrw j u hj);refine hK.out _ _ ((Below.refl _ _).drew.alloc (Nat.le_refl _) _) (fun hHeld=>?_);clear hK K
   try simp only[nk]
   refine wpAnyH_ready (rs:=[0]) (by kernel_rfl) (by simp) (AllReadyH.cons rfl (fun K hK=>?_) AllReadyH.nil);go_simp
   have ho1:=ownG_empty (w1.drew.alloc (.cells #[.int .i64 kd,str cn,str ct,.int .i64 ca,.int .i64 ci,.int .i64 cm,.slice da dn dc] 25)) 25 7;rw[show(w1.drew.alloc (.cells #[.int .i64 kd,str cn,str ct,.int .i64 ca,.int .i64 ci,.int .i64 cm,.slice da dn dc] 25)).heap.size=w1.heap.size+1 by simp] at ho1;refine hK.out _ _ (Below.alloc (by assumption) (Below.size (by assumption)) _) (fun hHeld=>?_);clear hK K
   try simp only[nk]
   try simp only[nk]
   refine wpAnyH_ready (rs:=[2]) (by kernel_rfl) (by simp) (AllReadyH.cons rfl (fun K hK=>?_) AllReadyH.nil);refine step_append_sg _ (by rfl) (.tmp 12) (.tmp 13) 22 25 _ 7 88 (by rfl) underlying22 info25 rfl (by decide) w1.heap.size (.slice (some ⟨w1.heap.size+1,0,none⟩) 0 0) [] (by rfl) (ho1.any_base (Nat.le_succ _)) W.heap.size v (gs.map crow) (by rfl) (hsl _ hHeld) (crow_lens gs) (crow_ones H.out.1) (by rw[List.length_map];have:=H.out.2.2.2.2.1;simp;omega) (by rw[List.length_map];have:=H.out.2.2.2.2.1;simp;omega) (by have:=hHeld.size;omega) ?_;intro v3 w3 ho3 hg3 hb3;have hB3:=hHeld.trans hb3;refine hK.out _ _ (hB3) (fun hHeld=>?_);clear hK K
   try simp only[nk]
   have hoX:=ho3;refine wpAnyH_ready (rs:=[5]) (by kernel_rfl) (by simp) (AllReadyH.cons rfl (fun K hK=>?_) AllReadyH.nil);refine step_append_g _ (by rfl) (.tmp 14) (.tmp 16) 22 25 _ 7 88 (by rfl) underlying22 info25 rfl (by decide) w1.heap.size _ ([]++gs.map crow) (by rfl) hoX w1.heap.size 1 (crow ((⟨kd,cn,ct,ca,ci,cm,cb⟩:Cm),.slice da dn dc)) (by rfl) rfl (fun j u hj=>hg3.cell (hrw2 j u hj) (by simp[Value.ownBlock])) (crow_one ⟨_,_,_,rfl⟩) (by have:=H.out.2.2.2.2.1;simp;omega) (by have:=H.out.2.2.2.2.1;simp;omega) (by have:=hHeld.size;omega) ?_;intro v5 w5 ho5 hg5 hb5;have hB5:=hHeld.trans hb5;refine hK.out _ _ (hB5) (fun hHeld=>?_);clear hK K
   try simp only[nk]
   refine wpAnyH_ready (rs:=[6]) (by kernel_rfl) (by simp) (AllReadyH.cons rfl (fun K hK=>?_) AllReadyH.nil);have hC5:=slc_app (g:=((⟨kd,cn,ct,ca,ci,cm,cb⟩:Cm),.slice da dn dc)) H.out.1 (HW1.out.1.trans (hB5.mono (by rw[HW1.out.2];omega))) H.out.2.2.1 (by simpa using ho5);have HH5:=hid (heavy_any hC5);clear hC5;go_simp
   go_wp2_with (go_at_call 11;refine HH5.out.mono ?_;rintro e w6 ⟨b6,rfl,hf6,hb6⟩)
   refine hK.out _ _ (hB5.trans (hb6.mono hB5.size)) (fun hHeld6=>?_);clear hK K
   try simp only[nk]
   refine wpAnyH_done (by kernel_rfl) ?_ _;have HF6:=jd2 hf6 hHeld6;clear hf6 hHeld6 hb6 HH5
   go_wp2_with fail
   go_meet
   case rel=>exact⟨b6,rfl,HF6⟩
 case rest =>
  obtain⟨b6,rfl,HF6⟩:=hcut;obtain⟨w6,hw6⟩:∃ q,q=wc:=⟨_,rfl⟩
  subst hw6;cases b6
  ·have hfa:=fit_app (HF6.out.1 rfl);have hs1:SlC w1 v gs:=H.out.1.below HW1.out.1;have HL:=hid (led_any (w0:=w1) (base:=W.heap.size) hs1 HF6.out.2 hfa.1 H.out.2.1 HW1.out.1.size);have HFA:=hid hfa;clear hfa hs1 c0 c1 c2 c3 c4 c5 c6
   go_wp2_with fail
   refine HL.out.mono ?_;rintro e w2 ⟨mb,X,rfl,hS⟩;obtain⟨Ml,hMl⟩:∃ q,q=ledF M0 (gs.map (·.1)):=⟨_,rfl⟩
   rw[<-hMl] at hS;have hS0:Stt W w2 W.heap.size mb Ml X:=⟨hS.mo,hS.ok,hS.fr,HW1.out.1.trans (hS.b.mono HW1.out.1.size),fun b hb=>Nat.le_trans HW1.out.1.size (hS.g b hb),Nat.le_refl _⟩
   have HS:=jd3 hS0 hS.g (HBX.out w2 hS.b);clear hS hMl hS0
   go_wp2_with fail
   refine HS.out.1.views.mono ?_;rintro e w3 ⟨v1,rfl,hV,hb3⟩;have hS3:=HS.out.1.below hb3;have hq3:=(hb3.block _ (blk_lt HS.out.2.2)).trans HS.out.2.2;obtain⟨va,vc,rfl⟩:=hV.len;obtain⟨vn,hvn⟩:∃ q,q=(viewsM Ml.all).length:=⟨_,rfl⟩
   have hvn16:vn<=16:=by rw[hvn];exact views_len16 hS3
   rw[<-hvn] at hV ⊢;have hlv:∀ w',(Builtin.len_ #[38] 3 #[.slice va vn vc]).run prog w' = .ok (.int .i64 vn) w':=fun w'=>len_sl underlying38 rfl w';have hlo:W.heap.size+1<=w2.heap.size:=by have:=HF6.out.2.size;have:=HS.out.2.2;have:=blk_lt HS.out.2.2;omega
   have HV:=jd5 hV hS3 hvn hq3 hlo;clear hV hS3 hvn hb3 hq3 hlo;go_upto_region 8 with(fail)
   go_loopw [7] (fun s7 wr=>∃ i:Nat,s7 = .int .i64 i/\i<=vn/\Hid (∃ M X nmx,Stt W wr W.heap.size mb M X/\(∀ b∈X.fp mb,w1.heap.size<=b)/\BInv kd Ml M/\VS wr w2.heap.size W.heap.size (.slice va vn vc) (viewsM Ml.all)/\wr.heap[W.heap.size]? = some (.cells #[.int .i64 kd,str nmx,str ct,.int .i64 ca,.int .i64 ci,.int .i64 cm,.slice da dn dc] 25 (0,0)))) (fun s7 _=>vn-(intOf s7).toNat)
   case atStart=>exact⟨0,rfl,Nat.zero_le _,hid ⟨Ml,X,cn,HV.out.2.1,HS.out.2.1,⟨fun _=>Shown.refl _,fun _=>rfl⟩,HV.out.1,HV.out.2.2.2.1⟩⟩
   case round =>
    obtain⟨i,rfl,hi,hR⟩:=hrel;obtain⟨wJ,hwJ⟩:∃ q,q=wr:=⟨_,rfl⟩
    subst hwJ;obtain⟨M,X3,nmx,hS,hg,hI,hVJ,hbx⟩:=hR.out;by_cases hlt:i<vn
    ·have hi':i<(viewsM Ml.all).length:=by rw[<-HV.out.2.2.1];exact hlt
     obtain⟨nm,im,hn,hf,hve,hvnm⟩:=views_at hi';obtain⟨bb,bo,dv,sv,mv,hia,hdo,hrow⟩:=hVJ.row i hi';have hbk:(viewsM Ml.all)[i].back=im.back:=by rw[hve];exact viewN_back hf
     rw[hvnm,hbk] at hrow;obtain⟨B,hB⟩:∃ B,B=im.back:=⟨_,rfl⟩
     rw[<-hB] at hrow;have d2:wJ.cell? ⟨bb,bo+2,none⟩=some (str B):=hrow wJ (Below.refl _ _) 2 _ rfl;by_cases hBn:B=[]
     ·have e1:(B==[])=true:=by simpa using hBn
      have HE:=hid hR;subst hBn;clear hrow hdo hS hg hI hVJ hbx
      go_wp2_with fail
      go_roundw
      case measure=>simp only[intOf];omega
      case rel=>exact⟨i+1,by go_num,by omega,hR⟩
     ·have e1:(B==[])=false:=by simpa using hBn
      have hfz:wJ.frozen? ⟨W.heap.size,1,none⟩=false:=by simp[World.frozen?,hbx]
      have cx1:wJ.cell? ⟨W.heap.size,1,none⟩=some (str nmx):=by simp[World.cell?,hbx]
      obtain⟨wS,hwS⟩:∃ q,q=wJ.setCell ⟨W.heap.size,1,none⟩ (str B):=⟨_,rfl⟩
      have hkS:Kept wJ wS (·≠W.heap.size):=by rw[hwS];exact Kept.set _ _ _ _ (by simp)
      have hqS:wS.heap[W.heap.size]? = some (.cells #[.int .i64 kd,str B,str ct,.int .i64 ca,.int .i64 ci,.int .i64 cm,.slice da dn dc] 25 (0,0)):=by
       rw[hwS,heap_setCell_at' wJ W.heap.size 1 _ _ 25 _ hbx];rfl
      have hbS:Below W.heap.size wJ wS:=by rw[hwS];exact(Below.refl _ _).setCell (p:=⟨W.heap.size,1,none⟩) (Nat.le_refl _) _
      have hgn:∀ b∈X3.fp mb,b≠W.heap.size:=fun b hb=>by have:=hg b hb;have:=HW1.out.2;omega
      have hty:∀ b c9 t f,wJ.heap[b]? = some (.cells c9 t f)->t≠25->b≠W.heap.size:=fun b c9 t f hc ht=>by rintro rfl;rw[hbx] at hc;cases hc;exact ht rfl
      have hmoS:=hS.mo.kept hkS hgn (fun b c9 t f hc ht=>hty b c9 t f hc (by rcases ht with rfl|rfl|rfl<;>decide))
      have hSS:Stt W wS W.heap.size mb M X3:=⟨hmoS,hS.ok,hS.fr,hS.b.trans (hbS.mono (Nat.le_refl _)),hS.g,hS.bb⟩
      have hVS:=hVJ.kept hkS (fun b c9 t f hc ht=>hty b c9 t f hc (by rcases ht with rfl|rfl|rfl|rfl|rfl<;>decide))
      have s0:wS.cell? ⟨W.heap.size,0,none⟩=some (.int .i64 kd):=by simp[World.cell?,hqS]
      have s1:wS.cell? ⟨W.heap.size,1,none⟩=some (str B):=by simp[World.cell?,hqS]
      have s2:wS.cell? ⟨W.heap.size,2,none⟩=some (str ct):=by simp[World.cell?,hqS]
      have s3:wS.cell? ⟨W.heap.size,3,none⟩=some (.int .i64 ca):=by simp[World.cell?,hqS]
      have s4:wS.cell? ⟨W.heap.size,4,none⟩=some (.int .i64 ci):=by simp[World.cell?,hqS]
      have s5:wS.cell? ⟨W.heap.size,5,none⟩=some (.int .i64 cm):=by simp[World.cell?,hqS]
      have s6:wS.cell? ⟨W.heap.size,6,none⟩=some (.slice da dn dc):=by simp[World.cell?,hqS]
      have hfit:Fit ⟨kd,B,ct,ca,ci,cm,cb⟩:=⟨by rw[hB];exact(HV.out.2.1.oks nm im hf).nb,HFA.out.2.2.1,HFA.out.2.2.2⟩
      have hD:=hSS.step ⟨kd,B,ct,ca,ci,cm,cb⟩ (.slice da dn dc) H.out.2.2.1 hfit H.out.2.2.2.1;have hst:=hI.step HV.out.2.1.ok hS.ok hS.oks hf (by rw[<-hB];exact hBn) (c:=⟨kd,B,ct,ca,ci,cm,cb⟩) rfl hB;obtain⟨M',hM'⟩:∃ q,q=(doM M ⟨kd,B,ct,ca,ci,cm,cb⟩):=⟨_,rfl⟩
      rw[<-hM'] at hD hst;have HD:=hid (show Calls prog 14 #[pt mb,.agg #[.int .i64 kd,str B,str ct,.int .i64 ca,.int .i64 ci,.int .i64 cm,.slice da dn dc]] wS _ from hD);have HST:=jd9 hst hi' hf hve hSS hVS hqS hg hn;clear hrow hdo hS hI hVJ hbx hkS hbS hgn hty hmoS hSS hVS hqS hfit hD hst hM' hve hvnm hbk hB hBn hf hg hn hR;go_upto_region 12 with(fail)
      rw[<-hwS];clear hwS d2 hfz cx1 hia;go_upto_region 13 with(go_at_call 14;refine HD.out.mono ?_;rintro e w9 ⟨r9,lv9,X9,rfl,hrep,⟨frl,hfo,hfl⟩,hS9,hst9⟩;obtain⟨dv9,nv9,sv9,rfl,ho1,ho2,ho3⟩:=hrep.ex;obtain⟨pa,pn,pc,rfl⟩:=ownB_sh ho1;obtain⟨qa,qn,qc,rfl⟩:=ownG_sh ho2;obtain⟨ta,tn,tc,rfl⟩:=ownG_sh ho3;obtain⟨ua,un,uc,rfl⟩:=ownG_sh hfo;have H9:=jd2 hS9 hst9;clear hS9 hst9 hrep ho1 ho2 ho3 hfo hfl)
      obtain⟨cd,hcd⟩:∃ q,q=M'.2.1.code:=⟨_,rfl⟩
      obtain⟨wR,hwR⟩:∃ z,z=w9.alloc (.cells #[.int .i64 M'.2.1.code,.slice pa pn pc,.slice qa qn qc,.slice ta tn tc,.int .i64 M'.2.1.n,.int .i64 M'.2.1.m] 34):=⟨_,rfl⟩
      change Code.wp _ _ _ _ (w9.alloc (.cells #[.int .i64 M'.2.1.code,.slice pa pn pc,.slice qa qn qc,.slice ta tn tc,.int .i64 M'.2.1.n,.int .i64 M'.2.1.m] 34));rw[<-hwR];have hbR:Below w9.heap.size w9 wR:=by rw[hwR];exact(Below.refl _ _).alloc (Nat.le_refl _) _
      have hqR:wR.heap[w9.heap.size]? = some (.cells #[.int .i64 M'.2.1.code,.slice pa pn pc,.slice qa qn qc,.slice ta tn tc,.int .i64 M'.2.1.n,.int .i64 M'.2.1.m] 34 (0,0)):=by rw[hwR];exact alloc_new w9 _
      rw[<-hcd] at hqR;have e0:wR.cell? ⟨w9.heap.size,0,none⟩=some (.int .i64 cd):=by simp[World.cell?,hqR]
      have hq9:=(H9.out.2.k.block _ (blk_lt HST.out.2.2.2.2.2.2.1) (fun hm=>by have:=HST.out.2.2.2.2.2.2.2.1 _ hm;have:=HW1.out.2;omega)).trans HST.out.2.2.2.2.2.2.1;have hqb:=(hbR.block _ (blk_lt hq9)).trans hq9;have k0:wR.cell? ⟨W.heap.size,0,none⟩=some (.int .i64 kd):=by simp[World.cell?,hqb]
      have hg9:∀ b∈X9.fp mb,w1.heap.size<=b:=fun b hb=>by
       rcases H9.out.2.n b hb with h|h
       ·exact HST.out.2.2.2.2.2.2.2.1 b h
       ·have:=blk_lt HST.out.2.2.2.2.2.2.1;have:=HW1.out.2;omega
      have hVR:=(HST.out.2.2.2.2.2.1.stp HST.out.2.2.2.2.1.mo H9.out.2).below hbR;have hb14:=HST.out.1.2;rw[<-hcd] at hb14;have HR:=jd4 (H9.out.1.below hbR) hg9 hVR hqb;clear hwR hbR hqR hq9 hqb hg9 hVR s0 s1 s2 s3 s4 s5 s6 hcd
      go_upto_block 2 with(fail)
      go_cut [] from 52 to 96 (fun wx=>Below wR.heap.size wR wx)
      case first =>
       by_cases hbk:bK kd
       ·have h14:=hb14 hbk;unfold bK at hbk;clear hb14 HAW;subst h14;rcases hbk with rfl|rfl|rfl|rfl|rfl|rfl|rfl
        all_goals go_wp2_with fail
        all_goals go_meet
        all_goals exact Below.refl _ _
       ·have q4:(kd==4)=false:=by simp;unfold bK at hbk;omega
        have q5:(kd==5)=false:=by simp;unfold bK at hbk;omega
        have q6:(kd==6)=false:=by simp;unfold bK at hbk;omega
        have q7:(kd==7)=false:=by simp;unfold bK at hbk;omega
        have q10:(kd==10)=false:=by simp;unfold bK at hbk;omega
        have q23:(kd==23)=false:=by simp;unfold bK at hbk;omega
        have q2:(kd==2)=false:=by simp;unfold bK at hbk;omega
        clear hb14 HAW hbk
        go_wp2_with fail
        go_meet
        case rel=>exact Below.refl _ _
      case rest =>
       obtain⟨wV,hwV⟩:∃ q,q=wc:=⟨_,rfl⟩
       subst hwV;have hSV:=HR.out.1.below hcut;have hVV:=HR.out.2.2.1.below hcut;have hqV:=(hcut.block _ (blk_lt HR.out.2.2.2)).trans HR.out.2.2.2;have HV2:=jd3 hSV hVV hqV;clear hSV hVV hqV hcut hb14 e0 k0
       go_wp2_with fail
       refine HV2.out.1.views.mono ?_;rintro e wA ⟨v2,rfl,hW2,hbA⟩;obtain⟨ya,yc,rfl⟩:=hW2.len;obtain⟨wn,hwn⟩:∃ q,q=(viewsM M'.1.all).length:=⟨_,rfl⟩
       have hwn16:wn<=16:=by rw[hwn];exact views_len16 HV2.out.1
       rw[<-hwn] at hW2 ⊢;have hly:∀ w',(Builtin.len_ #[38] 3 #[.slice ya wn yc]).run prog w' = .ok (.int .i64 wn) w':=fun w'=>len_sl underlying38 rfl w';have HA:=jd5 hW2 (HV2.out.1.below hbA) (HV2.out.2.1.below hbA) ((hbA.block _ (blk_lt HV2.out.2.2)).trans HV2.out.2.2) hwn;clear hW2 hbA hwn;go_upto_region 25 with(fail)
       go_loopw [11] (fun s11 wr=>∃ k:Nat,s11 = .int .i64 k/\k<=wn/\Hid (Below wA.heap.size wA wr)) (fun s11 _=>wn-(intOf s11).toNat)
       case atStart=>exact⟨0,rfl,Nat.zero_le _,hid (Below.refl _ _)⟩
       case round =>
        obtain⟨k,rfl,hkn,hbr⟩:=hrel;obtain⟨wZ,hwZ⟩:∃ q,q=wr:=⟨_,rfl⟩
        subst hwZ;by_cases hlk:k<wn
        ·have hk':k<(viewsM M'.1.all).length:=by rw[<-HA.out.2.2.2.2];exact hlk
         obtain⟨nk,ik,hnk,hfk,hvek,hvnk⟩:=views_at hk';obtain⟨b3,o3,dv3,sv3,mv3,hib,hdo3,hrow3⟩:=(HA.out.1.below hbr.out).row k hk';obtain⟨b4,o4,dv4,sv4,mv4,hia,hdo4,hrow4⟩:=(HA.out.2.2.1.below hbr.out).row i HST.out.2.1;have hvi:(viewsM Ml.all)[i].name=nm:=by rw[HST.out.2.2.2.1];exact viewN_name _ _
         rw[hvnk] at hrow3;rw[hvi] at hrow4;have x0:wZ.cell? ⟨b3,o3,none⟩=some (str nk):=by have:=hrow3 wZ (Below.refl _ _) 0 _ rfl;simpa using this
         have y0:wZ.cell? ⟨b4,o4,none⟩=some (str nm):=by have:=hrow4 wZ (Below.refl _ _) 0 _ rfl;simpa using this
         have x3:wZ.cell? ⟨b3,o3+3,none⟩=some dv3:=hrow3 wZ (Below.refl _ _) 3 _ rfl;have y3:wZ.cell? ⟨b4,o4+3,none⟩=some dv4:=hrow4 wZ (Below.refl _ _) 3 _ rfl;obtain⟨D1,hD1⟩:∃ D,D=(viewsM M'.1.all)[k].data:=⟨_,rfl⟩
         obtain⟨D2,hD2⟩:∃ D,D=(viewsM Ml.all)[i].data:=⟨_,rfl⟩
         rw[<-hD1] at hdo3;rw[<-hD2] at hdo4;have hc1:∀ q,(convert 23 9 dv3).run prog (wZ.drewN q) = .ok (str D1) (wZ.drewN q):=fun q=>conv_sl underlying23 underlying5 underlying9 (hdo3.slB.below (bel_drewN (Below.refl _ _) q) (Nat.le_refl _));have hc2:∀ q,(convert 23 9 dv4).run prog (wZ.drewN q) = .ok (str D2) (wZ.drewN q):=fun q=>conv_sl underlying23 underlying5 underlying9 (hdo4.slB.below (bel_drewN (Below.refl _ _) q) (Nat.le_refl _));obtain⟨f1,f2,f3,rfl⟩:=ownB_sh hdo3;obtain⟨f4,f5,f6,rfl⟩:=ownB_sh hdo4;by_cases hnn:nk=nm
         ·have hDD:D1=D2:=by rw[hD1,hD2,hvek,HST.out.2.2.2.1,hnn];exact HST.out.1.1.data HST.out.2.2.1
          subst hDD;have hne:(nk==nm)=true:=by simpa using hnn
          clear hrow3 hrow4 hdo3 hdo4 hvek hvnk hnk hfk hvi hk' hD1 hD2;subst hnn
          go_wp2_with fail
          go_quiet (fail)
          rename_i nq
          go_wp2_with fail
          have hbq:=bel_drewN (Below.refl wZ.heap.size wZ) nq
          go_roundw
          case measure=>simp only[intOf];omega
          case rel=>exact⟨k+1,by go_num,by omega,hid (hbr.out.trans (hbq.mono hbr.out.size))⟩
         ·have hne:(nk==nm)=false:=by simpa using hnn
          clear hrow3 hrow4 hdo3 hdo4 hvek hvnk hnk hfk hvi hk' hD1 hD2
          go_wp2_with fail
          go_quiet (fail)
          rename_i nq
          go_wp2_with fail
          have hbq:=bel_drewN (Below.refl wZ.heap.size wZ) nq
          go_roundw
          case measure=>simp only[intOf];omega
          case rel=>exact⟨k+1,by go_num,by omega,hid (hbr.out.trans (hbq.mono hbr.out.size))⟩
        ·obtain rfl:k=wn:=by omega
         go_wp2_with fail
         go_roundw
         case measure=>simp only[intOf];omega
         case rel=>exact⟨i+1,by go_num,by omega,hid ⟨M'.1,X9,B,HA.out.2.1.below hbr.out,HR.out.2.1,HST.out.1.1,HA.out.2.2.1.below hbr.out,(hbr.out.block _ (blk_lt HA.out.2.2.2.1)).trans HA.out.2.2.2.1⟩⟩
    ·obtain rfl:i=vn:=by omega
     have HE:=hid hS;clear hS hg hI hVJ hbx hR
     go_wp2_with fail
     refine(HAW.out _).mono ?_;rintro e wg ⟨rfl,hbg⟩;have hend:=(HE.out.below hbg).b;clear hbg
     go_wp2_with fail
     go_ret
     exact⟨rfl,hend⟩
  ·go_wp2_with fail
   refine(HAW.out _).mono ?_;rintro e w2 ⟨rfl,hb2⟩;have hb12:=(HW1.out.1.trans (HF6.out.2.mono (by rw[HW1.out.2];omega))).trans (hb2.mono (by have:=HF6.out.2.size;rw[HW1.out.2] at this;omega))
   go_wp2_with fail
   go_ret
   exact⟨rfl,hb12⟩
theorem busy_law (gs:List (Cm×Value))(v:Value)(c:Cm)(dv:Value)(W:World)(hs:SlC W v gs)(hw:∀ g∈gs,(Lit.int .i64 g.1.kind).wf=true)(hd:SlB W W.heap.size dv c.data)(hk:(Lit.int .i64 c.kind).wf=true)(hn:(gs.length+1)*88<=140737488355328) :
  Calls prog 6 #[v,cmV c dv] W fun e w'=>e = .returned (.bool true)/\Below W.heap.size W w':=by
 obtain⟨a,n,cc,rfl⟩:=slB_shape hd;obtain⟨k,cn,ct,ca,ci,cm,cb⟩:=c;exact busylaw_any hs hw hd hk hn
end Go.Proofs.YtgkabcaodnofnaaGreat
