import Derived.Test.YtgkabcaodnofnaaGreatB42
import Derived.Deep.Slices
import Derived.Deep.Fields
import Derived.ChangeSame
import Derived.OpenShut
import Derived.ProofKit
import Derived.ChangeOld
import Derived.Test.YtgkabcaodnofnaaGreatB41
import Derived.Test.YtgkabcaodnofnaaGreatB37
import Derived.Test.YtgkabcaodnofnaaGreatB21
import Derived.Sort.KeysCollected
set_option linter.unusedSimpArgs false
set_option linter.unusedVariables false
open Go.Proofs.Tryz
namespace Go.Proofs.YtgkabcaodnofnaaGreat
open Go.ChangeShapes Go.WideShapes Go.ChangeAt Go.RowKit Go.Deep Go.Mx Go.Md
theorem wf_i64 {n:Int}(h:(Lit.int .i64 n).wf=true) : -9223372036854775808<=n/\n<=9223372036854775807:=by
 simpa[Lit.wf,IntKind.min,IntKind.max,IntKind.signed,IntKind.bits] using h
section
variable {H:Type}{enc:TypeId×Value->H}{P:Program}{w:World}{base:Nat}{spare:Nat->Bool}{held:Bool}
theorem plain_spot {w:World}{x:Addr}{v:Value}(h:w.cell? x=some v):x=⟨x.block,x.off,none⟩/\∀ j,x.add j=⟨x.block,x.off+j,none⟩:=by
 have hsp:x.spot=none:=by
  unfold World.cell? at h;split at h
  ·split at h
   ·cases h
   ·rename_i hs;cases hx:x.spot with
    | none=>rfl
    | some sp=>simp[hx] at hs
  ·cases h
 obtain⟨b,o,s⟩:=x;simp only at hsp;subst hsp;refine⟨rfl,fun j=>?_⟩;unfold Addr.add;split<;>simp_all
theorem rows_of {t e:TypeId}{fuel s:Nat}{cs:List Value}{x:DataW H×List MemPlace}(ht:P.underlying t=some (.slice e))(hC:P.cellsOf e=s)(hs:0<s)(h:DataW.trod enc P w base spare held fuel t cs=some x) :
  ∃ (v:Value) (rows:List (List Value)),cs=[v]/\SlG w w.heap.size s v rows/\∀ i,i<rows.length->∃ n y,DataW.trod enc P w base spare held n e (rows.getD i [])=some y:=by
 rcases open_slice ht h with⟨rfl,_⟩|⟨a,len,cap,m,n,D,Pl,rfl,hb,hl,hm,hmm,hx,hi⟩
 ·exact⟨_,[],rfl,SlG.nil _ _ _,fun i hi=>absurd hi (by simp)⟩
 ·rw[hC] at hi;have hlm:len<=m:=by rw[hmm];split<;>omega
  have hg:∀ i,i<len->(((List.range len).map fun i=>(w.cells? base (a.add (i*s)) s).getD []).getD i [])=(w.cells? base (a.add (i*s)) s).getD []:=by
   intro i h;simp[List.getD_eq_getElem?_getD,h]
  refine⟨_,(List.range len).map fun i=>(w.cells? base (a.add (i*s)) s).getD [],rfl,⟨some a,cap,by simp,by simpa using hl,hm,fun hn=>?_⟩,?_⟩
  ·have hlen:0<len:=by
    rcases Nat.eq_zero_or_pos len with h|h
    ·subst h;simp at hn
    ·exact h
   obtain⟨c0,h0,_⟩:=hi 0 (by omega);obtain⟨_,hl0,ha0⟩:=World.cells?_some h0;have h00:=ha0 0 hs;rw[List.getElem?_eq_getElem (by omega)] at h00;have h01:w.cell? a=some c0[0]:=by simpa[Addr.add] using h00
   obtain⟨e3,e4⟩:=plain_spot h01;refine⟨a.block,a.off,by rw[<-e3],?_,?_⟩
   ·exact World.block_lt_of_cell? w _ h01
   ·intro i hi' j v hv;simp only[List.length_map,List.length_range] at hi';rw[hg i hi'] at hv;obtain⟨ci,hci,_⟩:=hi i (by omega);obtain⟨_,hli,hai⟩:=World.cells?_some hci;rw[hci] at hv;simp only[Option.getD_some] at hv;have hj:j<s:=by have:=(List.getElem?_eq_some_iff.1 hv).1;omega
    have:=hai j hj;rw[e4 (i*s)] at this;rw[<-hv,<-this];unfold Addr.add;by_cases hj0:j=0
    ·rw[if_pos hj0,hj0];rfl
    ·rw[if_neg hj0]
  ·intro i hi';simp only[List.length_map,List.length_range] at hi';obtain⟨ci,hci,hti⟩:=hi i (by omega);refine⟨n,(D i,Pl i),?_⟩;rw[hg i hi',hci];exact hti
theorem pick_list {α β:Type}(d:α)(e:β)(l:List α)(R:α->β->Prop)(h:∀ i,i<l.length->∃ b,R (l.getD i d) b):∃ bs:List β,bs.length=l.length/\∀ i,i<l.length->R (l.getD i d) (bs.getD i e):=by
 classical
 refine⟨(List.range l.length).map fun i=>if h:∃ b,R (l.getD i d) b then h.choose else e,by simp,fun i hi=>?_⟩;have e2:((List.range l.length).map fun i=>if h:∃ b,R (l.getD i d) b then h.choose else e).getD i e=if h:∃ b,R (l.getD i d) b then h.choose else e:=by
  simp[List.getD_eq_getElem?_getD,hi]
 rw[e2,dif_pos (h i hi)];exact(h i hi).choose_spec
theorem rows_map {α β:Type}(d:List α)(e:β)(rows:List (List α))(bs:List β)(f:β->List α)(hl:bs.length=rows.length)(h:∀ i,i<rows.length->rows.getD i d=f (bs.getD i e)):rows=bs.map f:=by
 apply List.ext_getElem
 ·simp[hl]
 ·intro i h1 h2;have:=h i h1;simp only[List.getD_eq_getElem?_getD,List.getElem?_eq_getElem h1,List.getElem?_eq_getElem (show i<bs.length by omega),Option.getD_some] at this;simpa using this
theorem cells_of {t:TypeId}{fs:Array Field}{fuel:Nat}{cs:List Value}{x:DataW H×List MemPlace}(hs:P.underlying t=some (.struct fs))(hone:oneCellFields P fs=true)(hC:P.cellsOf t=fs.size)
  (h:DataW.trod enc P w base spare held fuel t cs=some x) :
  cs.length=fs.size/\∃ n,∀ (j:Nat) (f:Field),fs[j]? = some f->∃ v y,cs[j]? = some v/\DataW.trod enc P w base spare held n f.type [v]=some y:=by
 obtain⟨ys,n',hn',hy,hlen,hyl,hf⟩:=DataW.trod_struct hs h;refine⟨by rw[hlen,hC],n',fun j f hj=>?_⟩;obtain⟨ho,hk⟩:=hone_of hone j f hj;have hjl:j<fs.size:=(Array.getElem?_eq_some_iff.1 hj).1;have hv:cs[j]? = some (cs[j]'(by omega)):=List.getElem?_eq_getElem (by omega);have h1:=hf j f hj;rw[ho,hk] at h1;have hone':(cs.drop j).take 1=[cs[j]'(by omega)]:=by
  rw[List.drop_eq_getElem_cons (by omega)];rfl
 rw[hone'] at h1;have hys:ys[j]? = some (ys[j]'(by omega)):=List.getElem?_eq_getElem (by omega);exact⟨_,_,hv,h1.trans hys⟩
end
section
variable {H:Type}{enc:TypeId×Value->H}{w:World}{base:Nat}{spare:Nat->Bool}{held:Bool}
theorem int_of {n:Nat}{v:Value}{y:DataW H×List MemPlace}(h:DataW.trod enc prog w base spare held n 3 [v]=some y):∃ k,v = .int .i64 k/\-9223372036854775808<=k/\k<=9223372036854775807:=by
 obtain⟨k,e,_,hw⟩:=DataW.trod_int underlying3 h;have:=wf_i64 hw;exact⟨k,by simpa using e,this.1,this.2⟩
theorem str_of {n:Nat}{v:Value}{y:DataW H×List MemPlace}(h:DataW.trod enc prog w base spare held n 9 [v]=some y):∃ s:List UInt8,v = .string ⟨s.toArray⟩/\s.length<=9223372036854775807:=by
 obtain⟨s,e,_,hw⟩:=DataW.trod_string underlying9 h;refine⟨s.data.toList,by simpa using e,?_⟩;have h2:s.data.toList.length=s.size:=by simp
 rw[h2];unfold maxLen at hw;omega
theorem bytes_of {n:Nat}{v:Value}{y:DataW H×List MemPlace}(h:DataW.trod enc prog w base spare held n 23 [v]=some y):∃ bs:List UInt8,SlB w w.heap.size v bs:=by
 obtain⟨v',rows,e,hs,hr⟩:=rows_of (s:=1) underlying23 (by kernel_rfl) (by omega) h;obtain rfl:v=v':=by simpa using e
 obtain⟨l,hl,hp⟩:=pick_list [] (0:UInt8) rows (fun r k=>r=[Mx.u8 k]) (fun i hi=>by
  obtain⟨n,y,h⟩:=hr i hi;obtain⟨k,e,_,hw⟩:=DataW.trod_int underlying5 h;obtain⟨s,rfl⟩:=wf_u8' hw;exact⟨s,e⟩)
 have hm:=rows_map [] (0:UInt8) rows l (fun k=>[Mx.u8 k]) hl hp;subst hm;obtain⟨oa,cap,rfl,h1,h2,h3⟩:=hs;simp only[List.length_map] at h1;refine⟨l,oa,cap,by simp,h1,h2,fun hn=>?_⟩;obtain⟨bb,bo,rfl,hb,hrd⟩:=h3 (by simpa using hn);refine⟨bb,bo,rfl,hb,fun i hi=>?_⟩;have:=hrd i (by simpa using hi) 0 (Mx.u8 (l.getD i 0)) (by simp[List.getD_eq_getElem?_getD,hi]);simpa using this
end
end Go.Proofs.YtgkabcaodnofnaaGreat
namespace Go.Md
def ledF (M:MM)(l:List Cm):MM:=l.foldl (fun M c=>(doM M c).1) M
def M0:MM:=⟨[],[],fun _=>false⟩
theorem ledF_append (M:MM)(l:List Cm)(c:Cm):ledF M (l++[c])=(doM (ledF M l) c).1:=by unfold ledF;rw[List.foldl_append];rfl
end Go.Md
namespace Go.Proofs.YtgkabcaodnofnaaGreat
open Go.RowKit Go.Mx Go.Md
theorem wf_of {k:Int}(h1 : -9223372036854775808<=k)(h2:k<=9223372036854775807):(Lit.int .i64 k).wf=true:=by
 simpa[Lit.wf,IntKind.min,IntKind.max,IntKind.signed,IntKind.bits] using And.intro h1 h2
structure Stt (w0 w:World)(base mb:Nat)(M:MM)(X:MX):Prop where
 mo:MO w base mb M X
 ok:MOk M
 fr:X.fr=[]
 b:Below w0.heap.size w0 w
 g:∀ b∈X.fp mb,w0.heap.size<=b
 bb:base<=w0.heap.size
variable {w0 w w':World}{base mb:Nat}{M:MM}{X:MX}
theorem Stt.nda (h:Stt w0 w base mb M X):(M.all.map (·.1)).Nodup/\(M.kept.map (·.1)).Nodup:=⟨h.mo.a.nd,h.mo.k.nd⟩
theorem Stt.below (h:Stt w0 w base mb M X)(hb:Below w.heap.size w w'):Stt w0 w' base mb M X :=
 ⟨h.mo.below hb,h.ok,h.fr,h.b.trans (hb.mono h.b.size),h.g,h.bb⟩
theorem slN_of {F:List Nat}{v:Value}{bs:Bs}(h:SlB w0 w0.heap.size v bs)(hb:Below w0.heap.size w0 w)(hF:∀ b∈F,w0.heap.size<=b):SlN w (·∉F) v bs:=by
 have h9:=h.below hb nlr;obtain⟨oa,cap,h1,h2,h3,h4⟩:=h9;refine⟨oa,cap,h1,h2,h3,fun hn=>?_⟩;obtain⟨bb,bo,e,hl,hr⟩:=h4 hn;exact⟨bb,bo,e,Nat.lt_of_lt_of_le hl hb.size,fun hm=>by have:=hF bb hm;omega,hr⟩
theorem Stt.step (h:Stt w0 w base mb M X)(c:Cm)(dv:Value)(hd:SlB w0 w0.heap.size dv c.data)(hf:Fit c)(hk:(Lit.int .i64 c.kind).wf=true) :
  Calls prog 14 #[pt mb,cmV c dv] w fun e w'=>∃ r lv X',e = .returned (.tuple #[r,lv])/\RepOK w' w.heap.size r (doM M c).2.1/\(∃ fr:List Value,OwnG w' base 28 1 lv (fr.map fun v=>[v])/\fr.length=(doM M c).2.2)/\Stt w0 w' base mb (doM M c).1 X'/\Stp w w' (X.fp mb) (X'.fp mb) :=
 (do_all c hk h.mo h.ok (Nat.le_trans h.bb h.b.size) dv ⟨slN_of hd h.b h.g,hf.1,hf.2.1,hf.2.2⟩).mono fun e w' ⟨r,lv,X',e1,h1,h2,h3,h4,h5,h6⟩ =>
  ⟨r,lv,X',e1,h1,h2,⟨h3,ok_doM h.ok h.nda.1 h.nda.2 c,h4,h.b.trans (h6.below h.g h.b.size),fun b hb=>by
   rcases h6.n b hb with h9|h9
   ·exact h.g b h9
   ·exact Nat.le_trans h.b.size h9,h.bb⟩,h6⟩
theorem ok_M0:MOk M0:=aw_ok0
theorem stt_new (w0 w:World)(base:Nat)(hb:Below w0.heap.size w0 w)(hbase:base<=w0.heap.size):Calls prog 13 #[] w fun e w'=>∃ mb X,e = .returned (pt mb)/\Stt w0 w' base mb M0 X :=
 (new_any w base (Nat.le_trans hbase hb.size)).mono fun e w' ⟨e1,h1,h2⟩ =>
  ⟨_,_,e1,⟨h1,ok_M0,rfl,hb.trans (h2.mono hb.size),fun b h9=>by
   rcases newX_fp h9 with e|e|e|e
   ·have:=hb.size;omega
   ·have:=hb.size;omega
   ·simp[fpA] at e;have:=hb.size;omega
   ·simp[fpA] at e;have:=hb.size;omega,hbase⟩⟩
theorem ledF_take {M:MM}{gs:List (Cm×Value)}{i:Nat}{g:Cm×Value}(h:gs[i]? = some g):ledF M ((gs.take (i+1)).map (·.1))=(doM (ledF M ((gs.take i).map (·.1))) g.1).1:=by
 rw[List.take_add_one,h,List.map_append];exact ledF_append _ _ _
end Go.Proofs.YtgkabcaodnofnaaGreat
namespace Go.Md
structure VW where
 name:Bs
 cl:Nat
 back:Bs
 data:Bs
 shots:List (Bs×Bs)
 maps:List BM
def viewI (S:IL)(n:Bs)(i:IM):VW:=⟨n,i.cl,i.back,secs (secIn S 8 i i.size i.own) 0 i.size,i.shots.map (fun s=>(s.name,secs (secIn S 8 i s.size s.own) 0 s.size)),i.maps⟩
def viewN (S:IL)(n:Bs):VW:=match fnd S n with
 | none=>⟨n,0,[],[],[],[]⟩
 | some i=>viewI S n i
def namesM (S:IL):List Bs:=sortN (S.map (·.1))
def viewsM (S:IL):List VW:=(namesM S).map (viewN S)
end Go.Md
namespace Go.Proofs.YtgkabcaodnofnaaGreat
open Go.RowKit Go.Mx Go.Md
structure VG where
 v:VW
 dv:Value
 sv:Value
 mv:Value
 sg:List (Bs×Bs×Value)
 ps:List PB
abbrev vrow (g:VG):List Value:=[str g.v.name,.int .i64 g.v.cl,str g.v.back,g.dv,g.sv,g.mv]
abbrev sgrow (q:Bs×Bs×Value):List Value:=[str q.1,q.2.2]
structure VIn (w:World)(lo base:Nat)(g:VG):Prop where
 d:OwnB w lo 5 g.dv g.v.data
 s:OwnG w lo 92 2 g.sv (g.sg.map sgrow)
 sd:∀ q∈g.sg,OwnB w lo 5 q.2.2 q.2.1
 se:g.v.shots=g.sg.map fun q=>(q.1,q.2.1)
 m:BMS w base g.mv g.v.maps g.ps
 sn:g.v.shots.length<=8
variable {w w':World}{lo base:Nat}{g:VG}
def VT (w:World)(N:Nat->Prop):Prop:=∀ b c t f,w.heap[b]? = some (.cells c t f)->t=5\/t=45\/t=92\/t=108\/t=111->N b
theorem VIn.kept {N:Nat->Prop}(h:VIn w lo base g)(hk:Kept w w' N)(hN:∀ b c t f,w.heap[b]? = some (.cells c t f)->t=5\/t=92\/t=108\/t=111->N b):VIn w' lo base g where
 d:=h.d.kept hk fun q e=>by obtain⟨c,f,hc⟩:=ownB_type h.d q e;exact hN q c _ f hc (.inl rfl)
 s:=h.s.kept hk fun q e=>by obtain⟨c,f,hc⟩:=ownG_type h.s q e;exact hN q c _ f hc (.inr (.inl rfl))
 sd:=fun p hp=>(h.sd p hp).kept hk fun q e=>by obtain⟨c,f,hc⟩:=ownB_type (h.sd p hp) q e;exact hN q c _ f hc (.inl rfl)
 se:=h.se
 m:=h.m.kept hk fun b c t f hc ht=>hN b c t f hc (by rcases ht with h|h<;>simp[h])
 sn:=h.sn
theorem VIn.below (h:VIn w lo base g)(hb:Below w.heap.size w w'):VIn w' lo base g :=
 h.kept (Kept.of_below (N:=fun _=>True) hb fun k hk _=>hk) fun _ _ _ _ _ _=>trivial
theorem VIn.any (h:VIn w lo base g){lo':Nat}(hl:lo'<=lo):VIn w lo' base g :=
 ⟨h.d.any_base hl,h.s.any_base hl,fun q hq=>(h.sd q hq).any_base hl,h.se,h.m,h.sn⟩
def VS (w:World)(lo base:Nat)(v:Value)(vs:List VW):Prop:=∃ gs:List VG,vs=gs.map (·.v)/\OwnG w lo 45 6 v (gs.map vrow)/\∀ g∈gs,VIn w lo base g
theorem VS.kept {N:Nat->Prop}{v:Value}{vs:List VW}(h:VS w lo base v vs)(hk:Kept w w' N)(hN:VT w N):VS w' lo base v vs:=by
 obtain⟨gs,h1,h2,h3⟩:=h;refine⟨gs,h1,h2.kept hk fun q e=>?_,fun g hg=>(h3 g hg).kept hk fun b c t f hc ht=>hN b c t f hc (by rcases ht with h|h|h|h<;>simp[h])⟩
 obtain⟨c,f,hc⟩:=ownG_type h2 q e;exact hN q c _ f hc (by simp)
theorem VS.below {v:Value}{vs:List VW}(h:VS w lo base v vs)(hb:Below w.heap.size w w'):VS w' lo base v vs :=
 h.kept (Kept.of_below (N:=fun _=>True) hb fun k hk _=>hk) fun _ _ _ _ _ _=>trivial
def VR (w:World)(v:Value)(vs:List VW):Prop:=∃ gs:List VG,vs=gs.map (·.v)/\SlG w w.heap.size 6 v (gs.map vrow)/\∀ g∈gs,VIn w 0 0 g
theorem VS.vr {v:Value}{vs:List VW}(h:VS w lo base v vs):VR w v vs:=by
 obtain⟨gs,h1,h2,h3⟩:=h;exact⟨gs,h1,h2.slG,fun g hg=>by have:=(h3 g hg).any (Nat.zero_le _);exact⟨this.d,this.s,this.sd,this.se,this.m.any_base (Nat.zero_le _),this.sn⟩⟩
end Go.Proofs.YtgkabcaodnofnaaGreat
namespace Go.Md
open Go.Proofs.YtgkabcaodnofnaaGreat
theorem secOf_fnd {S T:IL}(h:∀ n,fnd S n=fnd T n):∀ (d:Nat) (n:Bs) (s:Nat),secOf S d n s=secOf T d n s
 | 0,_,_=>rfl
 | d+1,n,s=>by
  unfold secOf;rw[h n];cases fnd T n with
  | none=>rfl
  | some i=>simp only;rw[secOf_fnd h d i.back s]
theorem secIn_fnd {S T:IL}(h:∀ n,fnd S n=fnd T n)(d:Nat)(i:IM)(size:Nat)(own:Nat->Option Bs):secIn S d i size own=secIn T d i size own:=by
 funext s;unfold secIn;rw[secOf_fnd h d i.back s]
theorem viewN_fnd {S T:IL}(h:∀ n,fnd S n=fnd T n)(n:Bs):viewN S n=viewN T n:=by
 unfold viewN;rw[h n];cases fnd T n with
 | none=>rfl
 | some i =>
  simp only[viewI];rw[secIn_fnd h]
  congr 1
  apply List.map_congr_left;intro s _;rw[secIn_fnd h]
theorem names_perm {S T:IL}(h:∀ n,fnd S n=fnd T n)(hs:(S.map (·.1)).Nodup)(ht:(T.map (·.1)).Nodup):(S.map (·.1)).Perm (T.map (·.1)):=by
 refine(List.perm_ext_iff_of_nodup hs ht).2 fun n=>?_;rw[<-fnd_isSome_mem,<-fnd_isSome_mem,h n]
theorem namesM_fnd {S T:IL}(h:∀ n,fnd S n=fnd T n)(hs:(S.map (·.1)).Nodup)(ht:(T.map (·.1)).Nodup):namesM S=namesM T:=by
 unfold namesM sortN;exact mergeSort_of_perm (names_perm h hs ht)
theorem viewsM_fnd {S T:IL}(h:∀ n,fnd S n=fnd T n)(hs:(S.map (·.1)).Nodup)(ht:(T.map (·.1)).Nodup):viewsM S=viewsM T:=by
 unfold viewsM;rw[namesM_fnd h hs ht];apply List.map_congr_left;intro n _;exact viewN_fnd h n
def flC (n:Bs):Cm:=⟨8,n,[],0,0,0,[]⟩
theorem doM_flush {M:MM}{n:Bs}(h:(fnd M.all n).isSome=true):doM M (flC n)=(flushedM M n,{},flushedN M n):=by
 unfold doM flC;rw[if_neg (by simp),if_neg (by rintro⟨_,_,h3⟩;simp only at h3;rw[h3] at h;cases h)];rfl
theorem flushed_all (M:MM)(n:Bs):(flushedM M n).all=M.all:=by
 unfold flushedM flushM;split
 ·split<;>rfl
 ·rfl
theorem flushed_ch {M:MM}{n:Bs}(h:(fnd M.all n).isSome=true)(m:Bs):(flushedM M n).ch m=if m=n then false else M.ch m:=by
 obtain⟨i,hi⟩:=Option.isSome_iff_exists.1 h;unfold flushedM flushM;split
 ·rw[hi]
 ·rename_i hc;split
  ·rename_i e;rw[e];simpa using hc
  ·rfl
def flM (M:MM)(k:Nat):MM:=((namesM M.all).take k).foldl flushedM M
theorem flM_succ {M:MM}{k:Nat}{n:Bs}(h:(namesM M.all)[k]? = some n):flM M (k+1)=flushedM (flM M k) n:=by
 unfold flM;rw[List.take_add_one,h,List.foldl_append];rfl
theorem flM_all (M:MM):∀ k,(flM M k).all=M.all
 | 0=>rfl
 | k+1=>by
  cases h:(namesM M.all)[k]? with
  | none=>have h9:=flM_all M k;unfold flM at h9 ⊢;rw[List.take_add_one,h];simpa using h9
  | some n=>rw[flM_succ h,flushed_all,flM_all M k]
theorem names_some {S:IL}{k:Nat}{n:Bs}(h:(namesM S)[k]? = some n):(fnd S n).isSome=true:=by
 rw[fnd_isSome_mem];exact(List.mergeSort_perm _ _).mem_iff.1 (List.mem_of_getElem? h)
theorem flM_ch (M:MM):∀ k n,(flM M k).ch n=true->M.ch n=true/\n∉(namesM M.all).take k
 | 0,n,h=>⟨h,by simp⟩
 | k+1,n,h=>by
  cases hn:(namesM M.all)[k]? with
  | none =>
   have e:flM M (k+1)=flM M k:=by unfold flM;rw[List.take_add_one,hn];simp
   rw[e] at h;rw[List.take_add_one,hn];simpa using flM_ch M k n h
  | some m =>
   rw[flM_succ hn,flushed_ch (by rw[flM_all];exact names_some hn)] at h;split at h
   ·cases h
   ·rename_i hne;have:=flM_ch M k n h;rw[List.take_add_one,hn];exact⟨this.1,by simp;exact⟨by simpa using this.2,hne⟩⟩
theorem flM_kept {M:MM}(h:MOk M)(hF:MOk (flM M (namesM M.all).length))(n:Bs):fnd (flM M (namesM M.all).length).kept n=fnd M.all n:=by
 have hc:(flM M (namesM M.all).length).ch n=false:=by
  cases hc:(flM M (namesM M.all).length).ch n with
  | false=>rfl
  | true =>
   have h1:=flM_ch M _ n hc;have h2:=h.cn n h1.1;rw[List.take_length] at h1;exact absurd ((List.mergeSort_perm _ _).mem_iff.2 (fnd_isSome_mem.1 h2)) h1.2
 rw[hF.ch n hc,flM_all]
end Go.Md
