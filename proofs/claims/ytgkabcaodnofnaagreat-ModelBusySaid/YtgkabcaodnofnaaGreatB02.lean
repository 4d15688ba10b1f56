import Derived.Test.YtgkabcaodnofnaaGreatB01
import Derived.Below
import Derived.Deep.RegionHeld3
import Derived.Deep.RegionHeld
set_option linter.unusedSimpArgs false
set_option linter.unusedVariables false
namespace Go.Mx
open Go.RowKit
structure Kept (w w':World)(N:Nat->Prop):Prop where
 size:w.heap.size<=w'.heap.size
 block:∀ k,k<w.heap.size->N k->w'.heap[k]? = w.heap[k]?
 st:w'.os=w.os/\w'.tape=w.tape/\w'.output=w.output
theorem Kept.cell {w w':World}{N:Nat->Prop}(h:Kept w w' N){b o:Nat}(hb:b<w.heap.size)(hn:N b):w'.cell? ⟨b,o,none⟩=w.cell? ⟨b,o,none⟩ :=
 World.cell?_of_block (h.block b hb hn)
theorem Kept.trans {a b c:World}{N:Nat->Prop}(h:Kept a b N)(k:Kept b c N):Kept a c N :=
 ⟨Nat.le_trans h.size k.size,fun i hi hn=>(k.block i (Nat.lt_of_lt_of_le hi h.size) hn).trans (h.block i hi hn),k.st.1.trans h.st.1,k.st.2.1.trans h.st.2.1,k.st.2.2.trans h.st.2.2⟩
theorem Kept.of_below {w w':World}{B:Nat}{N:Nat->Prop}(h:Below B w w')(hN:∀ k,k<w.heap.size->N k->k<B):Kept w w' N:=⟨h.size,fun k hk hn=>h.block k (hN k hk hn),h.os,h.tape,h.output⟩
theorem Kept.set (w:World)(b o:Nat)(v:Value){N:Nat->Prop}(hn:¬ N b):Kept w (w.setCell ⟨b,o,none⟩ v) N :=
 ⟨by simp,fun k _ hk=>Below.heap_setCell w ⟨b,o,none⟩ v k (fun e=>hn (by subst e;exact hk)),rfl,rfl,rfl⟩
theorem Kept.grown {w w':World}{r:Option Nat}{N:Nat->Prop}(h:w.grownBy w' r)(hn:∀ k,r=some k->¬ N k):Kept w w' N :=
 ⟨h.size,fun k hk hN=>h.block k hk (fun e=>hn k e.symm hN),h.os,h.tape,h.output⟩
theorem Kept.drew (w:World)(N:Nat->Prop):Kept w w.drew N:=⟨nlr,fun _ _ _=>rfl,rfl,rfl,rfl⟩
theorem Kept.refl (w:World)(N:Nat->Prop):Kept w w N:=⟨nlr,fun _ _ _=>rfl,rfl,rfl,rfl⟩
theorem Kept.alloc (w:World)(o:Obj)(N:Nat->Prop):Kept w (w.alloc o) N:=.of_below ((Below.refl w.heap.size w).alloc nlr o) fun _ h _=>h
theorem append_slg {P:Program}(w:World){ops:Array Oper}{rest:List Oper}{o:Oper}{a:Act}{Q:Exit->Act->World->Prop}(hgd:o.guard=none)(s x:Operand)(t e:TypeId)
  (ho:o.op = .call {callee:=.builtin .append,args := #[s,x],argTypes := #[t,t]})
  (ht:P.underlying t=some (.slice e)) (hi:(P.info? e).map (fun i=>(i.zero,i.size,i.bytes))=some (some (.int .u8 0),1,1))
  (base:Nat) (v:Value) (l:List UInt8) (hs:a.eval s=v) (hown:OwnB w base e v l) (xv:Value) (bs:List UInt8) (B:Nat) (hx:a.eval x=xv) (hsl:SlB w B xv bs)
  (hlen:l.length+bs.length<=140737488355328) (hB:base<=w.heap.size)
  (h:∀ v' w',OwnB w' base e v' (l++bs)->w.grownBy w' v.ownBlock->wpList P ops Q rest (a.put o.dst v') w'):wpList P ops Q (o :: rest) a w:=by
 obtain⟨i0,hi0,hz0,hz1,hz2⟩:=info_parts hi;obtain⟨oa,cap,rfl,h1,h2,h3⟩:=hsl;cases oa with
 | none =>
  have hb:bs=[]:=by
   cases bs with
   | nil=>rfl
   | cons y r=>obtain⟨_,_,hh,_⟩:=h3 (by simp);cases hh
  subst hb;refine wpList_plain hgd fun K hK=>?_;have hrun:=run_append_nosrc (P:=P) (w:=w) (ty:=o.type) ht hi0 hown cap;unfold Oper.wp;simp[execOp,ho,resolve,invoke,builtin,hs,hx,hrun,Result.andThen];exact hK _ _ (h v w (by simpa using hown) (World.grownBy.refl w _))
 | some ad =>
  refine wpList_append_own w hgd s x t ho base e i0 _ 1 1 ht hi0 hz0 hz1 hz2 rfl (by decide) v l.length _ hs hown ad bs.length cap (bs.map u8) hx (by simp) ?_ ?_ ?_ ?_ hB ?_
  ·intro j u hj;simp only[List.getElem?_map] at hj;cases hb:bs[j]? with
   | none=>rw[hb] at hj;cases hj
   | some y =>
    rw[hb] at hj;simp only[Option.map_some,Option.some.injEq] at hj;subst hj;have hjl:j<bs.length:=(List.getElem?_eq_some_iff.1 hb).1;obtain⟨bb,bo,hh,_,hr⟩:=h3 (by rintro rfl;simp at hjl);cases hh
    have e:(⟨bb,bo,none⟩:Addr).add j=⟨bb,bo+j,none⟩:=by unfold Addr.add;split<;>simp_all
    rw[e,hr j hjl,List.getD_eq_getElem?_getD,hb];rfl
  ·intro u hu;simp at hu;obtain⟨y,_,rfl⟩:=hu;rfl
  ·unfold maxLen;omega
  ·omega
  ·intro v' w' ho' hg' _;exact h v' w' (by unfold OwnB;simpa using ho') hg'
theorem SlB.kept {w w':World}{N:Nat->Prop}{B:Nat}{v:Value}{bs:List UInt8}(h:SlB w B v bs)(hB:B<=w.heap.size)(hk:Kept w w' N)(hN:∀ k,k<B->N k):SlB w' B v bs:=by
 obtain⟨oa,cap,rfl,h1,h2,h3⟩:=h;refine⟨oa,cap,rfl,h1,h2,fun hn=>?_⟩;obtain⟨bb,bo,rfl,hl,hr⟩:=h3 hn;exact⟨bb,bo,rfl,hl,fun i hi=>(hk.cell (by omega) (hN bb hl)).trans (hr i hi)⟩
theorem OwnB.sl_kept {w w':World}{N:Nat->Prop}{base:Nat}{e:TypeId}{v:Value}{bs:List UInt8}(h:OwnB w base e v bs)(hk:Kept w w' N)(hN:∀ k,base<=k->k<w.heap.size->N k):SlB w' w.heap.size v bs:=by
 rcases h.shape with⟨rfl,rfl⟩|⟨g,cap,rfl,h1,h2,h3,h4,h5⟩
 ·exact SlB.nil _ _
 ·exact⟨_,cap,rfl,h3,h4,fun _=>⟨g,0,rfl,h2,fun i hi=>(hk.cell h2 (hN g h1 h2)).trans (h5 i hi)⟩⟩
theorem OwnB.kept {w w':World}{N:Nat->Prop}{base:Nat}{e:TypeId}{v:Value}{l:List UInt8}(h:OwnB w base e v l)(hk:Kept w w' N)(hv:∀ k,v.ownBlock=some k->N k):OwnB w' base e v l:=by
 have hlt:=h.lt;refine⟨h.1,?_⟩;rcases h.2 with hn|⟨g,cap,cur,rfl,hbg,hgg,rest⟩
 ·exact .inl hn
 ·exact .inr ⟨g,cap,cur,rfl,hbg,by rw[hk.block g (hlt g rfl) (hv g rfl)];exact hgg,rest⟩
theorem OwnB.not_block {w:World}{base:Nat}{e t:TypeId}{v:Value}{l:List UInt8}(h:OwnB w base e v l){q:Nat}{c:Array Value}{f:Nat×Nat}(hq:w.heap[q]? = some (.cells c t f))(ht:t≠e):v.ownBlock≠some q:=by
 intro hv;rcases h.2 with⟨rfl,_⟩|⟨g,cap,cur,rfl,hbg,hgg,rest⟩
 ·cases hv
 ·cases hv
  rw[hgg] at hq;simp only[Option.some.injEq,Obj.cells.injEq] at hq;exact ht hq.2.1.symm
theorem ownsRow_kept {w w':World}{N:Nat->Prop}{base s n:Nat}{e:TypeId}{v:Value}{xs:List Value}(h:w.ownsRow base e s v n xs)(hk:Kept w w' N)(hv:∀ k,v.ownBlock=some k->N k):w'.ownsRow base e s v n xs:=by
 have hlt:=fun k hk=>(World.ownsRow.lt h k hk).2;refine⟨h.1,?_⟩;rcases h.2 with hn|⟨g,cap,cur,rfl,hbg,hgg,rest⟩
 ·exact .inl hn
 ·exact .inr ⟨g,cap,cur,rfl,hbg,by rw[hk.block g (hlt g rfl) (hv g rfl)];exact hgg,rest⟩
theorem ownsRow_not {w:World}{base s n:Nat}{e t:TypeId}{v:Value}{xs:List Value}(h:w.ownsRow base e s v n xs){q:Nat}{c:Array Value}{f:Nat×Nat}(hq:w.heap[q]? = some (.cells c t f))(ht:t≠e):v.ownBlock≠some q:=by
 intro hv;rcases h.2 with⟨rfl,_⟩|⟨g,cap,cur,rfl,hbg,hgg,rest⟩
 ·cases hv
 ·cases hv
  rw[hgg] at hq;simp only[Option.some.injEq,Obj.cells.injEq] at hq;exact ht hq.2.1.symm
theorem ownsRow_apart {w:World}{b1 b2 s1 s2 n1 n2:Nat}{e1 e2:TypeId}{v1 v2:Value}{xs1 xs2:List Value}(h1:w.ownsRow b1 e1 s1 v1 n1 xs1)(h2:w.ownsRow b2 e2 s2 v2 n2 xs2)(ht:e1≠e2):∀ k,v1.ownBlock=some k->v2.ownBlock≠some k:=by
 intro k hk;rcases h1.2 with⟨rfl,_⟩|⟨g,cap,cur,rfl,hbg,hgg,rest⟩
 ·cases hk
 ·cases hk
  exact ownsRow_not h2 hgg ht
theorem append_intg {P:Program}(w:World){ops:Array Oper}{rest:List Oper}{o:Oper}{a:Act}{Q:Exit->Act->World->Prop}(hgd:o.guard=none)(s x:Operand)(t:TypeId)
  (ho:o.op = .call {callee:=.builtin .append,args := #[s,x],argTypes := #[t,t]})
  (ht:P.underlying t=some (.slice 3)) (hi:(P.info? 3).map (fun i=>(i.zero,i.size,i.bytes))=some (some (.int .i64 0),1,8))
  (base:Nat) (v:Value) (l:List Int) (n:Int) (hs:a.eval s=v) (hown:OwnI w base v l) (g c:Nat) (hx:a.eval x = .slice (some ⟨g,0,none⟩) 1 c)
  (hcell:w.cell? ⟨g,0,none⟩=some (.int .i64 n)) (hlen:l.length<=1000000000) (hB:base<=w.heap.size)
  (h:∀ v' w',OwnI w' base v' (l++[n])->w.grownBy w' v.ownBlock->wpList P ops Q rest (a.put o.dst v') w'):wpList P ops Q (o :: rest) a w:=by
 obtain⟨i0,hi0,hz0,hz1,hz2⟩:=info_parts hi;have hown':w.ownsRow base 3 1 v l.length (l.map (.int .i64)):=by have:=hown;unfold OwnI OwnV at this;simpa using this
 refine wpList_append_own w hgd s x t ho base 3 i0 _ 1 8 ht hi0 hz0 hz1 hz2 rfl (by decide) v l.length _ hs hown' ⟨g,0,none⟩ 1 c [.int .i64 n] hx rfl ?_ ?_ ?_ ?_ hB ?_
 ·intro j y hj
  match j,hj with
  | 0,hj=>simp at hj;subst hj;simpa[Addr.add] using hcell
 ·intro y hy;simp at hy;subst hy;rfl
 ·unfold maxLen;omega
 ·omega
 ·intro v' w' ho' hg' _;exact h v' w' (by unfold OwnI OwnV;simpa using ho') hg'
def OwnG (w:World)(base:Nat)(e:TypeId)(s:Nat)(v:Value)(rows:List (List Value)):Prop:=w.ownsRow base e s v rows.length rows.flatten/\∀ r∈rows,r.length=s
theorem OwnG.nil (w:World)(base:Nat)(e:TypeId)(s:Nat):OwnG w base e s (.slice none 0 0) []:=⟨World.ownsRow_nil w base e s,by simp⟩
section
variable {w w':World}{base:Nat}{e:TypeId}{s:Nat}{v:Value}{rows:List (List Value)}
theorem OwnG.slG (h:OwnG w base e s v rows):SlG w w.heap.size s v rows:=ownsRow_slG h.1 h.2
theorem OwnG.lt (h:OwnG w base e s v rows):∀ k,v.ownBlock=some k->k<w.heap.size:=fun k hk=>(World.ownsRow.lt h.1 k hk).2
theorem OwnG.ge (h:OwnG w base e s v rows):∀ k,v.ownBlock=some k->base<=k:=fun k hk=>(World.ownsRow.lt h.1 k hk).1
theorem OwnG.kept {N:Nat->Prop}(h:OwnG w base e s v rows)(hk:Kept w w' N)(hv:∀ k,v.ownBlock=some k->N k):OwnG w' base e s v rows:=⟨ownsRow_kept h.1 hk hv,h.2⟩
theorem OwnG.below {B:Nat}(h:OwnG w base e s v rows)(hb:Below B w w')(hB:w.heap.size<=B):OwnG w' base e s v rows :=
 h.kept (.of_below hb fun k hk _=>Nat.lt_of_lt_of_le hk hB:Kept w w' fun _=>True) fun _ _=>trivial
theorem OwnG.any_base {base':Nat}(h:OwnG w base e s v rows)(hb:base'<=base):OwnG w base' e s v rows:=by
 refine⟨⟨h.1.1,?_⟩,h.2⟩;rcases h.1.2 with hn|⟨g,cap,cur,rfl,hbg,rest⟩
 ·exact .inl hn
 ·exact .inr ⟨g,cap,cur,rfl,by omega,rest⟩
theorem OwnG.shape (h:OwnG w base e s v rows):(v = .slice none 0 0/\rows=[])\/∃ g cap,v = .slice (some ⟨g,0,none⟩) rows.length cap/\base<=g/\g<w.heap.size:=by
 have hl:=h.lt;rcases h.1.2 with⟨h1,h2⟩|⟨g,cap,cur,rfl,hbg,rest⟩
 ·exact .inl ⟨h1,List.eq_nil_of_length_eq_zero h2⟩
 ·exact .inr ⟨g,cap,rfl,hbg,hl g rfl⟩
end
theorem addr_add (g j:Nat):(⟨g,0,none⟩:Addr).add j=⟨g,j,none⟩:=by unfold Addr.add;split<;>simp_all
theorem append_g {P:Program}(w:World){ops:Array Oper}{rest:List Oper}{o:Oper}{a:Act}{Q:Exit->Act->World->Prop}(hgd:o.guard=none)(s x:Operand)(t e:TypeId)(z:Value)(sz bytes:Nat)
  (ho:o.op = .call {callee:=.builtin .append,args := #[s,x],argTypes := #[t,t]})
  (ht:P.underlying t=some (.slice e)) (hi:(P.info? e).map (fun i=>(i.zero,i.size,i.bytes))=some (some z,sz,bytes)) (hz:z.cells.size=sz) (hsz:0<sz)
  (base:Nat) (v:Value) (rows:List (List Value)) (hs:a.eval s=v) (hown:OwnG w base e sz v rows) (g c:Nat) (row:List Value) (hx:a.eval x = .slice (some ⟨g,0,none⟩) 1 c)
  (hl:row.length=sz) (hcell:∀ j u,row[j]? = some u->w.cell? ⟨g,j,none⟩=some u) (hone:∀ u∈row,u.oneCell'=true)
  (hlen:(rows.length+1)*bytes<=140737488355328) (hlen2:rows.length+1<=140737488355328) (hB:base<=w.heap.size)
  (h:∀ v' w',OwnG w' base e sz v' (rows++[row])->w.grownBy w' v.ownBlock->Below base w w'->wpList P ops Q rest (a.put o.dst v') w'):wpList P ops Q (o :: rest) a w:=by
 obtain⟨i0,hi0,hz0,hz1,hz2⟩:=info_parts hi;refine wpList_append_own w hgd s x t ho base e i0 _ sz bytes ht hi0 hz0 hz1 hz2 hz hsz v rows.length _ hs hown.1 ⟨g,0,none⟩ 1 c row hx (by omega) ?_ hone ?_ hlen hB ?_
 ·intro j u hj;rw[addr_add];exact hcell j u hj
 ·unfold maxLen;omega
 ·intro v' w' ho' hg' _;refine h v' w' ⟨by simpa using ho',?_⟩ hg' ((Below.refl base w).grown hg' hB (fun k hk=>(World.ownsRow.lt hown.1 k hk).1));intro r hr;rcases List.mem_append.1 hr with hr|hr
  ·exact hown.2 r hr
  ·simp at hr;rw[hr];exact hl
theorem op_append_g {P:Program}(w:World){o:Oper}{a:Act}{K:Act->World->Prop}{Q:Exit->Act->World->Prop}(s x:Operand)(t e:TypeId)(z:Value)(sz bytes:Nat)
  (ho:o.op = .call {callee:=.builtin .append,args := #[s,x],argTypes := #[t,t]})
  (ht:P.underlying t=some (.slice e)) (hi:(P.info? e).map (fun i=>(i.zero,i.size,i.bytes))=some (some z,sz,bytes)) (hz:z.cells.size=sz) (hsz:0<sz)
  (base:Nat) (v:Value) (rows:List (List Value)) (hs:a.eval s=v) (hown:OwnG w base e sz v rows) (g c:Nat) (row:List Value) (hx:a.eval x = .slice (some ⟨g,0,none⟩) 1 c)
  (hl:row.length=sz) (hcell:∀ j u,row[j]? = some u->w.cell? ⟨g,j,none⟩=some u) (hone:∀ u∈row,u.oneCell'=true)
  (hlen:(rows.length+1)*bytes<=140737488355328) (hlen2:rows.length+1<=140737488355328) (hB:base<=w.heap.size)
  (h:∀ v' w',OwnG w' base e sz v' (rows++[row])->w.grownBy w' v.ownBlock->Below base w w'->K (a.put o.dst v') w'):o.wp P a w K Q:=by
 obtain⟨i0,hi0,hz0,hz1,hz2⟩:=info_parts hi;refine wp_append_own w s x t ho base e i0 _ sz bytes ht hi0 hz0 hz1 hz2 hz hsz v rows.length _ hs hown.1 ⟨g,0,none⟩ 1 c row hx (by omega) ?_ hone ?_ hlen hB ?_
 ·intro j u hj;rw[addr_add];exact hcell j u hj
 ·unfold maxLen;omega
 ·intro v' w' ho' hg' _;refine h v' w' ⟨by simpa using ho',?_⟩ hg' ((Below.refl base w).grown hg' hB (fun k hk=>(World.ownsRow.lt hown.1 k hk).1));intro r hr;rcases List.mem_append.1 hr with hr|hr
  ·exact hown.2 r hr
  ·simp at hr;rw[hr];exact hl
theorem step_append_g {P:Program}(w:World){ops:Array Oper}{o:Oper}{a:Act}{K:Act->World->Prop}{Q:Exit->Act->World->Prop}{E:Prop}(hgd:o.guard=none)(s x:Operand)(t e:TypeId)(z:Value)(sz bytes:Nat)
  (ho:o.op = .call {callee:=.builtin .append,args := #[s,x],argTypes := #[t,t]})
  (ht:P.underlying t=some (.slice e)) (hi:(P.info? e).map (fun i=>(i.zero,i.size,i.bytes))=some (some z,sz,bytes)) (hz:z.cells.size=sz) (hsz:0<sz)
  (base:Nat) (v:Value) (rows:List (List Value)) (hs:a.eval s=v) (hown:OwnG w base e sz v rows) (g c:Nat) (row:List Value) (hx:a.eval x = .slice (some ⟨g,0,none⟩) 1 c)
  (hl:row.length=sz) (hcell:∀ j u,row[j]? = some u->w.cell? ⟨g,j,none⟩=some u) (hone:∀ u∈row,u.oneCell'=true)
  (hlen:(rows.length+1)*bytes<=140737488355328) (hlen2:rows.length+1<=140737488355328) (hB:base<=w.heap.size)
  (h:∀ v' w',OwnG w' base e sz v' (rows++[row])->w.grownBy w' v.ownBlock->Below base w w'->K (a.put o.dst v') w'):if Region.wanted o (yielded ops a.tmps)=true then Oper.wp P o a w K Q else E:=by
 have hw:Region.wanted o (yielded ops a.tmps)=true:=by simp[Region.wanted,hgd]
 rw[if_pos hw];exact op_append_g w s x t e z sz bytes ho ht hi hz hsz base v rows hs hown g c row hx hl hcell hone hlen hlen2 hB h
theorem alloc_new (w:World)(o:Obj):(w.alloc o).heap[w.heap.size]? = some o:=by show(w.heap.push o)[w.heap.size]? = some o;simp
theorem blk_lt {w:World}{b:Nat}{o:Obj}(h:w.heap[b]? = some o):b<w.heap.size:=(Array.getElem?_eq_some_iff.1 h).1
theorem blk_ne {w:World}{b b':Nat}{c c':Array Value}{t t':TypeId}{fr fr':Nat×Nat}(h:w.heap[b]? = some (.cells c t fr))(h':w.heap[b']? = some (.cells c' t' fr'))(ht:t≠t'):b≠b':=by
 rintro rfl;rw[h] at h';simp only[Option.some.injEq,Obj.cells.injEq] at h';exact ht h'.2.1
theorem slB_shape {w:World}{B:Nat}{v:Value}{bs:List UInt8}(h:SlB w B v bs):∃ oa n c,v = .slice oa n c:=by obtain⟨oa,c,rfl,_⟩:=h;exact⟨_,_,_,rfl⟩
theorem row_cells (w:World)(row:List Value)(e:TypeId):∀ j u,row[j]? = some u->(w.alloc (.cells row.toArray e)).cell? ⟨w.heap.size,j,none⟩=some u:=by
 intro j u hj;have:=alloc_new w (.cells row.toArray e);simp only[World.cell?,this];simpa using hj
theorem nk:(∀ (a:Act)(d:Tmp)(v:Value),a.put (some d) v={a with tmps:=a.tmps.setIfInBounds d v})/\(∀ (a:Act)(v:Value),a.put none v=a)/\
  (∀ (xs:List Value) (i:Nat) (h:i<xs.toArray.size),xs.toArray[i]=xs[i]'(by simpa using h))/\(∀ (a:Value) (bs:List Value) (i:Nat) (h:i+1<(a :: bs).length),(a :: bs)[i+1]=bs[i]'(by simpa using h))/\
  (∀ (a:Value) (bs:List Value) (h:0<(a :: bs).length),(a :: bs)[0]=a)/\(∀ (l:List Value) (i:Nat) (a:Value),l.toArray.setIfInBounds i a=(l.set i a).toArray)/\
  (∀ (x:Value) (xs:List Value) (a:Value),(x :: xs).set 0 a=a :: xs)/\(∀ (x:Value) (xs:List Value) (i:Nat) (a:Value),(x :: xs).set (i+1) a=x :: xs.set i a)/\
  (∀ (l:List Bool) (i:Nat) (a:Bool),l.toArray.setIfInBounds i a=(l.set i a).toArray)/\(∀ (x:Bool) (xs:List Bool) (a:Bool),(x :: xs).set 0 a=a :: xs)/\(∀ (x:Bool) (xs:List Bool) (i:Nat) (a:Bool),(x :: xs).set (i+1) a=x :: xs.set i a) :=
 ⟨fun _ _ _=>rfl,fun _ _=>rfl,fun _ _ _=>List.getElem_toArray ..,fun _ _ _ _=>List.getElem_cons_succ ..,fun _ _ _=>rfl,fun _ _ _=>List.setIfInBounds_toArray ..,fun _ _ _=>rfl,fun _ _ _ _=>rfl,fun _ _ _=>List.setIfInBounds_toArray ..,fun _ _ _=>rfl,fun _ _ _ _=>rfl⟩
open Go
section
variable {P:Program}{ops:Array Oper}{Q:Exit->Act->World->Prop}{md:Region.Mode}{k:Nat}{S:World->Prop}
def wpAnyK (P:Program)(md:Region.Mode)(ops:Array Oper)(Q:Exit->Act->World->Prop)(k:Nat)(S:World->Prop):Nat->Array Bool->Act->World->Prop
 | 0,listed,a,w=>Region.ready md ops listed=[]/\Q .normal a w
 | fuel+1,listed,a,w =>
  (Region.ready md ops listed=[]->Q .normal a w)/\
  ∀ i∈Region.ready md ops listed,wpOp P ops Q i (fun a' w'=>((listed.setIfInBounds i true).getD k true=false->S w')/\wpAnyK P md ops Q k S fuel (listed.setIfInBounds i true) a' w') a w
theorem wpAny_of_K:∀ (fuel:Nat)(listed:Array Bool)(a:Act)(w:World),wpAnyK P md ops Q k S fuel listed a w->wpAny P md ops Q fuel listed a w
 | 0,_,_,_,h=>h
 | fuel+1,_,_,_,h=>⟨h.1,fun i hi=>wpOp_mono (fun a' w' h'=>wpAny_of_K fuel _ a' w' h'.2) (h.2 i hi)⟩
def DnK (md:Region.Mode)(ops:Array Oper)(listed:Array Bool):Prop:=∀ j o,ops[j]? = some o->listed.getD j true=true->∀ e∈o.after,Region.binds md e=true->listed.getD e.on false=true
def dnB (md:Region.Mode)(ops:Array Oper)(listed:Array Bool):Bool:=(List.range ops.size).all fun j => !listed.getD j true||((ops[j]?).map (·.after.all fun e => !Region.binds md e||listed.getD e.on false)).getD true
theorem dn_of {listed:Array Bool}(h:dnB md ops listed=true):DnK md ops listed:=by
 intro j o ho hl e he hb;unfold dnB at h;rw[List.all_eq_true] at h;have h1:=h j (List.mem_range.2 (Array.getElem?_eq_some_iff.1 ho).1);rw[hl,ho] at h1;simp only[Bool.not_true,Bool.false_or,Option.map_some,Option.getD_some,Array.all_eq_true_iff_forall_mem,Bool.or_eq_true,Bool.not_eq_true'] at h1;rcases h1 e he with h2|h2
 ·rw[hb] at h2;cases h2
 ·exact h2
theorem dn_step {listed:Array Bool}(h:DnK md ops listed){i:Nat}(hi:i∈Region.ready md ops listed):DnK md ops (listed.setIfInBounds i true):=by
 intro j o ho hl e he hb;by_cases hji:i=j
 ·subst hji;obtain⟨_,o',ho',hall⟩:=mem_ready.1 hi;rw[ho] at ho';cases ho';exact getD_set_true (hall e he hb)
 ·rw[getD_set_ne true hji] at hl;exact getD_set_true (h j o ho hl e he hb)
def waitsK (md:Region.Mode)(ops:Array Oper)(i:Nat):Nat->Nat->Bool
 | 0,k=>k==i
 | f+1,k=>k==i||((ops[k]?).map (·.after.any fun e=>Region.binds md e&&waitsK md ops i f e.on)).getD false
theorem waits_listed {listed:Array Bool}(h:DnK md ops listed){i:Nat}:∀ (f k:Nat),k<ops.size->waitsK md ops i f k=true->listed.getD k true=true->listed.getD i true=true
 | 0,k,_,hw,hl=>by simp[waitsK] at hw;exact hw▸hl
 | f+1,k,hk,hw,hl=>by
  unfold waitsK at hw;rw[Bool.or_eq_true] at hw;rcases hw with h1|h1
  ·have:k=i:=by simpa using h1
   exact this▸hl
  ·rw[Array.getElem?_eq_getElem hk] at h1;simp only[Option.map_some,Option.getD_some] at h1;obtain⟨e,he,hb⟩:=Array.any_eq_true'.1 h1;rw[Bool.and_eq_true] at hb;have h2:=h k _ (Array.getElem?_eq_getElem hk) hl e he hb.1;have h3:listed.getD e.on true=true:=by
    cases hq:listed[e.on]? with
    | none=>simp[Array.getD_eq_getD_getElem?,hq]
    | some b=>simp[Array.getD_eq_getD_getElem?,hq] at h2 ⊢;exact h2
   by_cases hs:e.on<ops.size
   ·exact waits_listed h f e.on hs hb.2 h3
   ·-- an edge beyond the region
    cases f with
    | zero=>simp[waitsK] at hb;exact hb.2▸h3
    | succ f =>
     have h4:=hb.2;unfold waitsK at h4;rw[Array.getElem?_eq_none (by omega)] at h4;simp at h4;exact h4▸h3
theorem wpAnyK_first {i:Nat}{oi:Oper}{v:Value}(hi:ops[i]? = some oi)(hsel:∀ (j:Nat) (o:Oper) cs b,ops[j]? = some o->o.op≠.select cs b)
  (hQ:∀ c a w,Q (.panic c) (a.put oi.dst v) w->Q (.panic c) a w) (hk:k<ops.size) (hik:i≠k) {f:Nat} (hw:waitsK md ops i f k=true) :
  ∀ (fuel:Nat) (listed:Array Bool) (a:Act) (w:World),DnK md ops listed->
   (∀ j oj,ops[j]? = some oj->j≠i->listed.getD j true=false->(∀ e∈oj.after,Region.binds md e=true->e.on≠i)->oi.apart ops oj=true)->
   i∈Region.ready md ops listed->YieldsIf P ops S oi v a->S w->
   wpAnyK P md ops Q k S fuel (listed.setIfInBounds i true) (a.put oi.dst v) w->wpAnyK P md ops Q k S (fuel+1) listed a w:=by
 intro fuel
 induction fuel with
 | zero =>
  intro listed a w hd hfree hr hy hS H;refine⟨fun h=>(by rw[h] at hr;cases hr),fun j hj=>?_⟩;by_cases hji:j=i
  ·subst hji;exact hy.wpOp hi hS ⟨fun _=>hS,H⟩
  ·have:=ready_mono hj hji;rw[H.1] at this;cases this
 | succ fuel ih =>
  intro listed a w hd hfree hr hy hS H;refine⟨fun h=>(by rw[h] at hr;cases hr),fun j hj=>?_⟩;by_cases hji:j=i
  ·subst hji;exact hy.wpOp hi hS ⟨fun _=>hS,H⟩
  ·have h1:=H.2 j (ready_mono hj hji);obtain⟨hjun,oj,hoj,hall⟩:=mem_ready.1 hj;have hiun:=(mem_ready.1 hr).1;have hnot:∀ e∈oj.after,Region.binds md e=true->e.on≠i:=fun e he hb heq=>by
    have h1:=hall e he hb;have h0:=(mem_ready.1 hr).1;rw[heq] at h1;rcases Nat.lt_or_ge i listed.size with h'|h'
    ·simp[h'] at h0 h1;rw[h0] at h1;cases h1
    ·simp[Array.getElem?_eq_none h'] at h1
   have h2:=wpOp_putIf hoj (hfree j oj hoj hji hjun hnot) (fun cs b=>hsel i oi cs b hi) (fun cs b=>hsel j oj cs b hoj) hQ hy h1;have hfree':∀ k ok,ops[k]? = some ok->k≠i->(listed.setIfInBounds j true).getD k true=false->
     (∀ e∈ok.after,Region.binds md e=true->e.on≠i)->oi.apart ops ok=true:=fun k ok hk hki hun hno=>by
    refine hfree k ok hk hki ?_ hno;by_cases hjk:j=k
    ·subst hjk;exact hjun
    ·rw[getD_set_ne true hjk] at hun;exact hun
   have hd':=dn_step hd hj;have hiun':(listed.setIfInBounds j true).getD i true=false:=by rw[getD_set_ne true hji];exact hiun
   have hkun:(listed.setIfInBounds j true).getD k true=false:=by
    cases hq:(listed.setIfInBounds j true).getD k true with
    | false=>rfl
    | true=>rw[waits_listed hd' f k hk hw hq] at hiun';cases hiun'
   have hkun2:((listed.setIfInBounds i true).setIfInBounds j true).getD k true=false:=by
    rw[Array.setIfInBounds_comm _ _ (Ne.symm hji),getD_set_ne true hik];exact hkun
   refine wpOp_mono (fun a' w' h3=>?_) h2;have hS':S w':=h3.2.1 hkun2;exact⟨fun _=>hS',ih (listed.setIfInBounds j true) a' w' hd' hfree' (ready_mono hr (Ne.symm hji)) h3.1 hS' (by
    rw[Array.setIfInBounds_comm _ _ hji];exact h3.2.2)⟩
theorem wpAnyK_firstP {i:Nat}{oi:Oper}{v:Value}(hi:ops[i]? = some oi)(hsel:∀ (j:Nat) (o:Oper) cs b,ops[j]? = some o->o.op≠.select cs b)
  (hQ:∀ c a w,Q (.panic c) (a.put oi.dst v) w->Q (.panic c) a w) (hik:i≠k) :
  ∀ (fuel:Nat) (listed:Array Bool) (a:Act) (w:World),
   (∀ j oj,ops[j]? = some oj->j≠i->listed.getD j true=false->(∀ e∈oj.after,Region.binds md e=true->e.on≠i)->oi.apart ops oj=true)->
   i∈Region.ready md ops listed->YieldsIf P ops (fun _=>True) oi v a->(listed.getD k true=false->S w)->
   wpAnyK P md ops Q k S fuel (listed.setIfInBounds i true) (a.put oi.dst v) w->wpAnyK P md ops Q k S (fuel+1) listed a w:=by
 intro fuel
 induction fuel with
 | zero =>
  intro listed a w hfree hr hy hS H;refine⟨fun h=>(by rw[h] at hr;cases hr),fun j hj=>?_⟩;by_cases hji:j=i
  ·subst hji;exact hy.wpOp hi trivial ⟨fun h=>hS (by rwa[getD_set_ne true hik] at h),H⟩
  ·have:=ready_mono hj hji;rw[H.1] at this;cases this
 | succ fuel ih =>
  intro listed a w hfree hr hy hS H;refine⟨fun h=>(by rw[h] at hr;cases hr),fun j hj=>?_⟩;by_cases hji:j=i
  ·subst hji;exact hy.wpOp hi trivial ⟨fun h=>hS (by rwa[getD_set_ne true hik] at h),H⟩
  ·have h1:=H.2 j (ready_mono hj hji);obtain⟨hjun,oj,hoj,hall⟩:=mem_ready.1 hj;have hnot:∀ e∈oj.after,Region.binds md e=true->e.on≠i:=fun e he hb heq=>by
    have h1:=hall e he hb;have h0:=(mem_ready.1 hr).1;rw[heq] at h1;rcases Nat.lt_or_ge i listed.size with h'|h'
    ·simp[h'] at h0 h1;rw[h0] at h1;cases h1
    ·simp[Array.getElem?_eq_none h'] at h1
   have h2:=wpOp_putIf hoj (hfree j oj hoj hji hjun hnot) (fun cs b=>hsel i oi cs b hi) (fun cs b=>hsel j oj cs b hoj) hQ hy h1;have hfree':∀ k ok,ops[k]? = some ok->k≠i->(listed.setIfInBounds j true).getD k true=false->
     (∀ e∈ok.after,Region.binds md e=true->e.on≠i)->oi.apart ops ok=true:=fun k ok hk hki hun hno=>by
    refine hfree k ok hk hki ?_ hno;by_cases hjk:j=k
    ·subst hjk;exact hjun
    ·rw[getD_set_ne true hjk] at hun;exact hun
   have hkk:((listed.setIfInBounds i true).setIfInBounds j true).getD k true=(listed.setIfInBounds j true).getD k true:=by
    rw[Array.setIfInBounds_comm _ _ (Ne.symm hji),getD_set_ne true hik]
   refine wpOp_mono (fun a' w' h3=>?_) h2;have hS':(listed.setIfInBounds j true).getD k true=false->S w':=fun h=>h3.2.1 (hkk.trans h);exact⟨hS',ih (listed.setIfInBounds j true) a' w' hfree' (ready_mono hr (Ne.symm hji)) h3.1 hS' (by
    rw[Array.setIfInBounds_comm _ _ hji];exact h3.2.2)⟩
theorem wpAnyK_pure {i:Nat}{oi:Oper}{v:Value}{fuel:Nat}{listed:Array Bool}{a:Act}{w:World}(hi:ops[i]? = some oi)
  (hc:(Region.noSelect ops&&(!(i==k)&&(Region.free md ops listed i&&(Region.ready md ops listed).contains i)))=true)
  (hQ:∀ c a w,Q (.panic c) (a.put oi.dst v) w->Q (.panic c) a w) (hy:YieldsIf P ops (fun _=>True) oi v a) (hS:listed.getD k true=false->S w)
  (h:wpAnyK P md ops Q k S fuel (listed.setIfInBounds i true) (a.put oi.dst v) w):wpAnyK P md ops Q k S (fuel+1) listed a w:=by
 simp only[Bool.and_eq_true,Bool.not_eq_true',decide_eq_true_eq,beq_eq_false_iff_ne] at hc;obtain⟨h1,h3,h6,h7⟩:=hc;exact wpAnyK_firstP hi (Region.noSelect_spec h1) hQ h3 fuel listed a w (Region.free_spec hi h6) (by simpa using h7) hy hS h
theorem wpAnyK_take {i:Nat}{oi:Oper}{v:Value}{fuel:Nat}{listed:Array Bool}{a:Act}{w:World}(hi:ops[i]? = some oi)
  (hc:(Region.noSelect ops&&(decide (k<ops.size)&&(!(i==k)&&(waitsK md ops i ops.size k&&(dnB md ops listed&&(Region.free md ops listed i&&(Region.ready md ops listed).contains i))))))=true)
  (hQ:∀ c a w,Q (.panic c) (a.put oi.dst v) w->Q (.panic c) a w) (hy:YieldsIf P ops S oi v a) (hS:S w)
  (h:wpAnyK P md ops Q k S fuel (listed.setIfInBounds i true) (a.put oi.dst v) w):wpAnyK P md ops Q k S (fuel+1) listed a w:=by
 simp only[Bool.and_eq_true,Bool.not_eq_true',decide_eq_true_eq,beq_eq_false_iff_ne] at hc;obtain⟨h1,h2,h3,h4,h5,h6,h7⟩:=hc;exact wpAnyK_first hi (Region.noSelect_spec h1) hQ h2 h3 h4 fuel listed a w (dn_of h5) (Region.free_spec hi h6) (by simpa using h7) hy hS h
def AllReadyK (P:Program)(md:Region.Mode)(ops:Array Oper)(Q:Exit->Act->World->Prop)(k:Nat)(S:World->Prop)(fuel:Nat)(listed:Array Bool)(a:Act)(w:World)(rs:List Nat):Prop :=
 ∀ i∈rs,wpOp P ops Q i (fun a' w'=>((listed.setIfInBounds i true).getD k true=false->S w')/\wpAnyK P md ops Q k S fuel (listed.setIfInBounds i true) a' w') a w
theorem AllReadyK.nil {fuel:Nat}{listed:Array Bool}{a:Act}{w:World}:AllReadyK P md ops Q k S fuel listed a w []:=fun _ h=>by cases h
theorem AllReadyK.cons {fuel:Nat}{listed:Array Bool}{a:Act}{w:World}{i:Nat}{o:Oper}{rs:List Nat}(ho:ops[i]? = some o)
  (h:∀ K':Act->World->Prop,Shut (∀ a w,((listed.setIfInBounds i true).getD k true=false->S w)->wpAnyK P md ops Q k S fuel (listed.setIfInBounds i true) a w->K' a w)->if Region.wanted o (yielded ops a.tmps)=true then Oper.wp P o a w K' Q else K' (a.put o.dst undef) w)
  (hs:AllReadyK P md ops Q k S fuel listed a w rs):AllReadyK P md ops Q k S fuel listed a w (i :: rs):=fun j hj=>by
 rcases List.mem_cons.1 hj with rfl|hj
 ·exact wpOp_step ho (fun K' hK=>h K' (fun a w hS hW=>hK a w ⟨hS,hW⟩))
 ·exact hs j hj
theorem wpAnyK_ready {rs:List Nat}{fuel:Nat}{listed:Array Bool}{a:Act}{w:World}(hr:Region.ready md ops listed=rs)(hne:rs≠[])
 (h:AllReadyK P md ops Q k S fuel listed a w rs):wpAnyK P md ops Q k S (fuel+1) listed a w:=⟨fun h0=>absurd (hr▸h0) hne,hr▸h⟩
theorem wpAnyK_done {listed:Array Bool}{a:Act}{w:World}(hr:Region.ready md ops listed=[])(h:Q .normal a w) :
  ∀ fuel,wpAnyK P md ops Q k S fuel listed a w
 | 0=>⟨hr,h⟩
 | _+1=>⟨fun _=>h,by rw[hr];simp⟩
theorem wp_region_K (k:Nat)(S:World->Prop){id:Nat}{a:Act}{w:World}(hm:P.follows .mixedOrders=true)
  (h:wpAnyK P .any ops Q k S ops.size (Array.replicate ops.size false) a w.drew):(Code.region id ops true).wp P Q a w :=
 wp_region_any hm (wpAny_of_K _ _ _ _ h)
end
section
variable {P : Program}{ops : Array Oper}{Q : Exit -> Act -> World -> Prop}{md : Region.Mode}{S : World -> Prop}
theorem sk (i : Nat){oi : Oper}{v : Value}{fuel : Nat}{listed : Array Bool}{a : Act}{w : World}
    (h : wpAnyH P md ops Q S fuel (listed.setIfInBounds i true) (a.put oi.dst v) w) (hi : ops[i]? = some oi:=by rfl) (hs : Region.noSelect ops = true:=by kernel_rfl)
    (hf : Region.free md ops listed i = true:=by kernel_rfl) (hr : (Region.ready md ops listed).contains i = true:=by kernel_rfl)
    (hQ : ∀ c a w, Q (.panic c) (a.put oi.dst v) w -> Q (.panic c) a w:=by exact fun _ _ _ h => h) (hw : Region.wanted oi (yielded ops a.tmps) = true:=by kernel_rfl)
    (hy : ∀ w, S w -> (execOp a.eval oi).run P w = .ok (.value v) w:=by(intro w hSw;(try dsimp only at hSw);go_simp;try (with_reducible rfl)))
    (hS : S w:=by assumption) : wpAnyH P md ops Q S (fuel+1) listed a w:=wpAnyH_take hi hs hf hr hQ (Or.inl ⟨hw, hy⟩) hS h
theorem su (i : Nat){oi : Oper}{fuel : Nat}{listed : Array Bool}{a : Act}{w : World}
    (h : wpAnyH P md ops Q S fuel (listed.setIfInBounds i true) (a.put oi.dst undef) w) (hi : ops[i]? = some oi:=by rfl) (hs : Region.noSelect ops = true:=by kernel_rfl)
    (hf : Region.free md ops listed i = true:=by kernel_rfl) (hr : (Region.ready md ops listed).contains i = true:=by kernel_rfl)
    (hQ : ∀ c a w, Q (.panic c) (a.put oi.dst undef) w -> Q (.panic c) a w:=by exact fun _ _ _ h => h) (hw : Region.wanted oi (yielded ops a.tmps) = false:=by kernel_rfl)
    (hS : S w:=by assumption) : wpAnyH P md ops Q S (fuel+1) listed a w:=wpAnyH_take hi hs hf hr hQ (Or.inr ⟨hw, rfl⟩) hS h
end
section
variable {P : Program}{ops : Array Oper}{Q : Exit -> Act -> World -> Prop}{md : Region.Mode}{k : Nat}{S : World -> Prop}
theorem qk (i : Nat){oi : Oper}{v : Value}{fuel : Nat}{listed : Array Bool}{a : Act}{w : World}
    (h : wpAnyK P md ops Q k S fuel (listed.setIfInBounds i true) (a.put oi.dst v) w) (hi : ops[i]? = some oi:=by rfl)
    (hc : (Region.noSelect ops&&(!(i == k)&&(Region.free md ops listed i&&(Region.ready md ops listed).contains i))) = true:=by kernel_rfl)
    (hQ : ∀ c a w, Q (.panic c) (a.put oi.dst v) w -> Q (.panic c) a w:=by exact fun _ _ _ h => h) (hw : Region.wanted oi (yielded ops a.tmps) = true:=by kernel_rfl)
    (hy : ∀ w, True -> (execOp a.eval oi).run P w = .ok (.value v) w:=by(intro w hSw;go_simp;try (with_reducible rfl)))
    (hS : listed.getD k true = false -> S w:=by first | exact fun _ => by assumption | exact fun h => by cases h) : wpAnyK P md ops Q k S (fuel+1) listed a w :=
  wpAnyK_pure hi hc hQ (Or.inl ⟨hw, hy⟩) hS h
theorem rq (i : Nat){oi : Oper}{v : Value}{fuel : Nat}{listed : Array Bool}{a : Act}{w : World}
    (h : wpAnyK P md ops Q k S fuel (listed.setIfInBounds i true) (a.put oi.dst v) w) (hi : ops[i]? = some oi:=by rfl)
    (hc : (Region.noSelect ops&&(decide (k < ops.size)&&(!(i == k)&&(waitsK md ops i ops.size k&&(dnB md ops listed&&(Region.free md ops listed i&&(Region.ready md ops listed).contains i)))))) = true:=by kernel_rfl)
    (hQ : ∀ c a w, Q (.panic c) (a.put oi.dst v) w -> Q (.panic c) a w:=by exact fun _ _ _ h => h) (hw : Region.wanted oi (yielded ops a.tmps) = true:=by kernel_rfl)
    (hy : ∀ w, S w -> (execOp a.eval oi).run P w = .ok (.value v) w:=by(intro w hSw;(try dsimp only at hSw);go_simp;try (with_reducible rfl)))
    (hS : S w:=by assumption) : wpAnyK P md ops Q k S (fuel+1) listed a w:=wpAnyK_take hi hc hQ (Or.inl ⟨hw, hy⟩) hS h
theorem rv (i : Nat){oi : Oper}{fuel : Nat}{listed : Array Bool}{a : Act}{w : World}
    (h : wpAnyK P md ops Q k S fuel (listed.setIfInBounds i true) (a.put oi.dst undef) w) (hi : ops[i]? = some oi:=by rfl)
    (hc : (Region.noSelect ops&&(decide (k < ops.size)&&(!(i == k)&&(waitsK md ops i ops.size k&&(dnB md ops listed&&(Region.free md ops listed i&&(Region.ready md ops listed).contains i)))))) = true:=by kernel_rfl)
    (hQ : ∀ c a w, Q (.panic c) (a.put oi.dst undef) w -> Q (.panic c) a w:=by exact fun _ _ _ h => h) (hw : Region.wanted oi (yielded ops a.tmps) = false:=by kernel_rfl)
    (hS : S w:=by assumption) : wpAnyK P md ops Q k S (fuel+1) listed a w:=wpAnyK_take hi hc hQ (Or.inr ⟨hw, rfl⟩) hS h
end
end Go.Mx
