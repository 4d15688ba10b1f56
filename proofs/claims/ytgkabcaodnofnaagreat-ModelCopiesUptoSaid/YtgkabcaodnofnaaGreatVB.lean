import Derived.Test.YtgkabcaodnofnaaGreatB45
import Derived.Test.YtgkabcaodnofnaaGreatB02
import Derived.SizedLaws
set_option linter.unusedSimpArgs false
set_option linter.unusedVariables false
set_option maxRecDepth 100000
open Go.Proofs.Tryz
namespace Go.Proofs.YtgkabcaodnofnaaGreat
open Go.ChangeShapes Go.WideShapes Go.ChangeAt Go.RowKit Go.Deep Go.Mx Go.Md
set_option linter.unusedVariables false
set_option linter.unusedSimpArgs false
theorem info25:(prog.info? 25).map (fun i=>(i.zero,i.size,i.bytes))=some (some (.agg #[.int .i64 0,.string ⟨#[]⟩,.string ⟨#[]⟩,.int .i64 0,.int .i64 0,.int .i64 0,.slice none 0 0]),7,88):=by kernel_rfl
theorem ownG_empty (w:World)(e:TypeId)(s:Nat):OwnG (w.alloc (.cells #[] e)) w.heap.size e s (.slice (some ⟨w.heap.size,0,none⟩) 0 0) [] :=
 ⟨World.ownsRow_made w #[] 0 (Nat.le_refl _) (by simp[maxLen]) (by simp),by simp⟩
theorem crow_one {g:Cm×Value}(h:∃ a n c,g.2 = .slice a n c):∀ u∈crow g,u.oneCell'=true:=by
 obtain⟨a,n,c,h⟩:=h;intro u hu;simp only[crow,h,List.mem_cons,List.not_mem_nil,or_false] at hu;rcases hu with rfl|rfl|rfl|rfl|rfl|rfl|rfl<;>rfl
theorem crow_ones {w:World}{v:Value}{gs:List (Cm×Value)}(hs:SlC w v gs):∀ r∈gs.map crow,∀ u∈r,u.oneCell'=true:=by
 intro r hr;obtain⟨g,hg,rfl⟩:=List.mem_map.1 hr;exact crow_one (slB_shape (hs.d g hg))
theorem crow_lens (gs:List (Cm×Value)):∀ r∈gs.map crow,r.length=7:=by
 intro r hr;obtain⟨g,_,rfl⟩:=List.mem_map.1 hr;rfl
theorem slc_app {W w:World}{v v':Value}{gs:List (Cm×Value)}{g:Cm×Value}(hs:SlC W v gs)(hb:Below W.heap.size W w)(hd:SlB W W.heap.size g.2 g.1.data){b:Nat}(ho:OwnG w b 25 7 v' (gs.map crow++[crow g])):SlC w v' (gs++[g]) :=
 ⟨by rw[List.map_append];exact ho.slG,fun q hq=>by
  rcases List.mem_append.1 hq with h|h
  ·exact((hs.d q h).below hb (Nat.le_refl _)).mono hb.size
  ·obtain rfl:q=g:=by simpa using h
   exact(hd.below hb (Nat.le_refl _)).mono hb.size⟩
theorem fit_app {gs:List (Cm×Value)}{g:Cm×Value}(h:FitAll (gs++[g])):FitAll gs/\Fit g.1 :=
 ⟨⟨by have:=h.1;simp at this;omega,fun q hq=>h.2 q (by simp[hq])⟩,h.2 g (by simp)⟩
theorem cmd_of2 {H:Type}{enc:TypeId×Value->H}{w:World}{base:Nat}{spare:Nat->Bool}{held:Bool}{r:Reach}{b0:Nat}{v:Value}{d:DataW H}{p:List MemPlace}(hv:Value.okWide prog w r b0 25 v)(h:DataW.Trod enc prog w base spare held 25 v d p) :
  ∃ (c:Cm) (dv:Value),v=cmV c dv/\SlB w w.heap.size dv c.data/\(Lit.int .i64 c.kind).wf=true:=by
 obtain⟨cs,rfl,hsz⟩:=okWide_struct underlying25 hv;obtain⟨l⟩:=cs;obtain⟨fuel,hf⟩:=h;have hf':DataW.trod enc prog w base spare held fuel 25 l=some (d,p):=hf;obtain⟨g,rfl,h1,h2⟩:=crow_of hf';exact⟨g.1,g.2,rfl,h1,h2⟩
theorem SlC.at {W:World}{v:Value}{gs:List (Cm×Value)}(hs:SlC W v gs){i:Nat}{g:Cm×Value}(hg:gs[i]? = some g):∃ bb bo da dn dc,(∀ w' (k:IntKind),(Instr.indexAt 22 v (.int k (i:Int))).run prog w' = .ok (.pointer (some ⟨bb,bo,none⟩)) w')/\SlB W W.heap.size (.slice da dn dc) g.1.data/\
  ∀ w',Below W.heap.size W w'->w'.cell? ⟨bb,bo,none⟩=some (.int .i64 g.1.kind)/\w'.cell? ⟨bb,bo+1,none⟩=some (str g.1.name)/\w'.cell? ⟨bb,bo+2,none⟩=some (str g.1.tt)/\w'.cell? ⟨bb,bo+3,none⟩=some (.int .i64 g.1.a)/\w'.cell? ⟨bb,bo+4,none⟩=some (.int .i64 g.1.n)/\w'.cell? ⟨bb,bo+5,none⟩=some (.int .i64 g.1.m)/\w'.cell? ⟨bb,bo+6,none⟩=some (.slice da dn dc):=by
 obtain⟨hi,rfl⟩:=List.getElem?_eq_some_iff.1 hg;have hgm:gs[i]∈gs:=List.getElem_mem _;obtain⟨bb,bo,hia,hrow⟩:=slG_addrs hs.o (t:=22) underlying22 size25 i (by rw[List.length_map];exact hi);rw[show(gs.map crow).getD i []=crow gs[i] by rw[List.getD_eq_getElem?_getD,List.getElem?_map,hg];rfl] at hrow;obtain⟨da,dn,dc,hdv⟩:=slB_shape (hs.d _ hgm);have hds:=hs.d _ hgm;rw[hdv] at hds;exact⟨bb,bo,da,dn,dc,hia,hds,fun w' hb=>⟨by have:=hrow w' hb 0 _ rfl;simpa using this,hrow w' hb 1 _ rfl,hrow w' hb 2 _ rfl,hrow w' hb 3 _ rfl,hrow w' hb 4 _ rfl,hrow w' hb 5 _ rfl,hrow w' hb 6 _ (by simp[hdv])⟩⟩
theorem MO.stp2 {w w':World}{base base2 mb cb:Nat}{M Mc:MM}{X Xc:MX}{F':List Nat}(h:MO w base cb Mc Xc)(hm:MO w base2 mb M X)(hs:Stp w w' (X.fp mb) F')(hap:∀ b∈Xc.fp cb,b∉X.fp mb):MO w' base cb Mc Xc :=
 h.kept hs.k hap (ni_of _ hm.typ)
theorem Stt.other {w0 w w':World}{base mb cb:Nat}{M Mc:MM}{X Xc:MX}{F':List Nat}(hc:Stt w0 w base cb Mc Xc)(hm:Stt w0 w base mb M X)(hs:Stp w w' (X.fp mb) F')(hap:∀ b∈Xc.fp cb,b∉X.fp mb):Stt w0 w' base cb Mc Xc/\∀ b∈Xc.fp cb,b∉F' :=
 ⟨⟨hc.mo.stp2 hm.mo hs hap,hc.ok,hc.fr,hc.b.trans (hs.below hm.g hm.b.size),hc.g,hc.bb⟩,fun b hb hF=>by
  rcases hs.n b hF with h|h
  ·exact hap b hb h
  ·have:=hc.mo.lt b hb;omega⟩
end Go.Proofs.YtgkabcaodnofnaaGreat
namespace Go.Proofs.YtgkabcaodnofnaaGreat
open Go.ChangeShapes Go.WideShapes Go.ChangeAt Go.RowKit Go.Deep Go.Mx Go.Md
theorem bytes25:prog.bytesOf 25=88:=by kernel_rfl
theorem len_slice {H:Type}{enc:TypeId×Value->H}{w W:World}{base:Nat}{spare:Nat->Bool}{held:Bool}{v:Value}{d:DataW H}{p:List MemPlace}{gs:List (Cm×Value)}(hs:SlC W v gs)
  (h:DataW.Trod enc prog w base spare held 22 v d p):gs.length=0\/∃ elems sp,d = .slice elems sp/\elems.length=gs.length:=by
 obtain⟨oa,cap,rfl,_⟩:=hs.o;rw[List.length_map] at h;obtain⟨fuel,hf⟩:=h;rcases open_slice underlying22 hf with⟨hcs,_⟩|⟨a,len,cap',m,n,D,Pl,hcs,_,_,_,_,hx,_⟩
 ·simp[Value.cells] at hcs;exact .inl (by rw[hcs.2.1];rfl)
 ·simp[Value.cells] at hcs;simp only[Prod.mk.injEq] at hx;exact .inr ⟨_,_,hx.1,by rw[List.length_map,List.length_range];exact hcs.2.1.symm⟩
end Go.Proofs.YtgkabcaodnofnaaGreat
