import Derived.Test.YtgkabcaodnofnaaGreatB16
import Derived.Deep.RegionLaw
set_option linter.unusedSimpArgs false
set_option linter.unusedVariables false
set_option maxRecDepth 100000
set_option maxHeartbeats 2000000
open Go.Proofs.Tryz
namespace Go.Proofs.YtgkabcaodnofnaaGreat
open Go.RowKit Go.Mx Go.Md
theorem zero90 (w:World):(zeroValue 90).run prog w = .ok (.agg #[.string ⟨#[]⟩,.int .i64 0,.map none]) w:=by kernel_rfl
theorem zero108 (w:World):(zeroValue 108).run prog w = .ok (.agg #[.string ⟨#[]⟩,.bool false,.slice none 0 0]) w:=by kernel_rfl
variable {w w':World}{base g n c s:Nat}{e:TypeId}{rows:List (List Value)}
theorem OwnG.over (h:OwnG w base e s (.slice (some ⟨g,0,none⟩) n c) rows)(i:Nat)(ns:List (List Value))(hl:∀ r∈ns,r.length=s)(hi:i+ns.length<=rows.length) :
  OwnG (w.setCells g (i*s) ns.flatten) base e s (.slice (some ⟨g,0,none⟩) (i+ns.length) c) (rows.take i++ns):=by
 obtain⟨rfl,hb,hn,hm,cur,hg,hs,ht⟩:=h.parts;have hfl:=flat_len ns hl;have hmul:i*s+ns.length*s<=rows.length*s:=by rw[<-Nat.add_mul];exact Nat.mul_le_mul_right _ hi
 have hmul2:rows.length*s<=c*s:=Nat.mul_le_mul_right _ hn;obtain⟨cur',hg',ht'⟩:=heap_setCells_at ns.flatten w g (i*s) cur e (0,0) hg (by omega);have hcs:cur.toList.length=c*s:=by rw[Array.length_toList];exact hs
 have hsz:cur'.size=c*s:=by
  have:=congrArg List.length ht';simp only[List.length_append,List.length_take,List.length_drop,Array.length_toList] at this;omega
 have hlen:(rows.take i++ns).length=i+ns.length:=by simp;omega
 have:=OwnG.make (w:=w.setCells g (i*s) ns.flatten) (rows:=rows.take i++ns) hb (by omega) hm hg' hsz ?_ (fun r hr=>by
  rcases List.mem_append.1 hr with h1|h1
  ·exact h.2 r (List.mem_of_mem_take h1)
  ·exact hl r h1)
 ·rwa[hlen] at this
 ·have e1:(rows.take i).flatten=cur.toList.take (i*s):=by
   rw[<-flat_take rows i h.2,<-ht,List.take_take,Nat.min_eq_left (by omega)]
  have hl1:(cur.toList.take (i*s)).length=i*s:=by rw[List.length_take];omega
  rw[hlen,ht',List.flatten_append,e1,<-List.append_assoc,List.take_append_of_le_length (by rw[List.length_append,hl1,hfl,Nat.add_mul];exact nlr),List.take_of_length_le (by rw[List.length_append,hl1,hfl,Nat.add_mul];exact nlr)]
theorem erase_parts {α:Type}(l:List α)(i:Nat):l.eraseIdx i=l.take i++l.drop (i+1):=List.eraseIdx_eq_take_drop_succ l i
theorem erase_parts' {α:Type}{l news:List α}{i:Nat}(h:news=l.drop (i+1)):l.eraseIdx i=l.take i++news:=by rw[h];exact erase_parts l i
theorem del87 (h:OwnG w base 90 3 (.slice (some ⟨g,0,none⟩) n c) rows)(i:Nat)(hi:i<rows.length)(hone:∀ r∈rows,∀ u∈r,u.oneCell'=true)(hl:rows.length<=1000000) :
  Calls prog 87 #[.slice (some ⟨g,0,none⟩) n c,.int .i64 i,.int .i64 (i+1)] w fun e w'=>e = .returned (.slice (some ⟨g,0,none⟩) (n-1) c)/\OwnG w' base 90 3 (.slice (some ⟨g,0,none⟩) (n-1) c) (rows.eraseIdx i)/\Kept w w' (·≠g):=by
 obtain⟨hn,hb,hnc,hm,cur,hg,hs,ht⟩:=h.parts;obtain⟨i0,hi0,hz0,hz1,hz2⟩:=info_parts info90;obtain⟨news,hnews⟩:∃ news,news=rows.drop (i+1):=⟨_,rfl⟩
 have hnl:news.length=n-(i+1):=by rw[hnews,List.length_drop,hn]
 have hnr:∀ r∈news,r.length=3:=fun r hr=>h.2 r (by rw[hnews] at hr;exact List.mem_of_mem_drop hr);have hfl:news.flatten.length=(n-(i+1))*3:=by rw[flat_len news hnr,hnl]
 have hul:prog.underlying 85=some (.slice 90):=underlying85;have hel:prog.elem 85=90:=by simp[Program.elem,hul]
 have htt:prog.underlying 85=some (.slice (prog.elem 85)):=by rw[hel];exact hul
 obtain⟨A,hsl,hsrc⟩:∃ A:Addr,(∀ w',(Instr.slice 85 (.slice (some ⟨g,0,none⟩) n c) (some (.int .i64 ((i:Int)+1))) none none).run prog w' = .ok (.slice (some A) (n-(i+1)) (c-(i+1))) w')/\Hid (∀ t u,news.flatten[t]? = some u->w.drew.cell? (A.add t)=some u):=by
  have hrun:∀ w',(Instr.slice 85 (.slice (some ⟨g,0,none⟩) n c) (some (.int .i64 ((i:Int)+1))) none none).run prog w' = .ok (.slice (if c=i+1 then some ⟨g,0,none⟩ else some ⟨g,(i+1)*3,none⟩) (n-(i+1)) (c-(i+1))) w':=by
   intro w';rw[run_slice_l (l:=(i:Int)+1) (ht:=htt) (h0:=by omega) (h1:=by omega),hel,size90];simp only[Result.andThen,sliced];rw[show((i:Int)+1).toNat=i+1 by omega];by_cases hc:c=i+1
   ·simp[hc]
   ·rw[if_neg hc,if_neg (by omega)];simp[Addr.add]
    try exact fun h=>h.symm
  by_cases hc:c=i+1
  ·refine⟨⟨g,0,none⟩,fun w'=>by rw[hrun w',if_pos hc],fun t u hu=>?_⟩;have:news=[]:=List.length_eq_zero_iff.1 (by rw[hnl];omega);rw[this] at hu;simp at hu
  ·refine⟨⟨g,(i+1)*3,none⟩,fun w'=>by rw[hrun w',if_neg hc],fun t u hu=>?_⟩;have h1:rows.flatten[(i+1)*3+t]? = some u:=by
    rw[<-List.getElem?_drop,flat_drop rows (i+1) h.2,<-hnews];exact hu
   have:=World.ownsRow.cells h.1 (g:=g) rfl ((i+1)*3+t) u h1;rw[addr_add] at this;rw[Addr.add_lit];exact this
 have hto:=h.to underlying85 size90 i (by omega);have hthr:∀ w' (k:IntKind),(Instr.slice 85 (.slice (some ⟨g,0,none⟩) n c) (some (.int k (i:Int))) (some (.int k ((i:Int)+1))) (some (.int k (n:Int)))).run prog w' = .ok (.slice (some ⟨g,i*3,none⟩) 1 (n-i)) w':=by
  intro w' k;rw[run_slice_lhm (l:=(i:Int)) (h:=(i:Int)+1) (m:=(n:Int)) (ht:=htt) (h0:=by omega) (h1:=by omega) (h2:=by omega) (h3:=by omega),hel,size90];simp only[Result.andThen,sliced,Int.toNat_natCast];rw[show((i:Int)+1).toNat=i+1 by omega,if_neg (by omega)];simp[Addr.add];exact fun h=>h.symm
 have hlen:∀ w',(Builtin.len_ #[85] 3 #[.slice (some ⟨g,0,none⟩) n c]).run prog w' = .ok (.int .i64 n) w':=fun w'=>len_sl underlying85 rfl w';have hlen2:∀ w',(Builtin.len_ #[85] 3 #[.slice (some ⟨g,0,none⟩) (i+(n-(i+1))) c]).run prog w' = .ok (.int .i64 ((n-1:Nat):Int)) w':=fun w'=>by rw[len_sl underlying85 rfl w',show i+(n-(i+1))=n-1 by omega]
 have hlast:∀ w' (k:IntKind),(Instr.slice 85 (.slice (some ⟨g,0,none⟩) (i+(n-(i+1))) c) (some (.int k ((n-1:Nat):Int))) (some (.int k (n:Int))) none).run prog w' = .ok (.slice (some ⟨g,(n-1)*3,none⟩) 1 (c-(n-1))) w':=by
  intro w' k;rw[run_slice_lh (l:=((n-1:Nat):Int)) (h:=(n:Int)) (ht:=htt) (h0:=by omega) (h1:=by omega) (h2:=by omega),hel,size90];simp only[Result.andThen,sliced,Int.toNat_natCast];rw[if_neg (by omega),show n-(n-1)=1 by omega];simp[Addr.add];exact fun h=>h.symm
 have hovr:=OwnG.over (h.below (Below.refl w.heap.size w).drew nlr) i news hnr (by rw[hnl,<-hn];omega);rw[hnl,<-erase_parts' hnews] at hovr;obtain⟨W1,hW1⟩:∃ W1,W1=w.drew.setCells g (i*3) news.flatten:=⟨_,rfl⟩
 rw[<-hW1] at hovr;have hk1:Kept w W1 (·≠g):=by rw[hW1];exact(Kept.drew _ _).trans (Kept.setCells _ _ _ _ (by simp))
 have hov2:OwnG W1 base 90 3 (.slice (some ⟨g,0,none⟩) (n-1) c) (rows.eraseIdx i):=by rw[show n-1=i+(n-(i+1)) by omega];exact hovr
 have hth:=hov2.there ((n-1)*3) 3 (by omega);have hclr:=fun ty=>run_clear_rows (P:=prog) W1 85 90 ty _ underlying85 zero90 (by decide) g ((n-1)*3) 1 (c-(n-1)) (by omega) hth;obtain⟨W2,hW2⟩:∃ W2,W2=W1.setCells g ((n-1)*3) (Builtin.zeroCells #[.string ⟨#[]⟩,.int .i64 0,.map none] 1).toList:=⟨_,rfl⟩
 have hclr':∀ ty,(Builtin.clear_ #[85] ty #[.slice (some ⟨g,(n-1)*3,none⟩) 1 (c-(n-1))]).run prog W1 = .ok (.tuple #[]) W2:=fun ty=>by rw[hW2];exact hclr ty
 have hk2:Kept W1 W2 (·≠g):=by rw[hW2];exact Kept.setCells _ _ _ _ (by simp)
 have her:(rows.eraseIdx i).length=n-1:=by rw[List.length_eraseIdx,if_pos (by omega),hn]
 have hfin:OwnG W2 base 90 3 (.slice (some ⟨g,0,none⟩) (n-1) c) (rows.eraseIdx i):=by
  have h9:=hov2.tail (n-1) (by omega) (Builtin.zeroCells #[.string ⟨#[]⟩,.int .i64 0,.map none] 1).toList (by rw[zero_cells_len];show(n-1)*3+1*3<=c*3;omega);rw[List.take_of_length_le (by omega)] at h9;rw[hW2];exact h9
 have hsp:Hid (∀ t,t<news.flatten.length->(w.drew.cell? ⟨g,0+i*3+t,none⟩).isSome=true/\w.drew.frozen? ⟨g,0+i*3+t,none⟩=false):=fun t ht'=>by
  have:=h.there (i*3) ((n-(i+1))*3) (by omega) t (by omega);rw[Nat.zero_add];exact this
 have hon:Hid (∀ u∈news.flatten,u.oneCell'=true):=fun u hu=>by
  obtain⟨r,hr,hu⟩:=List.mem_flatten.1 hu;exact hone r (by rw[hnews] at hr;exact List.mem_of_mem_drop hr) u hu
 have heqb:((i:Int)==(i:Int)+1)=false:=by simp;omega
 have hwr:IntKind.i64.wrap ((i:Int)+1)=(i:Int)+1:=IntWalk.i64_in _ (by omega);have HF:=jd3 hfin (hk1.trans hk2) hW1;have hin:i<n/\n<=c/\i+1<=n:=by omega
 obtain⟨hin1,hin2,hin3⟩:=hin;have HFL:=hid hfl;clear h hn hb hm hg hs ht hnews hnl hnr hfl hovr hov2 hk1 hk2 hth hclr hfin her hW1 hW2 hone hi hl hz0;go_enter func87,ntmps87
 go_upto_region 5 with(fail)
 clear hthr hlen
 go_region_law ((refine step_append_room rfl (.tmp 22) (.tmp 25) 85 rfl 90 i0 3 underlying85 hi0 hz1 g 0 i c (by simp[Act.eval,Act.put]) A (n-(i+1)) (c-(i+1)) news.flatten (by simp[Act.eval,Act.put]) HFL.out hsrc.out hon.out (by omega) hsp.out ?_))
 try simp only[Nat.zero_add]
 rw[<-HF.out.2.2]
 go_wp2_with fail
 go_ret
 rw[show i+(n-(i+1))=n-1 by omega];exact⟨rfl,HF.out.1,HF.out.2.1⟩
theorem del119 (h:OwnG w base 108 3 (.slice (some ⟨g,0,none⟩) n c) rows)(i:Nat)(hi:i<rows.length)(hone:∀ r∈rows,∀ u∈r,u.oneCell'=true)(hl:rows.length<=1000000) :
  Calls prog 119 #[.slice (some ⟨g,0,none⟩) n c,.int .i64 i,.int .i64 (i+1)] w fun e w'=>e = .returned (.slice (some ⟨g,0,none⟩) (n-1) c)/\OwnG w' base 108 3 (.slice (some ⟨g,0,none⟩) (n-1) c) (rows.eraseIdx i)/\Kept w w' (·≠g):=by
 obtain⟨hn,hb,hnc,hm,cur,hg,hs,ht⟩:=h.parts;obtain⟨i0,hi0,hz0,hz1,hz2⟩:=info_parts info108;obtain⟨news,hnews⟩:∃ news,news=rows.drop (i+1):=⟨_,rfl⟩
 have hnl:news.length=n-(i+1):=by rw[hnews,List.length_drop,hn]
 have hnr:∀ r∈news,r.length=3:=fun r hr=>h.2 r (by rw[hnews] at hr;exact List.mem_of_mem_drop hr);have hfl:news.flatten.length=(n-(i+1))*3:=by rw[flat_len news hnr,hnl]
 have hul:prog.underlying 43=some (.slice 108):=underlying43;have hel:prog.elem 43=108:=by simp[Program.elem,hul]
 have htt:prog.underlying 43=some (.slice (prog.elem 43)):=by rw[hel];exact hul
 obtain⟨A,hsl,hsrc⟩:∃ A:Addr,(∀ w',(Instr.slice 43 (.slice (some ⟨g,0,none⟩) n c) (some (.int .i64 ((i:Int)+1))) none none).run prog w' = .ok (.slice (some A) (n-(i+1)) (c-(i+1))) w')/\Hid (∀ t u,news.flatten[t]? = some u->w.drew.cell? (A.add t)=some u):=by
  have hrun:∀ w',(Instr.slice 43 (.slice (some ⟨g,0,none⟩) n c) (some (.int .i64 ((i:Int)+1))) none none).run prog w' = .ok (.slice (if c=i+1 then some ⟨g,0,none⟩ else some ⟨g,(i+1)*3,none⟩) (n-(i+1)) (c-(i+1))) w':=by
   intro w';rw[run_slice_l (l:=(i:Int)+1) (ht:=htt) (h0:=by omega) (h1:=by omega),hel,size108];simp only[Result.andThen,sliced];rw[show((i:Int)+1).toNat=i+1 by omega];by_cases hc:c=i+1
   ·simp[hc]
   ·rw[if_neg hc,if_neg (by omega)];simp[Addr.add]
    try exact fun h=>h.symm
  by_cases hc:c=i+1
  ·refine⟨⟨g,0,none⟩,fun w'=>by rw[hrun w',if_pos hc],fun t u hu=>?_⟩;have:news=[]:=List.length_eq_zero_iff.1 (by rw[hnl];omega);rw[this] at hu;simp at hu
  ·refine⟨⟨g,(i+1)*3,none⟩,fun w'=>by rw[hrun w',if_neg hc],fun t u hu=>?_⟩;have h1:rows.flatten[(i+1)*3+t]? = some u:=by
    rw[<-List.getElem?_drop,flat_drop rows (i+1) h.2,<-hnews];exact hu
   have:=World.ownsRow.cells h.1 (g:=g) rfl ((i+1)*3+t) u h1;rw[addr_add] at this;rw[Addr.add_lit];exact this
 have hto:=h.to underlying43 size108 i (by omega);have hthr:∀ w' (k:IntKind),(Instr.slice 43 (.slice (some ⟨g,0,none⟩) n c) (some (.int k (i:Int))) (some (.int k ((i:Int)+1))) (some (.int k (n:Int)))).run prog w' = .ok (.slice (some ⟨g,i*3,none⟩) 1 (n-i)) w':=by
  intro w' k;rw[run_slice_lhm (l:=(i:Int)) (h:=(i:Int)+1) (m:=(n:Int)) (ht:=htt) (h0:=by omega) (h1:=by omega) (h2:=by omega) (h3:=by omega),hel,size108];simp only[Result.andThen,sliced,Int.toNat_natCast];rw[show((i:Int)+1).toNat=i+1 by omega,if_neg (by omega)];simp[Addr.add];exact fun h=>h.symm
 have hlen:∀ w',(Builtin.len_ #[43] 3 #[.slice (some ⟨g,0,none⟩) n c]).run prog w' = .ok (.int .i64 n) w':=fun w'=>len_sl underlying43 rfl w';have hlen2:∀ w',(Builtin.len_ #[43] 3 #[.slice (some ⟨g,0,none⟩) (i+(n-(i+1))) c]).run prog w' = .ok (.int .i64 ((n-1:Nat):Int)) w':=fun w'=>by rw[len_sl underlying43 rfl w',show i+(n-(i+1))=n-1 by omega]
 have hlast:∀ w' (k:IntKind),(Instr.slice 43 (.slice (some ⟨g,0,none⟩) (i+(n-(i+1))) c) (some (.int k ((n-1:Nat):Int))) (some (.int k (n:Int))) none).run prog w' = .ok (.slice (some ⟨g,(n-1)*3,none⟩) 1 (c-(n-1))) w':=by
  intro w' k;rw[run_slice_lh (l:=((n-1:Nat):Int)) (h:=(n:Int)) (ht:=htt) (h0:=by omega) (h1:=by omega) (h2:=by omega),hel,size108];simp only[Result.andThen,sliced,Int.toNat_natCast];rw[if_neg (by omega),show n-(n-1)=1 by omega];simp[Addr.add];exact fun h=>h.symm
 have hovr:=OwnG.over (h.below (Below.refl w.heap.size w).drew nlr) i news hnr (by rw[hnl,<-hn];omega);rw[hnl,<-erase_parts' hnews] at hovr;obtain⟨W1,hW1⟩:∃ W1,W1=w.drew.setCells g (i*3) news.flatten:=⟨_,rfl⟩
 rw[<-hW1] at hovr;have hk1:Kept w W1 (·≠g):=by rw[hW1];exact(Kept.drew _ _).trans (Kept.setCells _ _ _ _ (by simp))
 have hov2:OwnG W1 base 108 3 (.slice (some ⟨g,0,none⟩) (n-1) c) (rows.eraseIdx i):=by rw[show n-1=i+(n-(i+1)) by omega];exact hovr
 have hth:=hov2.there ((n-1)*3) 3 (by omega);have hclr:=fun ty=>run_clear_rows (P:=prog) W1 43 108 ty _ underlying43 zero108 (by decide) g ((n-1)*3) 1 (c-(n-1)) (by omega) hth;obtain⟨W2,hW2⟩:∃ W2,W2=W1.setCells g ((n-1)*3) (Builtin.zeroCells #[.string ⟨#[]⟩,.bool false,.slice none 0 0] 1).toList:=⟨_,rfl⟩
 have hclr':∀ ty,(Builtin.clear_ #[43] ty #[.slice (some ⟨g,(n-1)*3,none⟩) 1 (c-(n-1))]).run prog W1 = .ok (.tuple #[]) W2:=fun ty=>by rw[hW2];exact hclr ty
 have hk2:Kept W1 W2 (·≠g):=by rw[hW2];exact Kept.setCells _ _ _ _ (by simp)
 have her:(rows.eraseIdx i).length=n-1:=by rw[List.length_eraseIdx,if_pos (by omega),hn]
 have hfin:OwnG W2 base 108 3 (.slice (some ⟨g,0,none⟩) (n-1) c) (rows.eraseIdx i):=by
  have h9:=hov2.tail (n-1) (by omega) (Builtin.zeroCells #[.string ⟨#[]⟩,.bool false,.slice none 0 0] 1).toList (by rw[zero_cells_len];show(n-1)*3+1*3<=c*3;omega);rw[List.take_of_length_le (by omega)] at h9;rw[hW2];exact h9
 have hsp:Hid (∀ t,t<news.flatten.length->(w.drew.cell? ⟨g,0+i*3+t,none⟩).isSome=true/\w.drew.frozen? ⟨g,0+i*3+t,none⟩=false):=fun t ht'=>by
  have:=h.there (i*3) ((n-(i+1))*3) (by omega) t (by omega);rw[Nat.zero_add];exact this
 have hon:Hid (∀ u∈news.flatten,u.oneCell'=true):=fun u hu=>by
  obtain⟨r,hr,hu⟩:=List.mem_flatten.1 hu;exact hone r (by rw[hnews] at hr;exact List.mem_of_mem_drop hr) u hu
 have heqb:((i:Int)==(i:Int)+1)=false:=by simp;omega
 have hwr:IntKind.i64.wrap ((i:Int)+1)=(i:Int)+1:=IntWalk.i64_in _ (by omega);have HF:=jd3 hfin (hk1.trans hk2) hW1;have hin:i<n/\n<=c/\i+1<=n:=by omega
 obtain⟨hin1,hin2,hin3⟩:=hin;have HFL:=hid hfl;clear h hn hb hm hg hs ht hnews hnl hnr hfl hovr hov2 hk1 hk2 hth hclr hfin her hW1 hW2 hone hi hl hz0;go_enter func119,ntmps119
 go_upto_region 5 with(fail)
 clear hthr hlen
 go_region_law ((refine step_append_room rfl (.tmp 22) (.tmp 25) 43 rfl 108 i0 3 underlying43 hi0 hz1 g 0 i c (by simp[Act.eval,Act.put]) A (n-(i+1)) (c-(i+1)) news.flatten (by simp[Act.eval,Act.put]) HFL.out hsrc.out hon.out (by omega) hsp.out ?_))
 try simp only[Nat.zero_add]
 rw[<-HF.out.2.2]
 go_wp2_with fail
 go_ret
 rw[show i+(n-(i+1))=n-1 by omega];exact⟨rfl,HF.out.1,HF.out.2.1⟩
end Go.Proofs.YtgkabcaodnofnaaGreat
namespace Go.Md
def unshotF (M:MM)(c:Cm):MM×Rp×Nat:=match fnd M.all c.name with
 | none=>(M,failR 4,0)
 | some i=>match posN (i.shots.map (·.name)) c.tt with
  | none=>(M,failR 4,0)
  | some k=>({M with all:=setI M.all c.name {i with shots:=i.shots.eraseIdx k}},{},0)
end Go.Md
namespace Go.Proofs.YtgkabcaodnofnaaGreat
open Go.RowKit Go.Mx Go.Md
theorem sxrows_one (l:List SX):∀ r∈l.map sxrow,∀ u∈r,u.oneCell'=true:=by
 intro r hr u hu;obtain⟨s,_,rfl⟩:=List.mem_map.1 hr;simp only[sxrow,List.mem_cons,List.mem_nil_iff,or_false] at hu;rcases hu with rfl|rfl|rfl<;>rfl
theorem map_erase {α β:Type}(f:α->β):∀ (l:List α) (k:Nat),(l.eraseIdx k).map f=(l.map f).eraseIdx k
 | [],_=>rfl
 | a :: r,0=>rfl
 | a :: r,k+1=>by simp[map_erase f r k]
theorem II.fp_nodup {w:World}{base mb:Nat}{M:MM}{X:MX}(h:MO w base mb M X){x:XI}(hx:x∈X.xs):(x.x.fp x.ib).Nodup:=by
 have h1:=(List.nodup_cons.1 (Ap.of h.nd).na).2;have key:∀ (l:List XI),(l.flatMap fun x=>x.x.fp x.ib).Nodup->x∈l->(x.x.fp x.ib).Nodup:=by
  intro l;induction l with
  | nil=>intro _ h;cases h
  | cons a r ih =>
   intro hn hm;rw[List.flatMap_cons,List.nodup_append] at hn;rcases List.mem_cons.1 hm with rfl|h2
   ·exact hn.1
   ·exact ih hn.2.1 h2
 exact key X.xs h1 hx
theorem IX.fp_ib {x:IX}{ib:Nat}(h:(x.fp ib).Nodup):ib≠x.om/\(∀ s∈x.ss,ib≠s.m/\x.om≠s.m)/\(∀ q,x.sv.ownBlock=some q->ib≠q/\x.om≠q/\∀ s∈x.ss,s.m≠q):=by
 unfold IX.fp at h;simp only[List.nodup_cons,List.mem_cons,List.mem_append,List.mem_map,Option.mem_toList,not_or,not_exists,not_and,List.nodup_append] at h;obtain⟨⟨h1,h2,h3⟩,⟨h4,h5⟩,h6,h7,h8⟩:=h;refine⟨h1,fun s hs=>⟨fun e=>h2 s hs e.symm,fun e=>h4 s hs e.symm⟩,fun q hq=>⟨fun e=>h3 (e▸hq),fun e=>h5 (e▸hq),fun s hs e=>?_⟩⟩;subst e
 first
  | exact h8 _ ⟨s,hs,rfl⟩ _ hq rfl
  | exact h8 _ s hs rfl _ hq rfl
  | exact h8 s.m s hs rfl s.m hq rfl
theorem cmd46_any:CmdOk 46 HasN unshotF:=by
 intro w base mb M X c dv h hM hbase hfr hC hp;obtain⟨da,dn,dc,rfl⟩:=slB_shape hC.d.slB;obtain⟨x,hx,hxn,hfx⟩:=has_x h hC hp;have hok:=h.a.ok x hx;obtain⟨sa,sn,sc,hsv⟩:=ownG_sh (h.a.i x hx).so;obtain⟨w2,hw2,P⟩:=pro_of w c (.slice da dn dc);have f0:=P.m0 h;have f1:=P.c1;have f2:=P.c2;have lk:=P.l0 h hx hxn;have i4:∀ w',Below w2.heap.size w2 w'->w'.cell? ⟨x.ib,4,none⟩=some (.slice sa sn sc):=fun w' hB=>by rw[((P.mo h w' (P.wd _ hB)).a.i x hx).cells.2.2.2.2.1,hsv]
 have HB:=hid (fun w' (hB:Below w2.heap.size w2 w')=>place84 ((P.mo h w' (P.wd _ hB)).a.i x hx) (Nat.le_trans hbase (P.bel (P.wd _ hB)).size) hok.ns c.tt);have HW:=hid hw2;have HP:=hid P;have HM:=hid h;have HK:=jd5 hM hbase hfr hC hp;have HX:=jd4 hx hxn hfx hok;have HSV:=hid hsv;have ef0:=f0 w2 brf;have ef1:=f1 w2 brf;have ef2:=f2 w2 brf;have elk:=lk w2 brf;have ei4:=i4 w2 brf;clear hw2 P h hM hfr hC hp hxn hfx hok hsv;go_enter func46,ntmps46
 go_upto_region 1 with(fail)
 rw[<-HW.out]
 go_region_held (fun w'=>Below w2.heap.size w2 w') (first|with_reducible exact brf.drew|with_reducible assumption|with_reducible exact Below.drew (by assumption)) (fail)
 obtain⟨w3,hw3⟩:∃ z,z=w2.drew:=⟨_,rfl⟩
 have hb3:Below w2.heap.size w2 w3:=by rw[hw3];exact brf.drew
 rw[<-hw3];clear hw3 ef0 ef1 ef2 elk ei4;have g2:=f2 w3 hb3;cases hpn:posN (x.i.shots.map (·.name)) c.tt
 ·rw[posI_none hpn] at HB;have HPN:=hid hpn;clear hpn f0 f1 f2 lk i4;go_upto_region 3 with(go_at_call 84;refine(HB.out _ hb3).mono ?_;rintro e w4 ⟨rfl,hb4⟩)
  have hbZ:=hb3.trans (hb4.mono hb3.size)
  go_wp2_with (go_at_call 21;refine(failed_any 4 _).mono ?_;rintro e w9 ⟨rfl,hb9⟩;obtain⟨x0,x1,x2,x3,x4,x5,xz⟩:=zcells (HP.out.z (hbZ.trans (hb9.mono hbZ.size))))
  obtain⟨W,hW,⟨y0,y1,y2,y3,y4,y5⟩,r1,r2,r3⟩:=end_fail HP.out HM.out (hbZ.trans (hb9.mono hbZ.size)) 4;have hF:unshotF M c=(M,failR 4,0):=by
   unfold unshotF;rw[HX.out.2.2.1];simp only;rw[HPN.out]
  rw[hF];clear x0 x1 x2 x3 x4 x5 xz hF;change bodyPost _ _ _ _ _ (st6 w9 (w.heap.size+1) (.int .i64 4) nilS nilS nilS (.int .i64 0) (.int .i64 0));rw[<-hW];exact bodyPost_ret (v:=failV 4) (by simp[results,results46,go_sem,y0,y1,y2,y3,y4,y5]) rfl ⟨_,X,rfl,r1,r2,rfl,nlr,rfl,r3⟩
 ·rename_i k;rw[posI_some hpn] at HB;have hk:=posN_lt hpn;rw[List.length_map] at hk;have HPN:=jd2 hpn hk;clear hpn f0 f1 lk;go_upto_region 3 with(go_at_call 84;refine(HB.out _ hb3).mono ?_;rintro e w4 ⟨rfl,hb4⟩)
  have hb4:Below w2.heap.size w2 w4:=hb3.trans (hb4.mono hb3.size);have g4:=i4 w4 hb4;have hM4:=HP.out.mo HM.out w4 (HP.out.wd _ hb4);have hII:=hM4.a.i x HX.out.1;have hsl:x.x.ss.length=x.i.shots.length:=by rw[hII.se,List.length_map]
  have hso:=hII.so;have hns:=HX.out.2.2.2.ns;obtain⟨gb,rfl⟩:∃ gb,sa=some ⟨gb,0,none⟩:=by
   rcases hso.shape with⟨h1,h2⟩|⟨g,cc,h1,_⟩
   ·have:=congrArg List.length h2;rw[List.length_map] at this;simp at this;rw[this] at hsl;simp at hsl;have:=HPN.out.2;simp[<-hsl] at this
   ·rw[HSV.out] at h1;cases h1;exact⟨g,rfl⟩
  rw[HSV.out] at hso;have hsn:sn=x.x.ss.length:=by have:=hso.parts.1;rwa[List.length_map] at this
  have HD:=hid (del87 hso k (by rw[List.length_map,hsl];exact HPN.out.2) (sxrows_one _) (by rw[List.length_map];omega));have HQ:=jd4 hM4 hII hb4 hsn;have hwr:IntKind.i64.wrap ((k:Int)+1)=(k:Int)+1:=IntWalk.i64_in _ (by have:=HPN.out.2;omega);clear hM4 hII hsl hso g2 f2 hb3 i4 hsn hns;go_upto_region 6 with(go_at_call 87;refine HD.out.mono ?_;rintro e w5 ⟨rfl,ho5,hk5⟩;have c5:w5.cell? ⟨x.ib,4,none⟩=some (.slice (some ⟨gb,0,none⟩) sn sc):=(hk5.cell (blk_lt HQ.out.2.1.ck) (by have:=(IX.fp_ib (II.fp_nodup HQ.out.1 HX.out.1)).2.2 gb (by rw[HSV.out];rfl);exact this.1)).trans g4;have z5:w5.frozen? ⟨x.ib,4,none⟩=false:=by(have hq:=(hk5.block x.ib (blk_lt HQ.out.2.1.ck) (by have:=(IX.fp_ib (II.fp_nodup HQ.out.1 HX.out.1)).2.2 gb (by rw[HSV.out];rfl);exact this.1)).trans HQ.out.2.1.ck;simp[World.frozen?,hq]))
  obtain⟨w6,hw6⟩:∃ z,z=w5.setCell ⟨x.ib,4,none⟩ (.slice (some ⟨gb,0,none⟩) (sn-1) sc):=⟨_,rfl⟩
  rw[<-hw6];obtain⟨hM4,hII,hb4,hsn⟩:=HQ.out;have hfn:=IX.fp_ib (II.fp_nodup hM4 HX.out.1);have hsb:x.x.sv.ownBlock=some gb:=by rw[HSV.out];rfl
  have hgb:=hfn.2.2 gb hsb;have hk6:Kept w4 w6 (fun b=>b≠gb/\b≠x.ib):=by rw[hw6];exact(hk5.imp fun b hb=>hb.1).trans (Kept.set _ _ _ _ (by simp))
  have hNI:NI w4 (fun b=>b≠gb/\b≠x.ib):=fun b cc t f hb h3=>by
   refine⟨fun e=>?_,fun e=>?_⟩
   ·have:=hII.typ b (by rw[e];unfold IX.fp;simp[hsb]) cc t f hb;rcases h3 with h|h|h<;>simp[h] at this
   ·have:=hII.typ b (by rw[e];unfold IX.fp;simp) cc t f hb;rcases h3 with h|h|h<;>simp[h] at this
  have hq5:w5.heap[x.ib]? = some (.cells #[.int .i64 x.i.cl,.int .i64 x.i.size,str x.i.back,.map (some x.x.om),x.x.sv,x.x.mv] 87 (0,0)):=(hk5.block x.ib (blk_lt hII.ck) hgb.1).trans hII.ck;have hII6:II w6 base x.ib {x.i with shots:=x.i.shots.eraseIdx k} {x.x with ss:=x.x.ss.eraseIdx k,sv:=.slice (some ⟨gb,0,none⟩) (sn-1) sc}:=by
   refine⟨?_,hII.own.kept hk6 ⟨hgb.2.1,Ne.symm hfn.1⟩ fun b cc f hc=>hNI b cc 5 f hc (.inl rfl),?_,?_,fun s hs=>?_,hII.maps.kept hk6 fun b cc t f hc ht=>hNI b cc t f hc (by rcases ht with h|h<;>simp[h])⟩
   ·rw[hw6,heap_setCell_at' w5 x.ib 4 _ _ 87 _ hq5];rfl
   ·show x.i.shots.eraseIdx k=(x.x.ss.eraseIdx k).map (·.s);rw[hII.se,map_erase]
   ·show OwnG w6 base 90 3 _ ((x.x.ss.eraseIdx k).map sxrow);rw[map_erase];exact ho5.kept (N:=(·≠x.ib)) (by rw[hw6];exact Kept.set _ _ _ _ (by simp)) fun q hq e=>by cases hq;exact hgb.1 e.symm
   ·have hs':=List.mem_of_mem_eraseIdx hs;exact(hII.sm s hs').kept hk6 ⟨hgb.2.2 s hs',Ne.symm (hfn.2.1 s hs').1⟩ fun b cc f hc=>hNI b cc 5 f hc (.inl rfl)
  have hok6:IOk {x.i with shots:=x.i.shots.eraseIdx k}:=by
   have h0:=HX.out.2.2.2;exact⟨h0.cl,h0.size,h0.whole,h0.own,fun s hs=>h0.shots s (List.mem_of_mem_eraseIdx hs),Nat.le_trans (List.length_eraseIdx_le _ _) h0.ns,h0.nb⟩
  have hfp:∀ b∈IX.fp x.ib {x.x with ss:=x.x.ss.eraseIdx k,sv:=.slice (some ⟨gb,0,none⟩) (sn-1) sc},b∈x.x.fp x.ib:=fun b hb=>by
   unfold IX.fp at hb ⊢;simp only[List.mem_cons,List.mem_append,List.mem_map,Option.mem_toList] at hb ⊢;rcases hb with h1|h1|⟨s,hs,h1⟩|h1
   ·exact .inl h1
   ·exact .inr (.inl h1)
   ·exact .inr (.inr (.inl ⟨s,List.mem_of_mem_eraseIdx hs,h1⟩))
   ·exact .inr (.inr (.inr (hsb.trans h1)))
  have hnd6:(IX.fp x.ib {x.x with ss:=x.x.ss.eraseIdx k,sv:=.slice (some ⟨gb,0,none⟩) (sn-1) sc}).Nodup:=by
   have h1:=II.fp_nodup hM4 HX.out.1;unfold IX.fp at h1 ⊢;refine h1.sublist ?_;refine List.Sublist.cons_cons _ (List.Sublist.cons_cons _ (List.Sublist.append ((List.eraseIdx_sublist _ _).map _) ?_));rw[hsb];exact List.Sublist.refl _
  have h9:=hM4.img HX.out.1 (hk6.imp fun b hb=>⟨fun e=>hb (by rw[e];unfold IX.fp;simp[hsb]),fun e=>hb (by rw[e];unfold IX.fp;simp)⟩) hII6 hok6 (fun b hb => .inl (hfp b hb)) hnd6;have hst:Stp w2 w6 (X.fp mb) _:=(Stp.of_below hb4 (X.fp mb)).trans h9.2;have hF:unshotF M c=({M with all:=setI M.all x.n {x.i with shots:=x.i.shots.eraseIdx k}},{},0):=by
   unfold unshotF;rw[HX.out.2.2.1];simp only;rw[HPN.out.1,HX.out.2.1]
  have HF:=hid hF;have HE:=jd2 h9.1 hst;obtain⟨x0,x1,x2,x3,x4,x5,xz⟩:=zcells (HP.out.zs HM.out hst);clear hw6 hM4 hII hb4 hsn hfn hsb hgb hk6 hNI hq5 hII6 hok6 hfp hnd6 h9 hst hF c5 z5 ho5 hk5 g4 hwr;obtain⟨W,hW,⟨y0,y1,y2,y3,y4,y5⟩,r1,r2,r3⟩:=end_ok HP.out HM.out HE.out.1 HE.out.2;have HWW:=hid hW;have HR:=jd3 r1 r2 r3;clear hW r1 r2 r3
  go_wp2_with fail
  change bodyPost _ _ _ _ _ (st6 w6 (w.heap.size+1) (.int .i64 0) nilS nilS nilS (.int .i64 0) (.int .i64 0));rw[<-HWW.out,HF.out];clear x0 x1 x2 x3 x4 x5 xz;refine bodyPost_ret (v:=failV 0) (by simp[results,results46,go_sem,y0,y1,y2,y3,y4,y5]) rfl ?_
  first
   | exact⟨_,rfl,HR.out.1,_,HR.out.2.1,rfl,nlr,rfl,HR.out.2.2⟩
   | exact⟨_,_,rfl,HR.out.1,HR.out.2.1,rfl,nlr,rfl,HR.out.2.2⟩
end Go.Proofs.YtgkabcaodnofnaaGreat
