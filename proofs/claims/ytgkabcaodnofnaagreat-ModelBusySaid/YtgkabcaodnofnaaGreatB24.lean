import Derived.Test.YtgkabcaodnofnaaGreatB23
set_option linter.unusedSimpArgs false
set_option linter.unusedVariables false
set_option maxRecDepth 100000
set_option maxHeartbeats 2000000
open Go.Proofs.Tryz
namespace Go.Md
def rebaseF:MM->Cm->MM×Rp×Nat:=movF fun c=>c.tt
def flattenF:MM->Cm->MM×Rp×Nat:=movF fun _=>[]
end Go.Md
namespace Go.Proofs.YtgkabcaodnofnaaGreat
open Go.RowKit Go.Mx Go.Md
theorem cmd50_any:CmdOk 50 HasN rebaseF:=by
 intro w base mb M X c dv h hM hbase hfr hC hp;obtain⟨da,dn,dc,rfl⟩:=slB_shape hC.d.slB;obtain⟨x,hx,hxn,hfx⟩:=has_x h hC hp;have hok:=h.a.ok x hx;obtain⟨w2,hw2,P⟩:=pro_of w c (.slice da dn dc);have f1:=P.c1;have f2:=P.c2;have HMV:=hid (moved_any (P.mo h w2 brf) hM (Nat.le_trans hbase P.b.size) hfr hx c.tt hC.tl);rw[hxn] at HMV;have HW:=hid hw2;have HP:=hid P;have HM:=hid h;have HK:=jd5 hM hbase hfr hC hp;have HX:=jd4 hx hxn hfx hok;have ef1:=f1 w2 brf;have ef2:=f2 w2 brf;clear hw2 P h hM hfr hC hp hxn hfx hok;go_enter func50,ntmps50
 go_upto_region 1 with(fail)
 rw[<-HW.out];obtain⟨q,hq⟩:∃ q,q=movedM M c.name c.tt:=⟨_,rfl⟩
 rw[<-hq] at HMV;have hqF:rebaseF M c=(q.1,failR q.2.1,q.2.2):=by rw[hq];rfl
 have HQF:=hid hqF;clear hq hqF
 go_wp2_with (go_at_call 96;refine HMV.out.mono ?_;rintro e w5 ⟨X',rfl,hm5,e1,e2,e3,e4⟩;have hz5:=HP.out.zs HM.out e4;obtain⟨x0,x1,x2,x3,x4,x5,xz⟩:=zcells hz5;have HE:=jd5 hm5 e1 e2 e3 e4;clear hm5 e1 e2 e3 e4 hz5)
 obtain⟨W,hW,⟨y0,y1,y2,y3,y4,y5⟩,r1,r2,r3⟩:=end_rep HP.out HM.out HE.out.1 HE.out.2.2.2.2 (RepOK.fail w5 w2.heap.size q.2.1) HP.out.b.size;clear x0 x1 x2 x3 x4 x5 xz;change bodyPost _ _ _ _ _ (st6 w5 (w.heap.size+1) (.int .i64 q.2.1) nilS nilS nilS (.int .i64 0) (.int .i64 0));rw[<-hW,HQF.out];exact bodyPost_ret (v:=failV q.2.1) (by simp[results,results50,go_sem,y0,y1,y2,y3,y4,y5]) rfl ⟨_,X',rfl,r1,r2,HE.out.2.1,HE.out.2.2.1,HE.out.2.2.2.1,r3⟩
theorem cmd51_any:CmdOk 51 HasN flattenF:=by
 intro w base mb M X c dv h hM hbase hfr hC hp;obtain⟨da,dn,dc,rfl⟩:=slB_shape hC.d.slB;obtain⟨x,hx,hxn,hfx⟩:=has_x h hC hp;have hok:=h.a.ok x hx;obtain⟨w2,hw2,P⟩:=pro_of w c (.slice da dn dc);have f1:=P.c1;have HMV:=hid (moved_any (P.mo h w2 brf) hM (Nat.le_trans hbase P.b.size) hfr hx [] (by simp));rw[hxn] at HMV;have HW:=hid hw2;have HP:=hid P;have HM:=hid h;have HK:=jd5 hM hbase hfr hC hp;have HX:=jd4 hx hxn hfx hok;have ef1:=f1 w2 brf;clear hw2 P h hM hfr hC hp hxn hfx hok;go_enter func51,ntmps51
 go_upto_region 1 with(fail)
 rw[<-HW.out];obtain⟨q,hq⟩:∃ q,q=movedM M c.name []:=⟨_,rfl⟩
 rw[<-hq] at HMV;have hqF:flattenF M c=(q.1,failR q.2.1,q.2.2):=by rw[hq];rfl
 have HQF:=hid hqF;clear hq hqF
 go_wp2_with (go_at_call 96;refine HMV.out.mono ?_;rintro e w5 ⟨X',rfl,hm5,e1,e2,e3,e4⟩;have hz5:=HP.out.zs HM.out e4;obtain⟨x0,x1,x2,x3,x4,x5,xz⟩:=zcells hz5;have HE:=jd5 hm5 e1 e2 e3 e4;clear hm5 e1 e2 e3 e4 hz5)
 obtain⟨W,hW,⟨y0,y1,y2,y3,y4,y5⟩,r1,r2,r3⟩:=end_rep HP.out HM.out HE.out.1 HE.out.2.2.2.2 (RepOK.fail w5 w2.heap.size q.2.1) HP.out.b.size;clear x0 x1 x2 x3 x4 x5 xz;change bodyPost _ _ _ _ _ (st6 w5 (w.heap.size+1) (.int .i64 q.2.1) nilS nilS nilS (.int .i64 0) (.int .i64 0));rw[<-hW,HQF.out];exact bodyPost_ret (v:=failV q.2.1) (by simp[results,results51,go_sem,y0,y1,y2,y3,y4,y5]) rfl ⟨_,X',rfl,r1,r2,HE.out.2.1,HE.out.2.2.1,HE.out.2.2.2.1,r3⟩
end Go.Proofs.YtgkabcaodnofnaaGreat
namespace Go.Md
def keysO (nc:Nat)(own:Nat->Option Bs):List Int:=sortZ (((List.range nc).filter fun k=>(own k).isSome).map fun k:Nat=>(k:Int))
theorem keysO_mem {nc:Nat}{own:Nat->Option Bs}{z:Int}(h:z∈keysO nc own):∃ k:Nat,z=(k:Int)/\k<nc/\(own k).isSome=true:=by
 unfold keysO sortZ at h;rw[List.mem_mergeSort,List.mem_map] at h;obtain⟨k,h1,rfl⟩:=h;rw[List.mem_filter,List.mem_range] at h1;exact⟨k,rfl,h1.1,h1.2⟩
end Go.Md
namespace Go.Proofs.YtgkabcaodnofnaaGreat
open Go.RowKit Go.Mx Go.Md Go.Maps Go.Sort Go.Shelf
theorem keys94 {w:World}{base m cl nc:Nat}{own:Nat->Option Bs}{l:ML Int}(hO:OM w base m own l)(ho:OwnOk cl nc own)(hn:nc<=4096) :
  Calls prog 94 #[.func (.func 129) #[] #[.pointer (some ⟨w.heap.size,0,none⟩)]] (w.alloc (.cells #[.map (some m)] 84)) fun e w'=>∃ v,e = .returned v/\OwnG w' w.heap.size 3 1 v ((keysO nc own).map fun z=>[encZ z])/\Below w.heap.size w w':=by
 have hll:l.length<=nc:=hO.len ho;obtain⟨D,hown,hsz,hnd,hle,hhas,hat⟩:=id hO.g;have hlk:∀ s,(Mx.look l s).isSome=true↔s∈l.map (·.1):=fun s=>by
  have:=look_none l s;cases hl:Mx.look l s with
  | none=>rw[hl] at this;simp only[Option.isSome_none,Bool.false_eq_true,false_iff];exact this.1 rfl
  | some b =>
   rw[hl] at this;simp only[reduceCtorEq,false_iff,Decidable.not_not] at this;simp only[Option.isSome_some,true_iff];exact this
 have hperm:(l.map (·.1)).Perm (intKeys D):=by
  refine CollectedI.perm (left:=fun _=>false) ⟨hnd,fun s=>?_⟩ hown (int_keyed underlying3) underlying3 (fun _=>rfl);have h5:Maps.has D (.int .i64 s)=_:=hhas s;rw[h5,<-hlk s];simp
 have hpk:(l.map (·.1)).Perm (((List.range nc).filter fun k=>(own k).isSome).map fun k:Nat=>(k:Int)):=by
  refine(List.perm_ext_iff_of_nodup hnd ?_).2 fun z=>?_
  ·refine List.pairwise_map.2 ((List.nodup_range.filter _).imp fun{a b} hne e=>hne ?_);have:(a:Int)=(b:Int):=e;omega
  ·constructor
   ·intro hz;obtain⟨p,hp,rfl⟩:=List.mem_map.1 hz;obtain⟨k,bs,h1,h2,_⟩:=hO.f p hp;exact List.mem_map.2 ⟨k,List.mem_filter.2 ⟨List.mem_range.2 (ho k bs h2).1,by rw[h2];rfl⟩,h1.symm⟩
   ·intro hz;obtain⟨k,hk,rfl⟩:=List.mem_map.1 hz;obtain⟨h1,h2⟩:=List.mem_filter.1 hk;obtain⟨bs,hb⟩:=Option.isSome_iff_exists.1 h2;obtain⟨v,hv⟩:=hO.b k bs hb;exact List.mem_map.2 ⟨_,hv,rfl⟩
 have hmax:Maps.size D<=maxLen:=by rw[hsz];unfold maxLen;omega
 have hbytes:Maps.size D*8<=140737488355328:=by rw[hsz];omega
 refine(sorted94 _ _ D _ w hown hmax hbytes).mono ?_;rintro e w' ⟨v,ss,rfl,hS,hrow,hnil,hb⟩;have e2:ss.mergeSort (fun x y=>decide (x<=y))=keysO nc own:=by
  unfold keysO sortZ;exact mergeSort_of_perm_i (hS.trans (hperm.symm.trans hpk))
 have hlen:ss.length=((keysO nc own).map fun z=>[encZ z]).length:=by rw[List.length_map,<-e2,(List.mergeSort_perm ss _).length_eq]
 have hfl:((keysO nc own).map fun z=>[encZ z]).flatten=(keysO nc own).map encZ:=by
  generalize keysO nc own=L
  induction L with
  | nil=>rfl
  | cons a r ih=>simp only[List.map_cons,List.flatten_cons,ih];rfl
 refine⟨v,rfl,⟨?_,?_⟩,((Below.refl _ w).alloc nlr _).trans (hb.mono (by simp))⟩
 ·rw[hfl,<-hlen,<-e2];exact ownsRow_base_a hrow (by simp)
 ·intro r hr;obtain⟨s,_,rfl⟩:=List.mem_map.1 hr;rfl
end Go.Proofs.YtgkabcaodnofnaaGreat
