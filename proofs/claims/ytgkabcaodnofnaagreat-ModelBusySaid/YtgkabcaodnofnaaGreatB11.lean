import Derived.Test.YtgkabcaodnofnaaGreatB10
import Derived.Shelf.SlIter.Nil
import Derived.Shelf.SortM.Plain
import Derived.Shelf.SortM.SortNone
import Derived.Shelf.SlIterI.Nil
import Derived.Sort.OwnSorted
set_option linter.unusedSimpArgs false
set_option linter.unusedVariables false
set_option maxRecDepth 100000
set_option maxHeartbeats 1000000
open Go.Proofs.Tryz
namespace Go.Proofs.YtgkabcaodnofnaaGreat
open Go.RowKit Go.Maps Go.Sort Go.Shelf Go.Mx Go.Md
def keysS_ren:Go.Shelf.Ren:=⟨fun|7=>25|10=>59|n=>n,fun|0=>0|4=>4|23=>57|26=>9|3=>77|27=>80|28=>81|33=>103|n=>n,fun|n=>n⟩
theorem keysS:Go.Proofs.SlLaysZ.n7 prog keysS_ren where
 mixed:=by kernel_rfl
 f7 := ⟨ "maps.Keys[map[string]*matryoshka/model.img,string,*matryoshka/model.img]", by decide, Tryz.func25.trans (congrArg some (by kernel_rfl))⟩
 f10 := ⟨ "maps.Keys[map[string]*matryoshka/model.img,string,*matryoshka/model.img]$1", by decide, Tryz.func59.trans (congrArg some (by kernel_rfl))⟩
 t0:=underlying0
 a0:=Tryz.isAgg0
 z0:=Tryz.sizeOf0
 v0:=Tryz.zeroValue0
 t4:=underlying4
 a4:=Tryz.isAgg4
 z4:=Tryz.sizeOf4
 v4:=Tryz.zeroValue4
 t23:=underlying57
 a23:=Tryz.isAgg57
 z23:=Tryz.sizeOf57
 v23:=Tryz.zeroValue57
 t26:=underlying9
 a26:=Tryz.isAgg9
 z26:=Tryz.sizeOf9
 v26:=Tryz.zeroValue9
 t27:=underlying80
 a27:=Tryz.isAgg80
 z27:=Tryz.sizeOf80
 v27:=Tryz.zeroValue80
 t28:=underlying81
 a28:=Tryz.isAgg81
 z28:=Tryz.sizeOf81
 v28:=Tryz.zeroValue81
 t33:=underlying103
 a33:=Tryz.isAgg103
 z33:=Tryz.sizeOf103
 v33:=Tryz.zeroValue103
def sortedS_ren:Go.Shelf.Ren:=⟨fun|6=>24|8=>57|9=>58|11=>104|n=>n,fun|0=>0|24=>31|26=>9|28=>81|27=>80|33=>103|3=>3|4=>4|n=>n,fun|n=>n⟩
theorem sortedS:Go.Proofs.SlLaysZ.n6 prog sortedS_ren where
 mixed:=by kernel_rfl
 f6 := ⟨ "slices.Sorted[string]", by decide, Tryz.func24.trans (congrArg some (by kernel_rfl))⟩
 f8 := ⟨ "slices.Collect[string]", by decide, Tryz.func57.trans (congrArg some (by kernel_rfl))⟩
 f11 := ⟨ "slices.AppendSeq[[]string,string]", by decide, Tryz.func104.trans (congrArg some (by kernel_rfl))⟩
 t0:=underlying0
 a0:=Tryz.isAgg0
 z0:=Tryz.sizeOf0
 v0:=Tryz.zeroValue0
 t24:=underlying31
 a24:=Tryz.isAgg31
 z24:=Tryz.sizeOf31
 v24:=Tryz.zeroValue31
 t26:=underlying9
 a26:=Tryz.isAgg9
 z26:=Tryz.sizeOf9
 v26:=Tryz.zeroValue9
 t28:=underlying81
 a28:=Tryz.isAgg81
 z28:=Tryz.sizeOf81
 v28:=Tryz.zeroValue81
 i26:=by kernel_rfl
def sortS_ren:Go.Shelf.Ren:=⟨fun|6=>58|8=>106|9=>105|19=>148|20=>149|21=>139|22=>140|23=>141|24=>142|25=>143|26=>144|27=>145|28=>146|29=>147|31=>165|32=>166|36=>164|37=>167|38=>168|39=>169|41=>189|n=>n,fun|0=>0|3=>3|4=>4|5=>5|9=>9|26=>31|27=>31|29=>9|32=>164|35=>201|36=>202|41=>207|44=>62|46=>121|53=>224|57=>228|63=>248|64=>249|n=>n,fun|n=>n⟩
theorem sortS:Go.Proofs.SlLaysM.n6 prog sortS_ren where
 mixed:=by kernel_rfl
 f6 := ⟨ "slices.Sort[[]string,string]", by decide, Tryz.func58.trans (congrArg some (by kernel_rfl))⟩
 f8:=func106.trans (congrArg some (by kernel_rfl))
 f9 := ⟨ "slices.pdqsortOrdered[string]", by decide, Tryz.func105.trans (congrArg some (by kernel_rfl))⟩
 f19:=func148.trans (congrArg some (by kernel_rfl))
 f20:=func149.trans (congrArg some (by kernel_rfl))
 f21 := ⟨ "slices.insertionSortOrdered[string]", by decide, Tryz.func139.trans (congrArg some (by kernel_rfl))⟩
 f22 := ⟨ "slices.heapSortOrdered[string]", by decide, Tryz.func140.trans (congrArg some (by kernel_rfl))⟩
 f23 := ⟨ "slices.breakPatternsOrdered[string]", by decide, Tryz.func141.trans (congrArg some (by kernel_rfl))⟩
 f24 := ⟨ "slices.choosePivotOrdered[string]", by decide, Tryz.func142.trans (congrArg some (by kernel_rfl))⟩
 f25 := ⟨ "slices.reverseRangeOrdered[string]", by decide, Tryz.func143.trans (congrArg some (by kernel_rfl))⟩
 f26 := ⟨ "slices.partialInsertionSortOrdered[string]", by decide, Tryz.func144.trans (congrArg some (by kernel_rfl))⟩
 f27 := ⟨ "cmp.Less[string]", by decide, Tryz.func145.trans (congrArg some (by kernel_rfl))⟩
 f28 := ⟨ "slices.partitionEqualOrdered[string]", by decide, Tryz.func146.trans (congrArg some (by kernel_rfl))⟩
 f29 := ⟨ "slices.partitionOrdered[string]", by decide, Tryz.func147.trans (congrArg some (by kernel_rfl))⟩
 f31:=func165.trans (congrArg some (by kernel_rfl))
 f32:=func166.trans (congrArg some (by kernel_rfl))
 f36 := ⟨ "slices.siftDownOrdered[string]", by decide, Tryz.func164.trans (congrArg some (by kernel_rfl))⟩
 f37 := ⟨ "slices.medianAdjacentOrdered[string]", by decide, Tryz.func167.trans (congrArg some (by kernel_rfl))⟩
 f38 := ⟨ "slices.medianOrdered[string]", by decide, Tryz.func168.trans (congrArg some (by kernel_rfl))⟩
 f39 := ⟨ "cmp.isNaN[string]", by decide, Tryz.func169.trans (congrArg some (by kernel_rfl))⟩
 f41 := ⟨ "slices.order2Ordered[string]", by decide, Tryz.func189.trans (congrArg some (by kernel_rfl))⟩
 t0:=underlying0
 a0:=Tryz.isAgg0
 z0:=Tryz.sizeOf0
 v0:=Tryz.zeroValue0
 t3:=underlying3
 a3:=Tryz.isAgg3
 z3:=Tryz.sizeOf3
 v3:=Tryz.zeroValue3
 t4:=underlying4
 a4:=Tryz.isAgg4
 z4:=Tryz.sizeOf4
 v4:=Tryz.zeroValue4
 t5:=underlying5
 a5:=Tryz.isAgg5
 z5:=Tryz.sizeOf5
 v5:=Tryz.zeroValue5
 t9:=underlying9
 a9:=Tryz.isAgg9
 z9:=Tryz.sizeOf9
 v9:=Tryz.zeroValue9
 t26:=underlying31
 a26:=Tryz.isAgg31
 z26:=Tryz.sizeOf31
 v26:=Tryz.zeroValue31
 t27:=underlying31
 a27:=Tryz.isAgg31
 z27:=Tryz.sizeOf31
 v27:=Tryz.zeroValue31
 t29:=underlying9
 a29:=Tryz.isAgg9
 z29:=Tryz.sizeOf9
 v29:=Tryz.zeroValue9
 t32:=underlying164
 a32:=Tryz.isAgg164
 z32:=Tryz.sizeOf164
 v32:=Tryz.zeroValue164
 t35:=underlying201
 a35:=Tryz.isAgg201
 z35:=Tryz.sizeOf201
 v35:=Tryz.zeroValue201
 t36:=underlying202
 a36:=Tryz.isAgg202
 z36:=Tryz.sizeOf202
 v36:=Tryz.zeroValue202
 t41:=underlying207
 a41:=Tryz.isAgg207
 z41:=Tryz.sizeOf207
 v41:=Tryz.zeroValue207
 t44:=underlying62
 a44:=Tryz.isAgg62
 z44:=Tryz.sizeOf62
 v44:=Tryz.zeroValue62
 t46:=underlying121
 a46:=Tryz.isAgg121
 z46:=Tryz.sizeOf121
 v46:=Tryz.zeroValue121
 t53:=underlying224
 a53:=Tryz.isAgg224
 z53:=Tryz.sizeOf224
 v53:=Tryz.zeroValue224
 t57:=underlying228
 a57:=Tryz.isAgg228
 z57:=Tryz.sizeOf228
 v57:=Tryz.zeroValue228
 t63:=underlying248
 a63:=Tryz.isAgg248
 z63:=Tryz.sizeOf248
 v63:=Tryz.zeroValue248
 t64:=underlying249
 a64:=Tryz.isAgg249
 z64:=Tryz.sizeOf249
 v64:=Tryz.zeroValue249
def keysI_ren:Go.Shelf.Ren:=⟨fun|7=>95|10=>129|n=>n,fun|0=>0|4=>4|23=>84|26=>3|3=>23|27=>148|28=>149|33=>78|n=>n,fun|n=>n⟩
theorem keysI:Go.Proofs.SlLaysZI.n7 prog keysI_ren where
 mixed:=by kernel_rfl
 f7 := ⟨ "maps.Keys[map[int][]byte,int,[]byte]", by decide, Tryz.func95.trans (congrArg some (by kernel_rfl))⟩
 f10 := ⟨ "maps.Keys[map[int][]byte,int,[]byte]$1", by decide, Tryz.func129.trans (congrArg some (by kernel_rfl))⟩
 t0:=underlying0
 a0:=Tryz.isAgg0
 z0:=Tryz.sizeOf0
 v0:=Tryz.zeroValue0
 t4:=underlying4
 a4:=Tryz.isAgg4
 z4:=Tryz.sizeOf4
 v4:=Tryz.zeroValue4
 t23:=underlying84
 a23:=Tryz.isAgg84
 z23:=Tryz.sizeOf84
 v23:=Tryz.zeroValue84
 t26:=underlying3
 a26:=Tryz.isAgg3
 z26:=Tryz.sizeOf3
 v26:=Tryz.zeroValue3
 t27:=underlying148
 a27:=Tryz.isAgg148
 z27:=Tryz.sizeOf148
 v27:=Tryz.zeroValue148
 t28:=underlying149
 a28:=Tryz.isAgg149
 z28:=Tryz.sizeOf149
 v28:=Tryz.zeroValue149
 t33:=underlying78
 a33:=Tryz.isAgg78
 z33:=Tryz.sizeOf78
 v33:=Tryz.zeroValue78
def sortedI_ren:Go.Shelf.Ren:=⟨fun|6=>94|8=>127|9=>128|11=>156|n=>n,fun|0=>0|24=>146|26=>3|28=>149|27=>148|33=>78|3=>3|4=>4|n=>n,fun|n=>n⟩
theorem sortedI:Go.Proofs.SlLaysZI.n6 prog sortedI_ren where
 mixed:=by kernel_rfl
 f6 := ⟨ "slices.Sorted[int]", by decide, Tryz.func94.trans (congrArg some (by kernel_rfl))⟩
 f8 := ⟨ "slices.Collect[int]", by decide, Tryz.func127.trans (congrArg some (by kernel_rfl))⟩
 f11 := ⟨ "slices.AppendSeq[[]int,int]", by decide, Tryz.func156.trans (congrArg some (by kernel_rfl))⟩
 t0:=underlying0
 a0:=Tryz.isAgg0
 z0:=Tryz.sizeOf0
 v0:=Tryz.zeroValue0
 t24:=underlying146
 a24:=Tryz.isAgg146
 z24:=Tryz.sizeOf146
 v24:=Tryz.zeroValue146
 t26:=underlying3
 a26:=Tryz.isAgg3
 z26:=Tryz.sizeOf3
 v26:=Tryz.zeroValue3
 t28:=underlying149
 a28:=Tryz.isAgg149
 z28:=Tryz.sizeOf149
 v28:=Tryz.zeroValue149
 i26:=by kernel_rfl
def sortI_ren:Go.Shelf.Ren:=⟨fun|5=>128|7=>157|8=>106|10=>178|11=>179|12=>180|13=>181|14=>182|15=>183|16=>184|17=>185|18=>186|19=>148|20=>149|30=>197|31=>165|32=>166|33=>198|34=>199|35=>200|40=>203|n=>n,fun|0=>0|3=>3|4=>4|5=>5|9=>9|22=>146|23=>146|25=>3|32=>164|35=>201|36=>202|41=>207|44=>62|46=>121|53=>224|57=>228|63=>248|64=>249|n=>n,fun|n=>n⟩
theorem sortI:Go.Proofs.SlLaysM.n5 prog sortI_ren where
 mixed:=by kernel_rfl
 f5 := ⟨ "slices.Sort[[]int,int]", by decide, Tryz.func128.trans (congrArg some (by kernel_rfl))⟩
 f7 := ⟨ "slices.pdqsortOrdered[int]", by decide, Tryz.func157.trans (congrArg some (by kernel_rfl))⟩
 f8:=func106.trans (congrArg some (by kernel_rfl))
 f10 := ⟨ "slices.insertionSortOrdered[int]", by decide, Tryz.func178.trans (congrArg some (by kernel_rfl))⟩
 f11 := ⟨ "slices.heapSortOrdered[int]", by decide, Tryz.func179.trans (congrArg some (by kernel_rfl))⟩
 f12 := ⟨ "slices.breakPatternsOrdered[int]", by decide, Tryz.func180.trans (congrArg some (by kernel_rfl))⟩
 f13 := ⟨ "slices.choosePivotOrdered[int]", by decide, Tryz.func181.trans (congrArg some (by kernel_rfl))⟩
 f14 := ⟨ "slices.reverseRangeOrdered[int]", by decide, Tryz.func182.trans (congrArg some (by kernel_rfl))⟩
 f15 := ⟨ "slices.partialInsertionSortOrdered[int]", by decide, Tryz.func183.trans (congrArg some (by kernel_rfl))⟩
 f16 := ⟨ "cmp.Less[int]", by decide, Tryz.func184.trans (congrArg some (by kernel_rfl))⟩
 f17 := ⟨ "slices.partitionEqualOrdered[int]", by decide, Tryz.func185.trans (congrArg some (by kernel_rfl))⟩
 f18 := ⟨ "slices.partitionOrdered[int]", by decide, Tryz.func186.trans (congrArg some (by kernel_rfl))⟩
 f19:=func148.trans (congrArg some (by kernel_rfl))
 f20:=func149.trans (congrArg some (by kernel_rfl))
 f30 := ⟨ "slices.siftDownOrdered[int]", by decide, Tryz.func197.trans (congrArg some (by kernel_rfl))⟩
 f31:=func165.trans (congrArg some (by kernel_rfl))
 f32:=func166.trans (congrArg some (by kernel_rfl))
 f33 := ⟨ "slices.medianAdjacentOrdered[int]", by decide, Tryz.func198.trans (congrArg some (by kernel_rfl))⟩
 f34 := ⟨ "slices.medianOrdered[int]", by decide, Tryz.func199.trans (congrArg some (by kernel_rfl))⟩
 f35 := ⟨ "cmp.isNaN[int]", by decide, Tryz.func200.trans (congrArg some (by kernel_rfl))⟩
 f40 := ⟨ "slices.order2Ordered[int]", by decide, Tryz.func203.trans (congrArg some (by kernel_rfl))⟩
 t0:=underlying0
 a0:=Tryz.isAgg0
 z0:=Tryz.sizeOf0
 v0:=Tryz.zeroValue0
 t3:=underlying3
 a3:=Tryz.isAgg3
 z3:=Tryz.sizeOf3
 v3:=Tryz.zeroValue3
 t4:=underlying4
 a4:=Tryz.isAgg4
 z4:=Tryz.sizeOf4
 v4:=Tryz.zeroValue4
 t5:=underlying5
 a5:=Tryz.isAgg5
 z5:=Tryz.sizeOf5
 v5:=Tryz.zeroValue5
 t9:=underlying9
 a9:=Tryz.isAgg9
 z9:=Tryz.sizeOf9
 v9:=Tryz.zeroValue9
 t22:=underlying146
 a22:=Tryz.isAgg146
 z22:=Tryz.sizeOf146
 v22:=Tryz.zeroValue146
 t23:=underlying146
 a23:=Tryz.isAgg146
 z23:=Tryz.sizeOf146
 v23:=Tryz.zeroValue146
 t25:=underlying3
 a25:=Tryz.isAgg3
 z25:=Tryz.sizeOf3
 v25:=Tryz.zeroValue3
 t32:=underlying164
 a32:=Tryz.isAgg164
 z32:=Tryz.sizeOf164
 v32:=Tryz.zeroValue164
 t35:=underlying201
 a35:=Tryz.isAgg201
 z35:=Tryz.sizeOf201
 v35:=Tryz.zeroValue201
 t36:=underlying202
 a36:=Tryz.isAgg202
 z36:=Tryz.sizeOf202
 v36:=Tryz.zeroValue202
 t41:=underlying207
 a41:=Tryz.isAgg207
 z41:=Tryz.sizeOf207
 v41:=Tryz.zeroValue207
 t44:=underlying62
 a44:=Tryz.isAgg62
 z44:=Tryz.sizeOf62
 v44:=Tryz.zeroValue62
 t46:=underlying121
 a46:=Tryz.isAgg121
 z46:=Tryz.sizeOf121
 v46:=Tryz.zeroValue121
 t53:=underlying224
 a53:=Tryz.isAgg224
 z53:=Tryz.sizeOf224
 v53:=Tryz.zeroValue224
 t57:=underlying228
 a57:=Tryz.isAgg228
 z57:=Tryz.sizeOf228
 v57:=Tryz.zeroValue228
 t63:=underlying248
 a63:=Tryz.isAgg248
 z63:=Tryz.sizeOf248
 v63:=Tryz.zeroValue248
 t64:=underlying249
 a64:=Tryz.isAgg249
 z64:=Tryz.sizeOf249
 v64:=Tryz.zeroValue249
theorem sortsS (m:Nat):AnyZ.SortsIn prog sortedS_ren Fence.wide m :=
 ⟨fun blk off cap ss W hH hblk hsz=>callsIn_wide.2 (AnyM.slices_Sort_string sortS blk off cap ss W hH hblk hsz),
  fun p cap W=>callsIn_wide.2 (AnyM.slices_Sort_string_none sortS p cap W)⟩
theorem sortsI (m:Nat):AnyZI.SortsIn prog sortedI_ren Fence.wide m :=
 ⟨fun blk off cap ss W hH hblk hsz=>callsIn_wide.2 (AnyM.slices_Sort_int sortI blk off cap ss W hH hblk hsz),
  fun p cap W=>callsIn_wide.2 (AnyM.slices_Sort_int_none sortI p cap W)⟩
theorem keysI_c (mb:Option Nat)(W:World):Calls prog 95 #[.map mb] W fun e w'=>e = .returned (.func (.func 129) #[] #[.pointer (some ⟨W.heap.size,0,none⟩)])/\w'=W.alloc (.cells #[.map mb] 84) :=
 (callsIn_wide (n:=5)).1 (AnyZI.keys_in keysI Fence.wide 5 trivial rfl mb W)
theorem keysS_c (mb:Option Nat)(W:World):Calls prog 25 #[.map mb] W fun e w'=>e = .returned (.func (.func 59) #[] #[.pointer (some ⟨W.heap.size,0,none⟩)])/\w'=W.alloc (.cells #[.map mb] 57) :=
 (callsIn_wide (n:=5)).1 (AnyZ.keys_in keysS Fence.wide 5 trivial rfl mb W)
open Go.RowKit Go.Mx Go.Md
variable {w w':World}{base mb:Nat}{M:MM}{X:MX}
def newX (am:Nat)(xs:List XI)(km:Nat)(ks:List XI)(hm:Nat)(cl:ML (List UInt8)):MX:=⟨am,xs,km,ks,hm,cl,none,.slice none 0 0,[]⟩
theorem nd3 {l1 l2:List Nat}{hm:Nat}(h1:l1.Nodup)(h2:l2.Nodup)(e1:∀ b∈l1,b≠hm)(e2:∀ b∈l2,b≠hm)(e3:∀ b∈l1,∀ c∈l2,b≠c):(hm :: (l1++l2)).Nodup:=by
 rw[List.nodup_cons,List.nodup_append];refine⟨fun h=>?_,h1,h2,e3⟩;rcases List.mem_append.1 h with h|h
 ·exact e1 _ h rfl
 ·exact e2 _ h rfl
theorem newX_fp {nb am km hm:Nat}{xs ks:List XI}{b:Nat}(h:b∈(newX am xs km ks hm []).fp nb):b=nb\/b=hm\/b∈fpA am xs\/b∈fpA km ks:=by
 unfold MX.fp newX at h;simp only[Option.toList_none,List.nil_append,Value.ownBlock,List.mem_cons,List.mem_append] at h;exact h
theorem AM.empty0 {am:Nat}(h:GM ES prog 9 w am []):AM w base am [] []:=⟨h,.nil,by simp,by simp,by simp,by simp⟩
theorem mo_new {am km hm:Nat}{S T:IL}{xs ks:List XI}(a:AM w base am S xs)(k:AM w base km T ks)(h:GM ES prog 9 w hm [])(hn:(hm :: (fpA am xs++fpA km ks)).Nodup) :
  MO (w.alloc (.cells #[.map (some am),.map (some km),.map (some hm),.int .u32 0,.int .i32 0,.int .u32 0,.map none,.slice none 0 0] 73)) base w.heap.size ⟨S,T,fun _=>false⟩ (newX am xs km ks hm []):=by
 have hb:Below w.heap.size w (w.alloc (.cells #[.map (some am),.map (some km),.map (some hm),.int .u32 0,.int .i32 0,.int .u32 0,.map none,.slice none 0 0] 73)):=brf.alloc nlr _;refine⟨alloc_new w _,a.below hb,k.below hb,h.block (hb.block _ h.lt),by simp[newX],fun n=>rfl,fun dm e=>by simp[newX] at e,OwnG.nil _ _ _ _,?_⟩;unfold MX.fp;simp only[newX,Option.toList_none,List.nil_append,Value.ownBlock];rw[List.nodup_cons];refine⟨fun hm'=>?_,hn⟩;have h1:w.heap.size<w.heap.size:=by
  rcases List.mem_cons.1 hm' with e|e
  ·have:=h.lt;omega
  ·rcases List.mem_append.1 e with e|e
   ·exact a.lt _ e
   ·exact k.lt _ e
 omega
theorem new_any (w:World)(base:Nat)(hbase:base<=w.heap.size):Calls prog 13 #[] w fun e w'=>e = .returned (pt (w.heap.size+3))/\MO w' base (w.heap.size+3) ⟨[],[],fun _=>false⟩ (newX w.heap.size [] (w.heap.size+1) [] (w.heap.size+2) [])/\Below w.heap.size w w':=by
 have hmm := @run_makeMap prog;go_enter func13,ntmps13
 go_wp2_with fail
 go_ret
 obtain⟨w1,hw1⟩:∃ z,z=w.alloc (.map #[] 0):=⟨_,rfl⟩
 have g1:GM ES prog 9 w1 w.heap.size []:=by rw[hw1];exact GM.made ES prog 9 w
 have s1:w1.heap.size=w.heap.size+1:=by rw[hw1];simp
 rw[<-hw1];obtain⟨w2,hw2⟩:∃ z,z=w1.alloc (.map #[] 0):=⟨_,rfl⟩
 have g2:GM ES prog 9 w2 w1.heap.size []:=by rw[hw2];exact GM.made ES prog 9 w1
 have s2:w2.heap.size=w1.heap.size+1:=by rw[hw2];simp
 have b2:Below w1.heap.size w1 w2:=by rw[hw2];exact brf.alloc nlr _
 rw[<-hw2];obtain⟨w3,hw3⟩:∃ z,z=w2.alloc (.map #[] 0):=⟨_,rfl⟩
 have g3:GM ES prog 9 w3 w2.heap.size []:=by rw[hw3];exact GM.made ES prog 9 w2
 have s3:w3.heap.size=w2.heap.size+1:=by rw[hw3];simp
 have b3:Below w2.heap.size w2 w3:=by rw[hw3];exact brf.alloc nlr _
 rw[<-hw3];have b1:Below w.heap.size w w1:=by rw[hw1];exact brf.alloc nlr _
 have a1:=AM.empty0 (base:=base) (((g1.block (b2.block _ g1.lt)).block (b3.block _ (by omega))));have a2:=AM.empty0 (base:=base) (g2.block (b3.block _ g2.lt));have h9:=mo_new a1 a2 g3 (by simp[fpA];omega);rw[show w.heap.size+3=w3.heap.size by omega,show w.heap.size+1+1=w2.heap.size by omega,show w.heap.size+1=w1.heap.size by omega];exact⟨rfl,h9,((b1.trans (b2.mono (by omega))).trans (b3.mono (by omega))).alloc (by omega) _⟩
theorem kept_any (hm:∃ c,w.heap[mb]? = some (.cells c 73 (0,0))/\c[1]? = some (.map (some X.km)))(hA:AM w base X.km M.kept X.ks)(hbase:base<=w.heap.size)(hl:X.ks.length<=1000) :
  Calls prog 16 #[pt mb] w fun e w'=>∃ nb X',e = .returned (pt nb)/\MO w' base nb ⟨M.kept,M.kept,fun _=>false⟩ X'/\(∀ b∈X'.fp nb,w.heap.size<=b)/\X'.fr=[]/\Below w.heap.size w w':=by
 obtain⟨c,hc1,hc2⟩:=hm;have c1:∀ w',Below w.heap.size w w'->w'.cell? ⟨mb,1,none⟩=some (.map (some X.km)):=fun w' hB=>by
  have:=(hB.block _ (blk_lt hc1)).trans hc1;simp[World.cell?,this,hc2]
 have HC:=hid (fun w' (hB:Below w.heap.size w w')=>cloned_any (hA.below hB) (Nat.le_trans hbase hB.size) hl);have hmm := @run_makeMap prog;have hq:∀ w',(binOp .eql 28 (pt mb) (.pointer none)).run prog w' = .ok (.bool false) w':=fun w'=>by simp[go_sem]
 clear hA hc1 hc2;have c0:=c1 w brf;go_enter func16,ntmps16
 go_upto_region 3 with(fail)
 go_region_held (fun w'=>Below w.heap.size w w') (first|exact brf.drew|assumption|exact Below.drew (by assumption)|exact Below.alloc (by assumption) (Below.size (by assumption)) _) (first
  | (go_at_call 28;have hq5:=hn5;refine(HC.out _ (by assumption)).mono ?_;rintro e w6 ⟨rfl,ys6,hA6,hn6,hge6,hb6c⟩;have hb6:Below w.heap.size w w6:=Below.trans (by assumption) (hb6c.mono (Below.size (by assumption))))
  | (go_at_call 28;refine(HC.out _ (by assumption)).mono ?_;rintro e w5 ⟨rfl,ys5,hA5,hn5,hge5,hb5c⟩;have hb5:Below w.heap.size w w5:=Below.trans (by assumption) (hb5c.mono (Below.size (by assumption)))))
 all_goals (go_wp2_with fail;go_ret)
 ·have hx:=hA5.below hb6c;have hg:GM ES prog 9 (w6.alloc (.map #[] 0)) w6.heap.size []:=GM.made ES prog 9 w6;have bB:Below w6.heap.size w6 (w6.alloc (.map #[] 0)):=brf.alloc nlr _;have l5:=hA5.lt;have l6:=hA6.lt;have s6:w5.heap.size<=w6.heap.size:=hb6c.size;have s5:w.heap.size<=w5.heap.size:=hb5.size;have hz:(w6.alloc (.map #[] 0)).heap.size=w6.heap.size+1:=by simp
  have h9:=mo_new (hx.below bB) (hA6.below bB) hg (nd3 hn5 hn6 (fun b hb=>by have:=l5 b hb;omega) (fun b hb=>by have:=l6 b hb;omega) fun b hb c hc=>by have:=l5 b hb;have:=hge6 c hc;omega);rw[hz] at h9;refine⟨_,_,rfl,h9,fun b hb=>?_,rfl,(hb6.alloc hb6.size _).alloc (by omega) _⟩;rcases newX_fp hb with e|e|e|e
  ·omega
  ·omega
  ·exact hge5 b e
  ·have:=hge6 b e;omega
 ·have hx:=hA5.below (brf.alloc nlr (.map #[] 0));have hy:=hx.below hb6c;have hg0:GM ES prog 9 (w5.alloc (.map #[] 0)) w5.heap.size []:=GM.made ES prog 9 w5;have hg:=hg0.block (hb6c.block _ hg0.lt);have l5:=hA5.lt;have l6:=hA6.lt;have hz:(w5.alloc (.map #[] 0)).heap.size=w5.heap.size+1:=by simp
  have s6:w5.heap.size+1<=w6.heap.size:=by rw[<-hz];exact hb6c.size
  have s5:w.heap.size<=w5.heap.size:=hb5.size;have h9:=mo_new hy hA6 hg (nd3 hn5 hn6 (fun b hb=>by have:=l5 b hb;omega) (fun b hb=>by have:=hge6 b hb;rw[hz] at this;omega) fun b hb c hc=>by have:=l5 b hb;have:=hge6 c hc;rw[hz] at this;omega);rw[hz] at h9;refine⟨_,_,rfl,h9,fun b hb=>?_,rfl,hb6.alloc hb6.size _⟩;rcases newX_fp hb with e|e|e|e
  ·omega
  ·omega
  ·exact hge5 b e
  ·have:=hge6 b (by rw[hz];exact e);rw[hz] at this;omega
 ·have hg0:GM ES prog 9 (w.alloc (.map #[] 0)) w.heap.size []:=GM.made ES prog 9 w;have hg1:=hg0.block (w':=(w.alloc (.map #[] 0)).drew) rfl;have hz:(w.alloc (.map #[] 0)).drew.heap.size=w.heap.size+1:=by simp
  have hg:=(hg1.block (hb5c.block _ (by rw[hz];omega))).block (hb6c.block _ (by have:=hb5c.size;rw[hz] at this;omega));have hx:=hA5.below hb6c;have l5:=hA5.lt;have l6:=hA6.lt;have s6:w5.heap.size<=w6.heap.size:=hb6c.size;have s5:w.heap.size+1<=w5.heap.size:=by rw[<-hz];exact hb5c.size
  have h9:=mo_new hx hA6 hg (nd3 hn5 hn6 (fun b hb=>by have:=hge5 b hb;rw[hz] at this;omega) (fun b hb=>by have:=hge6 b hb;omega) fun b hb c hc=>by have:=l5 b hb;have:=hge6 c hc;omega);rw[hz] at h9;refine⟨_,_,rfl,h9,fun b hb=>?_,rfl,hb6.alloc hb6.size _⟩;rcases newX_fp hb with e|e|e|e
  ·omega
  ·omega
  ·have:=hge5 b (by rw[hz];exact e);rw[hz] at this;omega
  ·have:=hge6 b e;omega
open Go.RowKit Go.Mx Go.Md
def putX (xs:List XI)(y:XI):List XI:=if xs.any (fun z=>decide (z.n=y.n)) then repl xs y else xs++[y]
theorem repl_not {xs:List XI}{y:XI}(h:y.n∉xs.map (·.n)):repl xs y=xs:=by
 unfold repl
 conv=>rhs;rw[<-List.map_id xs]
 refine List.map_congr_left fun z hz=>?_;rw[if_neg (fun(e:z.n=y.n)=>h (by rw[<-e];exact List.mem_map.2 ⟨z,hz,rfl⟩))];rfl
theorem repl_fp {xs:List XI}{y:XI}{b:Nat}(h:b∈(repl xs y).flatMap fun x=>x.x.fp x.ib):b∈(xs.flatMap fun x=>x.x.fp x.ib)\/b∈y.x.fp y.ib:=by
 obtain⟨z,hz,hb⟩:=List.mem_flatMap.1 h;obtain⟨v,hv,rfl⟩:=List.mem_map.1 hz;split at hb
 ·exact .inr hb
 ·exact .inl (List.mem_flatMap.2 ⟨v,hv,hb⟩)
theorem repl_nodup {y:XI}:∀ (xs:List XI),(xs.map (·.n)).Nodup->(xs.flatMap fun x=>x.x.fp x.ib).Nodup->(y.x.fp y.ib).Nodup->(∀ b∈y.x.fp y.ib,b∉xs.flatMap fun x=>x.x.fp x.ib)->((repl xs y).flatMap fun x=>x.x.fp x.ib).Nodup
 | [],_,_,_,_=>by simp[repl]
 | a :: r,hn,hf,hy,hd=>by
  rw[List.map_cons,List.nodup_cons] at hn;rw[List.flatMap_cons,List.nodup_append] at hf;have hd2:∀ b∈y.x.fp y.ib,b∉r.flatMap fun x=>x.x.fp x.ib:=fun b hb h=>hd b hb (by rw[List.flatMap_cons];exact List.mem_append_right _ h);have hd1:∀ b∈y.x.fp y.ib,b∉a.x.fp a.ib:=fun b hb h=>hd b hb (by rw[List.flatMap_cons];exact List.mem_append_left _ h);have e:repl (a :: r) y=(if a.n=y.n then y else a) :: repl r y:=rfl;rw[e,List.flatMap_cons,List.nodup_append];by_cases h:a.n=y.n
  ·rw[if_pos h,repl_not (by rw[<-h];exact hn.1)];exact⟨hy,hf.2.1,fun b hb c hc e=>hd2 b hb (e▸hc)⟩
  ·rw[if_neg h];refine⟨hf.1,repl_nodup r hn.2 hf.2.1 hy hd2,fun b hb c hc e=>?_⟩;rcases repl_fp hc with h1|h1
   ·exact hf.2.2 b hb c h1 e
   ·exact hd1 c h1 (e▸hb)
variable {w w':World}{base am:Nat}{S:IL}{xs:List XI}{y:XI}
theorem any_name:xs.any (fun z=>decide (z.n=y.n))=true↔y.n∈xs.map (·.n):=by
 rw[List.any_eq_true,List.mem_map];constructor
 ·rintro⟨z,hz,h⟩;exact⟨z,hz,by simpa using h⟩
 ·rintro⟨z,hz,h⟩;exact⟨z,hz,by simpa using h⟩
theorem putX_mem {z:XI}(h:z∈putX xs y):z=y\/(z∈xs/\z.n≠y.n):=by
 unfold putX at h;split at h
 ·obtain⟨v,hv,rfl⟩:=List.mem_map.1 h;split
  ·exact .inl rfl
  ·rename_i hn;exact .inr ⟨hv,hn⟩
 ·rename_i hn;rw[any_name] at hn;rcases List.mem_append.1 h with h1|h1
  ·exact .inr ⟨h1,fun e=>hn (e▸List.mem_map.2 ⟨z,h1,rfl⟩)⟩
  ·simp at h1;exact .inl h1
theorem mem_putX:y∈putX xs y:=by
 unfold putX;split
 ·rename_i h;rw[List.any_eq_true] at h;obtain⟨z,hz,h⟩:=h;exact List.mem_map.2 ⟨z,hz,by rw[if_pos (by simpa using h)]⟩
 ·simp
theorem putX_len:(putX xs y).length<=xs.length+1:=by
 unfold putX;split
 ·unfold repl;simp
 ·simp
theorem fpA_putX {b:Nat}(h:b∈fpA am (putX xs y)):b∈fpA am xs\/b∈y.x.fp y.ib:=by
 unfold fpA at h ⊢;rcases List.mem_cons.1 h with e|h1
 ·exact .inl (e▸List.mem_cons_self ..)
 ·unfold putX at h1;split at h1
  ·rcases repl_fp h1 with h2|h2
   ·exact .inl (List.mem_cons_of_mem _ h2)
   ·exact .inr h2
  ·rw[List.flatMap_append] at h1;rcases List.mem_append.1 h1 with h2|h2
   ·exact .inl (List.mem_cons_of_mem _ h2)
   ·exact .inr (by simpa using h2)
theorem fpA_putX_nodup (hn:(xs.map (·.n)).Nodup)(hf:(fpA am xs).Nodup)(hy:(y.x.fp y.ib).Nodup)(hd:∀ b∈y.x.fp y.ib,b∉fpA am xs):(fpA am (putX xs y)).Nodup:=by
 have h1:=List.nodup_cons.1 hf;have hd2:∀ b∈y.x.fp y.ib,b∉xs.flatMap fun x=>x.x.fp x.ib:=fun b hb h=>hd b hb (List.mem_cons_of_mem _ h);unfold fpA;rw[List.nodup_cons];constructor
 ·intro h;have h2:am∈(putX xs y).flatMap fun x=>x.x.fp x.ib:=h;have h3:am∈(xs.flatMap fun x=>x.x.fp x.ib)\/am∈y.x.fp y.ib:=by
   unfold putX at h2;split at h2
   ·exact repl_fp h2
   ·rw[List.flatMap_append] at h2;rcases List.mem_append.1 h2 with h4|h4
    ·exact .inl h4
    ·exact .inr (by simpa using h4)
  rcases h3 with h4|h4
  ·exact h1.1 h4
  ·exact hd am h4 (List.mem_cons_self ..)
 ·unfold putX;split
  ·exact repl_nodup xs hn h1.2 hy hd2
  ·rw[List.flatMap_append,List.nodup_append];refine⟨h1.2,by simpa using hy,fun b hb c hc e=>?_⟩;subst e;exact hd2 b (by simpa using hc) hb
theorem AM.names_S (h:AM w base am S xs)(n:Bs):(fnd S n).isSome=true↔n∈xs.map (·.n):=by
 have hp:=h.p.map (·.1);rw[List.map_map] at hp;have e:xs.map ((fun x:Bs×IM=>x.1) ∘ fun x:XI=>(x.n,x.i))=xs.map (·.n):=rfl;rw[e] at hp;rw[hp.mem_iff];cases hf:fnd S n with
 | none=>rw[fnd_none] at hf;simp[hf]
 | some i=>simp only[Option.isSome_some,true_iff];exact List.mem_map.2 ⟨_,fnd_mem hf,rfl⟩
theorem AM.put (h:AM w base am S xs)(hnd:(fpA am xs).Nodup)(hg:GM ES prog 9 w' am (Mx.upd (xs.map fun x=>(x.n,pt x.ib)) y.n (pt y.ib)))(hk:Kept w w' (·≠am))(hII:II w' base y.ib y.i y.x)(hok:IOk y.i)(hnl:y.n.length<=100) :
  AM w' base am (setI S y.n y.i) (putX xs y):=by
 have hNI:NI w (·≠am):=fun b c t f hb _ e=>by
  obtain⟨es,k,h1⟩:=h.g.isMap;rw[e,h1] at hb;cases hb
 have hamn:∀ x∈xs,∀ b∈x.x.fp x.ib,b≠am:=fun x hx b hb e=>(List.nodup_cons.1 hnd).1 (List.mem_flatMap.2 ⟨x,hx,e▸hb⟩);have hlk:(Mx.look (xs.map fun x=>(x.n,pt x.ib)) y.n).isSome=xs.any fun z=>decide (z.n=y.n):=by
  cases h1:xs.any fun z=>decide (z.n=y.n)
  ·have h2:y.n∉xs.map (·.n):=fun h3=>by rw[any_name.2 h3] at h1;cases h1
   rw[(look_none _ _).2 (by rw[List.map_map];exact h2)];rfl
  ·obtain⟨z,hz,h3⟩:=List.mem_map.1 (any_name.1 h1);rw[<-h3];exact look_xi_some hz
 have hS:(fnd S y.n).isSome=xs.any fun z=>decide (z.n=y.n):=by
  rw[Bool.eq_iff_iff,h.names_S,any_name]
 refine⟨?_,?_,?_,?_,?_,?_⟩
 ·have e:(putX xs y).map (fun x=>(x.n,pt x.ib))=Mx.upd (xs.map fun x=>(x.n,pt x.ib)) y.n (pt y.ib):=by
   unfold putX Mx.upd;rw[hlk];split
   ·unfold repl;rw[List.map_map,List.map_map];refine List.map_congr_left fun z hz=>?_;simp only[Function.comp];split<;>rfl
   ·simp
  rw[e];exact hg
 ·unfold putX setI;rw[hS];split
  ·have e:(repl xs y).map (fun x=>(x.n,x.i))=(xs.map fun x=>(x.n,x.i)).map fun p=>if p.1=y.n then(y.n,y.i) else p:=by
    unfold repl;rw[List.map_map,List.map_map];refine List.map_congr_left fun z hz=>?_;simp only[Function.comp];split<;>rfl
   rw[e];exact h.p.map _
  ·rw[List.map_append];exact h.p.append_right _
 ·intro z hz;rcases putX_mem hz with rfl|⟨h1,h2⟩
  ·exact hII
  ·exact(h.i z h1).kept hk (hamn z h1) hNI
 ·intro z hz;rcases putX_mem hz with rfl|⟨h1,h2⟩
  ·exact hok
  ·exact h.ok z h1
 ·intro z hz;rcases putX_mem hz with rfl|⟨h1,h2⟩
  ·exact hnl
  ·exact h.nl z h1
 ·rw[setI_names];split
  ·exact h.nd
  ·rename_i hn;rw[List.nodup_append];refine⟨h.nd,by simp,fun a ha b hb e=>?_⟩;simp at hb;subst e;subst hb;have:fnd S y.n=none:=by cases hq:fnd S y.n with
    | none=>rfl
    | some _=>rw[hq] at hn;exact absurd rfl hn
   rw[fnd_none] at this;exact this ha
theorem filt_flat {f:XI->List Nat}(p:XI->Bool):∀ (xs:List XI),((xs.filter p).flatMap f).Sublist (xs.flatMap f)
 | [] => .slnil
 | a :: r=>by
  rw[List.filter_cons,List.flatMap_cons];split
  ·rw[List.flatMap_cons];exact(filt_flat p r).append_left _
  ·exact(filt_flat p r).trans (List.sublist_append_right _ _)
theorem AM.drop (h:AM w base am S xs)(hnd:(fpA am xs).Nodup)(n:Bs)(hg:GM ES prog 9 w' am (Mx.del (xs.map fun x=>(x.n,pt x.ib)) n))(hk:Kept w w' (·≠am)) :
  AM w' base am (delI S n) (xs.filter fun x => !decide (x.n=n)):=by
 have hNI:NI w (·≠am):=fun b c t f hb _ e=>by
  obtain⟨es,k,h1⟩:=h.g.isMap;rw[e,h1] at hb;cases hb
 have hamn:∀ x∈xs,∀ b∈x.x.fp x.ib,b≠am:=fun x hx b hb e=>(List.nodup_cons.1 hnd).1 (List.mem_flatMap.2 ⟨x,hx,e▸hb⟩);refine⟨?_,?_,?_,?_,?_,?_⟩
 ·have e:(xs.filter fun x => !decide (x.n=n)).map (fun x=>(x.n,pt x.ib))=Mx.del (xs.map fun x=>(x.n,pt x.ib)) n:=by
   unfold Mx.del;rw[List.filter_map];rfl
  rw[e];exact hg
 ·unfold delI;have h1:=h.p.filter (fun p => !decide (p.1=n));rw[List.filter_map] at h1;exact h1
 ·intro z hz;have h1:=(List.mem_filter.1 hz).1;exact(h.i z h1).kept hk (hamn z h1) hNI
 ·intro z hz;exact h.ok z (List.mem_filter.1 hz).1
 ·intro z hz;exact h.nl z (List.mem_filter.1 hz).1
 ·rw[delI_names];exact h.nd.filter _
theorem fpA_drop (p:XI->Bool):(fpA am (xs.filter p)).Sublist (fpA am xs):=(filt_flat p xs).cons_cons am
open Go.RowKit Go.Mx Go.Md Go.Sort
theorem info9:(prog.info? 9).map (fun i=>(i.zero,i.size,i.bytes))=some (some (.string ⟨#[]⟩),1,16):=by kernel_rfl
abbrev strR (l:List Bs):List (List Value):=l.map fun s=>[str s]
def aboveN (S:IL)(n:Bs):Nat:=(S.filter fun p=>decide (p.2.back=n)).length
theorem own_str {w:World}{base g n c:Nat}{l:List Bs}(h:OwnG w base 9 1 (.slice (some ⟨g,0,none⟩) n c) (strR l)):n=l.length/\∃ cur:Array Value,w.heap[g]? = some (.cells cur 9 (0,0))/\cur.toList.take l.length=l.map encStr:=by
 obtain⟨h1,h2,h3,h4,cur,h5,h6,h7⟩:=h.parts;rw[List.length_map] at h1 h7;have e:(strR l).flatten=l.map encStr:=by
  clear h h1 h3 h7
  induction l with
  | nil=>rfl
  | cons a r ih =>
   show[str a]++(strR r).flatten=encStr a :: r.map encStr;rw[ih];rfl
 rw[e,Nat.mul_one] at h7;exact⟨h1,cur,h5,h7⟩
theorem sort58_any (v:Value)(l:List Bs)(base:Nat)(w:World)(h:OwnG w base 9 1 v (strR l))(hl:l.length<=1000000):Calls prog 58 #[v] w fun e w'=>e = .returned (.tuple #[])/\w.grownBy w' v.ownBlock:=by
 rcases h.shape with⟨rfl,he⟩|⟨g,c,rfl,hg,hlt⟩
 ·refine Calls.mono (AnyM.slices_Sort_string_none sortS none 0 w) ?_;rintro e w' ⟨rfl,rfl⟩;exact⟨rfl,⟨rfl,rfl,rfl,nlr,fun _ _ _=>rfl⟩⟩
 ·obtain⟨hn,cur,hc,ht⟩:=own_str h;have:=AnyM.slices_Sort_string sortS g 0 c l w (holds_of_block hc ht) hlt (by omega);rw[<-hn] at this;refine Calls.mono this ?_;rintro e w' ⟨rfl,n,os,rfl⟩;exact⟨rfl,grownBy_sorted _⟩
variable {w w':World}{base mb am:Nat}{S:IL}{xs:List XI}
theorem above_any (hm:Mod0 w mb am)(hA:AM w base am S xs)(hl:xs.length<=1000)(n:Bs) :
  Calls prog 78 #[pt mb,str n] w fun e w'=>∃ oa c,e = .returned (.slice oa (aboveN S n) c)/\Below w.heap.size w w':=by
 have hmp:=hA.g;have hmc:=hm.cell;have HA:=hid hA;have HN:=hid (show aboveN S n=(xs.filter fun x=>decide (x.i.back=n)).length by
  unfold aboveN;have h1:=(hA.p.filter (fun p=>decide (p.2.back=n))).length_eq;rw[<-h1,List.filter_map,List.length_map];rfl)
 clear hA;go_enter func78,ntmps78
 go_wp2_with (first
  | (at_range;refine range_gm _ rfl _ rfl K9 underlying57 rfl hmp ?_;intro w0 hrg0 hg0 hs0)
  | go_in)
 go_frame
 go_loopw [5] (fun s5 wr=>∃ (left:Bs->Bool) (cnt:Nat) (ls:List Bs),RG ES prog 9 wr am w.heap.size (xs.map fun x=>(x.n,pt x.ib)) left cnt/\Hid (OwnG wr w.heap.size 9 1 s5 (strR ls)/\ls.length=((xs.filter fun x => !left x.n).filter fun x=>decide (x.i.back=n)).length/\Below w.heap.size w wr)) (fun _ wr=>wr.rangeLeft am w.heap.size)
 case atStart =>
  refine⟨_,_,[],hrg0,hid ⟨OwnG.nil _ _ _ _,?_,brf.grown hg0 nlr (by simp)⟩⟩;have e:xs.filter (fun x => !(Mx.look (xs.map fun x=>(x.n,pt x.ib)) x.n).isSome)=[]:=by
   rw[List.filter_eq_nil_iff];intro x hx;rw[look_xi_some hx];simp
  rw[e];rfl
 case round =>
  obtain⟨left,cnt,ls,hrg,hR⟩:=hrel;clear hrg0 hg0 hs0 hmp;obtain⟨wO,hwO⟩:∃ x,x=wr:=⟨_,rfl⟩
  subst hwO;obtain⟨oa,vn,vc,rfl⟩:=ownG_sh hR.out.1
  go_wp2_with (first
   | (at_next;refine next_gm _ rfl _ rfl K9 w.heap.size _ _ rfl hrg ?_ ?_)
   | go_in)
  ·intro hl0;have e:xs.filter (fun x => !left x.n)=xs:=List.filter_eq_self.2 fun x _=>by rw[hl0];rfl
   have h1:=hR.out.2.1;rw[e,<-HN.out] at h1;have hxl:ls.length<=1000:=by
    rw[h1,HN.out];exact Nat.le_trans (List.length_filter_le _ _) hl
   have hvn:vn=aboveN S n:=by
    rcases hR.out.1.shape with⟨he,h2⟩|⟨g,c,he,_⟩
    ·cases he;have:=congrArg List.length h2;simp at this;rw[<-h1];simp[this]
    ·cases he;rw[List.length_map];exact h1
   have HS:=hid (sort58_any _ ls w.heap.size wO hR.out.1 (by omega));have HV:=hid hvn;clear hrg hl0 h1 hxl hvn e
   go_wp2_with (go_at_call 58;refine HS.out.mono ?_;rintro e w5 ⟨rfl,hg5⟩)
   go_ret
   rw[<-HV.out];exact⟨_,_,rfl,hR.out.2.2.grown hg5 hR.out.2.2.size (fun k hk=>hR.out.1.ge k hk)⟩
  ·intro s b w3 cnt1 hlk hls hrg1 hlt hg1 hs1 hen;obtain⟨x,hx,rfl,rfl⟩:=look_xi hlk;have hb3:Below w.heap.size wO w3:=(Below.refl w.heap.size wO).grown hg1 hR.out.2.2.size (fun k hk=>by cases hk;exact nlr);have hbw3:Below w.heap.size w w3:=hR.out.2.2.trans hb3;have c2:=((HA.out.i x hx).below hbw3).cells.2.2.1;have ho3:OwnG w3 w.heap.size 9 1 (.slice oa vn vc) (strR ls):=hR.out.1.kept (N:=fun q=>q≠w.heap.size) (Kept.grown hg1 fun k hk=>by cases hk;simp) fun q hq e=>by
    obtain⟨c9,f9,h9⟩:=ownG_type hR.out.1 q hq;obtain⟨ia,ib',ic,hit⟩:=hrg.iter;rw[e,hit] at h9;cases h9
   have hp:=(filt_step (·.n) left xs HA.out.names x hx hls).filter fun x=>decide (x.i.back=n);have hpl:=hp.length_eq;rw[List.filter_append,List.length_append,<-hR.out.2.1] at hpl;have hen':(Instr.entry (.pointer (some ⟨w.heap.size,0,none⟩))).run prog w3 = .ok (.tuple #[str x.n,pt x.ib]) w3:=hen;cases hbn:(x.i.back==n)
   ·have hne:¬ x.i.back=n:=by simpa using hbn
    have hpl':ls.length=((xs.filter fun t => !(left t.n&&!decide (t.n=x.n))).filter fun x=>decide (x.i.back=n)).length:=by rw[hpl];simp[hne]
    have HP:=jd6 hrg1 hlt hbw3 ho3 hpl' hrg;clear hrg1 hlt hbw3 ho3 hpl hrg hp hb3 hg1 hs1 hlk hls hen hne hpl'
    go_wp2_with fail
    go_roundw
    case rel=>exact⟨_,cnt1,ls,HP.out.1,hid ⟨HP.out.2.2.2.1,HP.out.2.2.2.2.1,HP.out.2.2.1⟩⟩
    case measure=>rw[HP.out.1.left_eq,HP.out.2.2.2.2.2.left_eq];exact HP.out.2.1
   ·have he:x.i.back=n:=by simpa using hbn
    have hpl':(ls++[x.n]).length=((xs.filter fun t => !(left t.n&&!decide (t.n=x.n))).filter fun x=>decide (x.i.back=n)).length:=by rw[hpl];simp[he]
    have hll:ls.length<=1000:=by
     rw[hR.out.2.1];exact Nat.le_trans (List.length_filter_le _ _) (Nat.le_trans (List.length_filter_le _ _) hl)
    have hbA:Below w.heap.size w3 (w3.alloc (.cells #[str x.n] 9)):=brf.alloc hbw3.size _;have hoA:OwnG (w3.alloc (.cells #[str x.n] 9)) w.heap.size 9 1 (.slice oa vn vc) (strR ls):=ho3.below (brf.alloc nlr _) nlr;have hsz:w.heap.size<=(w3.alloc (.cells #[str x.n] 9)).heap.size:=Nat.le_trans hbw3.size hbA.size;have hrA:RG ES prog 9 (w3.alloc (.cells #[str x.n] 9)) am w.heap.size (xs.map fun x=>(x.n,pt x.ib)) (fun t=>left t&&!decide (t=x.n)) cnt1:=hrg1.blocks (((Below.refl w3.heap.size w3).alloc nlr _).block _ hrg1.gm.lt) (((Below.refl w3.heap.size w3).alloc nlr _).block _ hrg1.lt);have hnr:∀ q,(Value.slice oa vn vc).ownBlock=some q->q≠w.heap.size/\q≠am:=fun q hq=>by
     obtain⟨c9,f9,h9⟩:=ownG_type ho3 q hq;refine⟨fun e=>?_,fun e=>?_⟩
     ·obtain⟨ia,ib',ic,hit⟩:=hrg1.iter;rw[e,hit] at h9;cases h9
     ·obtain⟨es,k,h1⟩:=hrg1.gm.isMap;rw[e,h1] at h9;cases h9
    have hl1:((strR ls).length+1)*16<=140737488355328:=by rw[List.length_map];omega
    have hl2:(strR ls).length+1<=140737488355328:=by rw[List.length_map];omega
    have HP:=jd9 hrA hlt hbw3 hoA hpl' hrg hsz hnr (And.intro hl1 (And.intro hl2 hbA));clear hrg1 hlt hbw3 ho3 hpl hrg hp hb3 hg1 hs1 hlk hls hen hpl' hll hbA hoA hsz hrA hnr hl1 hl2
    go_wp2_with (at_builtin;refine append_g _ rfl _ _ 31 9 _ 1 16 rfl underlying31 info9 rfl (by decide) w.heap.size _ (strR ls) rfl HP.out.2.2.2.1 w3.heap.size 1 [str x.n] rfl rfl (fun j u hj=>row_cells w3 [str x.n] 9 j u hj) (by simp[Value.oneCell']) HP.out.2.2.2.2.2.2.2.2.1 HP.out.2.2.2.2.2.2.2.2.2.1 HP.out.2.2.2.2.2.2.1 ?_;intro v9 w9 ho9 hg9 hb9;obtain⟨ga,gn,gc,rfl⟩:=ownG_sh ho9;have hg9':(w3.alloc (.cells #[str x.n] 9)).grownBy w9 (Value.slice oa vn vc).ownBlock:=hg9)
    go_roundw
    case rel =>
     refine⟨_,cnt1,ls++[x.n],HP.out.1.blocks (hg9'.block _ HP.out.1.gm.lt fun e=>(HP.out.2.2.2.2.2.2.2.1 am e.symm).2 rfl) (hg9'.block _ HP.out.1.lt fun e=>(HP.out.2.2.2.2.2.2.2.1 _ e.symm).1 rfl),hid ⟨?_,HP.out.2.2.2.2.1,(HP.out.2.2.1.trans HP.out.2.2.2.2.2.2.2.2.2.2).trans hb9⟩⟩;have e1:strR (ls++[x.n])=strR ls++[[str x.n]]:=by simp
     rw[e1];exact ho9
    case measure =>
     have h9:=HP.out.1.blocks (hg9'.block _ HP.out.1.gm.lt fun e=>(HP.out.2.2.2.2.2.2.2.1 am e.symm).2 rfl) (hg9'.block _ HP.out.1.lt fun e=>(HP.out.2.2.2.2.2.2.2.1 _ e.symm).1 rfl);rw[h9.left_eq,HP.out.2.2.2.2.2.1.left_eq];exact HP.out.2.1
end Go.Proofs.YtgkabcaodnofnaaGreat
