import Derived.Test.YtgkabcaodnofnaaGreatB43
set_option linter.unusedSimpArgs false
set_option linter.unusedVariables false
set_option maxRecDepth 100000
set_option maxHeartbeats 2000000
open Go.Proofs.Tryz
namespace Go.Proofs.YtgkabcaodnofnaaGreat
open Go.RowKit Go.Mx Go.Md
variable {w0 w w':World}{base mb:Nat}{M:MM}{X:MX}
theorem led_any {W:World}{v:Value}{gs:List (Cm×Value)}(hs:SlC w0 v gs)(hb:Below w0.heap.size w0 W)(hf:FitAll gs)(hw:∀ g∈gs,(Lit.int .i64 g.1.kind).wf=true)(hbase:base<=w0.heap.size) :
  Calls prog 18 #[v] W fun e w'=>∃ mb X,e = .returned (pt mb)/\Stt w0 w' base mb (ledF M0 (gs.map (·.1))) X:=by
 have hla:=fun w'=>hs.o.len (P:=prog) (t:=22) (ty:=3) underlying22 w';obtain⟨n,hn⟩:∃ n,n=gs.length:=⟨_,rfl⟩
 rw[List.length_map,<-hn] at hla;have hn80:n<=80:=by rw[hn];exact hf.1
 have HN:=hid (stt_new w0 W base hb hbase);have hq:∀ mb (w':World),(binOp .eql 28 (pt mb) (.pointer none)).run prog w' = .ok (.bool false) w':=fun mb w'=>by simp[go_sem]
 have H:=jd4 hs hf hw hn;clear hs hb hf hw hbase hn;go_enter func18,ntmps18
 go_upto_region 5 with(go_at_call 13;refine HN.out.mono ?_;rintro e w1 ⟨mb,X1,rfl,hS1⟩)
 have HS1:=hid hS1;clear hS1
 go_loopw [4] (fun s4 wr=>∃ i:Nat,s4 = .int .i64 i/\i<=n/\Hid (∃ X,Stt w0 wr base mb (ledF M0 ((gs.take i).map (·.1))) X)) (fun s4 _=>n-(intOf s4).toNat)
 case atStart=>exact⟨0,rfl,Nat.zero_le _,hid ⟨X1,HS1.out⟩⟩
 case round =>
  obtain⟨i,rfl,hi,hR⟩:=hrel;obtain⟨wO,hwO⟩:∃ q,q=wr:=⟨_,rfl⟩
  subst hwO;obtain⟨X2,hS⟩:=hR.out;by_cases hlt:i<n
  ·have hig:i<gs.length:=by rw[<-H.out.2.2.2];exact hlt
   obtain⟨g,hg⟩:∃ g,g=gs[i]:=⟨_,rfl⟩
   have hgm:g∈gs:=by rw[hg];exact List.getElem_mem _
   have hgi:gs[i]? = some g:=by rw[List.getElem?_eq_getElem hig,hg]
   obtain⟨bb,bo,hia,hrow⟩:=slG_addrs H.out.1.o (t:=22) underlying22 size25 i (by rw[List.length_map];exact hig);rw[show(gs.map crow).getD i []=crow g by rw[List.getD_eq_getElem?_getD,List.getElem?_map,hgi];rfl] at hrow;obtain⟨da,dn,dc,hdv⟩:=slB_shape (H.out.1.d g hgm);have hds:=H.out.1.d g hgm;rw[hdv] at hds;have r0:wO.cell? ⟨bb,bo,none⟩=some (.int .i64 g.1.kind):=by have:=hrow wO hS.b 0 _ rfl;simpa using this
   have r1:wO.cell? ⟨bb,bo+1,none⟩=some (str g.1.name):=hrow wO hS.b 1 _ rfl;have r2:wO.cell? ⟨bb,bo+2,none⟩=some (str g.1.tt):=hrow wO hS.b 2 _ rfl;have r3:wO.cell? ⟨bb,bo+3,none⟩=some (.int .i64 g.1.a):=hrow wO hS.b 3 _ rfl;have r4:wO.cell? ⟨bb,bo+4,none⟩=some (.int .i64 g.1.n):=hrow wO hS.b 4 _ rfl;have r5:wO.cell? ⟨bb,bo+5,none⟩=some (.int .i64 g.1.m):=hrow wO hS.b 5 _ rfl;have r6:wO.cell? ⟨bb,bo+6,none⟩=some (.slice da dn dc):=hrow wO hS.b 6 _ (by simp[hdv]);have HD:=hid (hS.step g.1 (.slice da dn dc) hds (H.out.2.1.2 g hgm) (H.out.2.2.1 g hgm));have HG:=hid hgi;clear hig hg hgm hgi hrow hdv hds hS
   go_wp2_with (go_at_call 14;refine HD.out.mono ?_;rintro e w5 ⟨r5v,lv5,X5,rfl,_,_,hS5,_⟩;have HS5:=hid hS5;clear hS5)
   go_roundw
   case measure=>simp only[intOf];omega
   case rel=>exact⟨i+1,by go_num,by omega,hid ⟨X5,by rw[ledF_take HG.out];exact HS5.out⟩⟩
  ·obtain rfl:i=n:=by omega
   have HS:=hid hS;clear hS
   go_wp2_with fail
   go_ret
   exact⟨mb,X2,rfl,by have h9:=HS.out;rw[List.take_of_length_le (by rw[<-H.out.2.2.2];exact Nat.le_refl _)] at h9;exact h9⟩
end Go.Proofs.YtgkabcaodnofnaaGreat
