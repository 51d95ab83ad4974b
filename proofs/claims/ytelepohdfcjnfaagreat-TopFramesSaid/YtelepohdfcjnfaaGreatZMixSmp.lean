/-
  mix.Sample: the node itself, some active ones, some passive ones.
-/
import Derived.Test.YtelepohdfcjnfaaGreatZVarV
import Derived.Test.YtelepohdfcjnfaaGreatZAppI
import Derived.Test.YtelepohdfcjnfaaGreatZRegionW
namespace Go.Proofs.YtelepohdfcjnfaaGreat
set_option maxHeartbeats 4000000
set_option maxRecDepth 100000
open Go.RowKit Go.Proofs
def mixS (v:Vw) (sa sp:Int) (ds:List Int):List Int×List Int:=
 ((v.self::((someS v.act.length ds v.act sa).1++(someS v.pas.length (someS v.act.length ds v.act sa).2 v.pas sp).1)).take 64,(someS v.pas.length (someS v.act.length ds v.act sa).2 v.pas sp).2)
def RowP (p:Value) (l ds':List Int) (w:World) (e:Ending) (w':World):Prop:=∃ a cap,e= .returned (.slice a l.length cap)∧SlA w' a l.length cap (ints l)∧(∀ q,a=some q→w.heap.size≤q.block)∧DrawV w' p ds'∧Fr (pblk p) w w'
theorem own_one (w:World) (B:Nat) (e:TypeId) (v:Value) (hB:B≤w.heap.size):(w.alloc (.cells #[v] e)).ownsRow B e 1 (.slice (some ⟨w.heap.size,0,none⟩) 1 1) 1 [v]:=
 ⟨rfl, .inr ⟨w.heap.size,1, #[v],rfl,hB,by rw [heap_alloc_if,if_pos rfl],Nat.le_refl _,by simp [maxLen],rfl,rfl⟩⟩
theorem someS_le {ds l:List Int} {n:Int} (hr:∀ x∈ds,0≤x∧x<4294967296):(someS l.length ds l n).1.length≤l.length:=by
 rw [someS_length _ _ _ _ (Nat.le_refl _) hr];omega
abbrev mixQ (p:Value) (B:Nat):Nat→Prop:=fun k=>pblk p k∨B≤k
theorem mixQ_no {p:Value} {B B' k:Nat} (h:∀ k,pblk p k→k<B') (h1:B'≤k) (h2:k<B):¬ mixQ p B k:=by
 rintro (hk | hk)
 ·have:=h k hk;omega
 ·omega
theorem mixSample_any (v:Vw) (x:VwP) (sa sp:Int) (p:Value) (ds:List Int) (W:World) (h:VwAt W v x) (hd:DrawV W p ds) (hsep:VwSep p v x) (hsa: -9223372036854775808≤sa∧sa≤9223372036854775807) (hsp: -9223372036854775808≤sp∧sp≤9223372036854775807):
  Calls Tryz.prog 72 #[v.val x, .agg #[.int .i64 sa, .int .i64 sp],p] W (RowP p (mixS v sa sp ds).1 (mixS v sa sp ds).2 W):=by
 obtain ⟨i0,hi,hz0,hz1,hz2⟩:=info_parts Tryz.infoint
 obtain ⟨w1,hw1⟩:∃ w1,w1=(W.alloc (.cells (v.arr x) 60)).alloc (.cells #[.int .i64 sa, .int .i64 sp] 111):=⟨_,rfl⟩
 have f1:Gr W w1:=by rw [hw1];exact ((Fr.refl _ _).alloc _).alloc _
 have V1:=Lib.hid (show w1.heap[W.heap.size]?=some (.cells (v.arr x) 60 (0,0)) by rw [hw1,heap_alloc_if,if_neg (by simp),heap_alloc_if,if_pos rfl])
 have R1:=Lib.hid (show w1.heap[W.heap.size+1]?=some (.cells #[.int .i64 sa, .int .i64 sp] 111 (0,0)) by rw [hw1,heap_alloc_if,if_pos (by simp)])
 have hs1:W.heap.size+2=w1.heap.size:=by rw [hw1];simp
 have F1:=Lib.hid f1
 have HW:=Lib.hid hw1
 have H1:=Lib.hid (h.gr f1)
 have D1:=Lib.hid (hd.keep f1)
 have HP:=Lib.hid hd.lt
 have HR:=Lib.hid hd.range
 clear hw1 f1 h hd
 obtain ⟨A,hA⟩:∃ A,A=(someS v.act.length ds v.act sa).1:=⟨_,rfl⟩
 obtain ⟨d2,hd2⟩:∃ d2,d2=(someS v.act.length ds v.act sa).2:=⟨_,rfl⟩
 have hAl:A.length≤64:=by rw [hA];exact Nat.le_trans (someS_le HR.out) H1.out.good.act.len
 have hR2:∀ x∈d2,0≤x∧x<4294967296:=by
  obtain ⟨k,_,hk⟩:=someS_left v.act.length ds v.act sa HR.out
  rw [hd2,hk]
  exact fun x hx=>HR.out x (List.mem_of_mem_drop hx)
 have hPl:(someS v.pas.length d2 v.pas sp).1.length≤64:=Nat.le_trans (someS_le hR2) H1.out.good.pas.len
 have CS1:=Lib.hid (fun (a:Option Addr) (cap:Nat) (w:World) (hD:DrawV w p ds) (hs:SlA w a v.act.length cap (v.act.map (Value.int .i64)))=>someV_int p ds a cap v.act sa w hD hs (by have:=H1.out.good.act.len;omega) hsa)
 have CS2:=Lib.hid (fun (a:Option Addr) (cap:Nat) (w:World) (hD:DrawV w p d2) (hs:SlA w a v.pas.length cap (v.pas.map (Value.int .i64)))=>someV_int p d2 a cap v.pas sp w hD hs (by have:=H1.out.good.pas.len;omega) hsp)
 rw [←hA, ←hd2] at CS1
 have HM:Hid (mixS v sa sp ds=((v.self::(A++(someS v.pas.length d2 v.pas sp).1)).take 64,(someS v.pas.length d2 v.pas sp).2)):=Lib.hid (by unfold mixS;rw [←hA, ←hd2])
 generalize (someS v.pas.length d2 v.pas sp).1=B at CS2 HM hPl
 generalize (someS v.pas.length d2 v.pas sp).2=d3 at CS2 HM
 rw [HM.out]
 obtain ⟨T,hT⟩:∃ T,T=(v.self::(A++B)).take 64:=⟨_,rfl⟩
 rw [←hT]
 have HT:=Lib.hid hT
 clear hT
 clear hA hd2 HM hR2 hsa hsp
 have CA:=Lib.hid (fun w (f:Fr (mixQ p w1.heap.size) w1 w)=>setAll_any x.aa x.ac v.act v.am w (H1.out.act.keepNE f (fun hl q hq hs=>hs.elim (hsep.1 hl q hq) (fun h=>by have:=H1.out.act.ltNE hl q hq;omega))) H1.out.good.act)
 have CP:=Lib.hid (fun w (f:Fr (mixQ p w1.heap.size) w1 w)=>setAll_any x.pa x.pc v.pas v.pm w (H1.out.pas.keepNE f (fun hl q hq hs=>hs.elim (hsep.2 hl q hq) (fun h=>by have:=H1.out.pas.ltNE hl q hq;omega))) H1.out.good.pas)
 have l1:=H1.out.act.le
 have l2:=H1.out.act.max
 have l3:=H1.out.pas.le
 have l4:=H1.out.pas.max
 clear hsep
 go_enter Tryz.func72,Tryz.ntmps72
 go_upto_region 1 with fail
 rw [←HW.out]
 clear HW
 have x0:=(Bx.of_block V1.out) 0 _ rfl
 go_wp2_with fail
 obtain ⟨w2,hw2⟩:∃ w2,w2=w1.alloc (.cells #[.int .i64 v.self] 3):=⟨_,rfl⟩
 obtain ⟨ov,hov⟩:∃ ov,ov=Value.slice (some ⟨w1.heap.size,0,none⟩) 1 1:=⟨_,rfl⟩
 have f2:Gr w1 w2:=by rw [hw2];exact (Fr.refl _ _).alloc _
 have F2:=Lib.hid (show Fr (mixQ p w1.heap.size) w1 w2 from f2.mono (fun _ _ h=>h.elim))
 have O2:=Lib.hid (show w2.ownsRow w1.heap.size 3 1 ov [v.self].length (ints [v.self]) by rw [hw2,hov];exact own_one w1 _ _ _ (Nat.le_refl _))
 have D2:=Lib.hid (D1.out.keep f2)
 rw [←hw2, ←hov]
 clear hw2 hov f2 x0 D1
 haveI:Nonempty (WC (Fr (mixQ p w1.heap.size) w1)):=⟨⟨_,F2.out⟩⟩
 have z1:∀ z':WC (Fr (mixQ p w1.heap.size) w1),z'.val.cell? ⟨W.heap.size,1,none⟩=some (.slice x.aa v.act.length x.ac):=fun z'=>z'.ok.cell ((Bx.of_block V1.out) 1 _ rfl) (mixQ_no HP.out (by simp only;omega) (by simp only;omega))
 have z2:∀ z':WC (Fr (mixQ p w1.heap.size) w1),z'.val.cell? ⟨W.heap.size,2,none⟩=some (.int .i64 v.am):=fun z'=>z'.ok.cell ((Bx.of_block V1.out) 2 _ rfl) (mixQ_no HP.out (by simp only;omega) (by simp only;omega))
 have z3:∀ z':WC (Fr (mixQ p w1.heap.size) w1),z'.val.cell? ⟨W.heap.size+1,0,none⟩=some (.int .i64 sa):=fun z'=>z'.ok.cell ((Bx.of_block R1.out) 0 _ rfl) (mixQ_no HP.out (by simp only;omega) (by simp only;omega))
 go_upto_region 2 with fail
 refine wp_region_lastO 9 [4,7,8] [] [0,1,2,3,4,5,6,7,8] (fun w'=>∃ z':WC (Fr (mixQ p w1.heap.size) w1),w'=z'.val) (by kernel_rfl) (by kernel_rfl) (fun c a w d v h=>by cases d<;>exact h) (fun c a w d v h=>by cases d<;>exact h) ⟨⟨w2.drew,F2.out.drew⟩,rfl⟩ ?_
 simp only [List.take]
 refine wpT_q (by simp only [gtA,gtZ]<;>rfl) (by rfl) (by rfl) ?_
 go_big_quiet_step (fail)
 refine wpQuiet_nil ?_
 repeat (refine wpT_q (by simp only [gtA,gtS,gtZ]<;>rfl) (by rfl) (by rfl) ?_;go_big_quiet_step (fail);refine wpQuiet_nil ?_)
 refine wpT_e (by simp only [gtA,gtS,gtZ]<;>rfl) (by rfl) ?_
 go_wp2_with fail
 refine (CA.out _ (F2.out.drew)).mono ?_
 rintro e w20 ⟨vv,rfl,ho,hb⟩
 obtain ⟨a4,c4,rfl,h4, -⟩:=SlA.of_own ho
 have g4:Gr w2 w20:=Gr.trans ((Fr.refl _ _).drew) (Gr.of_below hb)
 have F4:=Lib.hid (show Fr (mixQ p w1.heap.size) w1 w20 from Fr.trans F2.out g4 (fun _ h=>h.elim))
 have H4:=Lib.hid h4
 have O4:=Lib.hid (own_fr O2.out g4 (fun _ _ h=>h))
 have D4:=Lib.hid (D2.out.keep g4)
 clear ho hb h4 g4 O2 D2
 go_wp2_with fail
 refine ⟨⟨⟨w20,F4.out⟩,rfl⟩,?_⟩
 repeat (refine wpT_q (by simp only [gtA,gtS,gtZ]<;>rfl) (by rfl) (by rfl) ?_;go_big_quiet_step (fail);refine wpQuiet_nil ?_)
 refine wpT_e (by simp only [gtA,gtS,gtZ]<;>rfl) (by rfl) ?_
 go_wp2_with fail
 refine (CS1.out a4 c4 _ D4.out H4.out).mono ?_
 rintro e w21 ⟨v7,rfl,ho,hd,f5⟩
 obtain ⟨a7,c7,rfl,h7, -⟩:=SlA.of_own ho
 have F5:=Lib.hid (show Fr (mixQ p w1.heap.size) w1 w21 from Fr.trans F4.out f5 (fun _ h=> .inl (.inl h)))
 have H7:=Lib.hid h7
 have D5:=Lib.hid hd
 have O5:=Lib.hid (own_fr O4.out f5 (fun q hq hk=>by have:=(O4.out.lt q hq).1;have:=HP.out q hk;omega))
 have hs5:=F5.out.size
 clear ho hd h7 f5 H4 O4 D4
 go_wp2_with fail
 refine ⟨⟨⟨w21,F5.out⟩,rfl⟩,?_⟩
 refine wpT_e (by simp only [gtA,gtS,gtZ]<;>rfl) (by rfl) ?_
 refine wpList_appI (by rfl) _ _ (by rfl) O5.out H7.out (by rfl) (by rfl) (by omega) (by simp<;>omega) ?_
 intro vo2 w3 ho hgr
 have g6:Fr (fun k=>w1.heap.size≤k) w21 w3:=((Fr.refl (fun k=>w1.heap.size≤k) w21)).grown hgr (fun q hq=> .inl (O5.out.lt q hq).1)
 have F3:=Lib.hid (show Fr (mixQ p w1.heap.size) w1 w3 from Fr.trans F5.out g6 (fun _ h=> .inl (.inr h)))
 have O3:=Lib.hid ho
 have D3:=Lib.hid (D5.out.keepGE (B:=w1.heap.size) g6 (fun _ h=>h) (fun k hk=>by have:=HP.out k hk;omega))
 clear ho hgr g6 O5 H7 D5 hs5 F5 F4
 go_wp2_with fail
 refine ⟨⟨⟨w3,F3.out⟩,rfl⟩,?_⟩
 clear z1 z2 z3 this
 refine wpT_nil ?_
 simp only [lastQ,List.drop]
 haveI:Nonempty (WC (Fr (mixQ p w1.heap.size) w1)):=⟨⟨_,F3.out⟩⟩
 have z1:∀ z':WC (Fr (mixQ p w1.heap.size) w1),z'.val.cell? ⟨W.heap.size,3,none⟩=some (.slice x.pa v.pas.length x.pc):=fun z'=>z'.ok.cell ((Bx.of_block V1.out) 3 _ rfl) (mixQ_no HP.out (by simp only;omega) (by simp only;omega))
 have z2:∀ z':WC (Fr (mixQ p w1.heap.size) w1),z'.val.cell? ⟨W.heap.size,4,none⟩=some (.int .i64 v.pm):=fun z'=>z'.ok.cell ((Bx.of_block V1.out) 4 _ rfl) (mixQ_no HP.out (by simp only;omega) (by simp only;omega))
 have z3:∀ z':WC (Fr (mixQ p w1.heap.size) w1),z'.val.cell? ⟨W.heap.size+1,1,none⟩=some (.int .i64 sp):=fun z'=>z'.ok.cell ((Bx.of_block R1.out) 1 _ rfl) (mixQ_no HP.out (by simp only;omega) (by simp only;omega))
 go_upto_region 3 with fail
 refine wp_region_lastO 9 [4,7,8] [] [0,1,2,3,4,5,6,7,8] (fun w'=>∃ z':WC (Fr (mixQ p w1.heap.size) w1),w'=z'.val) (by kernel_rfl) (by kernel_rfl) (fun c a w d v h=>by cases d<;>exact h) (fun c a w d v h=>by cases d<;>exact h) ⟨⟨w3.drew,F3.out.drew⟩,rfl⟩ ?_
 simp only [List.take]
 refine wpT_q (by simp only [gtA,gtZ]<;>rfl) (by rfl) (by rfl) ?_
 go_big_quiet_step (fail)
 refine wpQuiet_nil ?_
 repeat (refine wpT_q (by simp only [gtA,gtS,gtZ]<;>rfl) (by rfl) (by rfl) ?_;go_big_quiet_step (fail);refine wpQuiet_nil ?_)
 refine wpT_e (by simp only [gtA,gtS,gtZ]<;>rfl) (by rfl) ?_
 go_wp2_with fail
 refine (CP.out _ (F3.out.drew)).mono ?_
 rintro e w20 ⟨vv,rfl,ho,hb⟩
 obtain ⟨a4,c4,rfl,h4, -⟩:=SlA.of_own ho
 have g4:Gr w3 w20:=Gr.trans ((Fr.refl _ _).drew) (Gr.of_below hb)
 have F4:=Lib.hid (show Fr (mixQ p w1.heap.size) w1 w20 from Fr.trans F3.out g4 (fun _ h=>h.elim))
 have H4:=Lib.hid h4
 have O4:=Lib.hid (own_fr O3.out g4 (fun _ _ h=>h))
 have D4:=Lib.hid (D3.out.keep g4)
 clear ho hb h4 g4 O3 D3
 go_wp2_with fail
 refine ⟨⟨⟨w20,F4.out⟩,rfl⟩,?_⟩
 repeat (refine wpT_q (by simp only [gtA,gtS,gtZ]<;>rfl) (by rfl) (by rfl) ?_;go_big_quiet_step (fail);refine wpQuiet_nil ?_)
 refine wpT_e (by simp only [gtA,gtS,gtZ]<;>rfl) (by rfl) ?_
 go_wp2_with fail
 refine (CS2.out a4 c4 _ D4.out H4.out).mono ?_
 rintro e w21 ⟨v7,rfl,ho,hd,f5⟩
 obtain ⟨a7,c7,rfl,h7, -⟩:=SlA.of_own ho
 have F5:=Lib.hid (show Fr (mixQ p w1.heap.size) w1 w21 from Fr.trans F4.out f5 (fun _ h=> .inl (.inl h)))
 have H7:=Lib.hid h7
 have D5:=Lib.hid hd
 have O5:=Lib.hid (own_fr O4.out f5 (fun q hq hk=>by have:=(O4.out.lt q hq).1;have:=HP.out q hk;omega))
 have hs5:=F5.out.size
 clear ho hd h7 f5 H4 O4 D4
 go_wp2_with fail
 refine ⟨⟨⟨w21,F5.out⟩,rfl⟩,?_⟩
 refine wpT_e (by simp only [gtA,gtS,gtZ]<;>rfl) (by rfl) ?_
 refine wpList_appI (by rfl) _ _ (by rfl) O5.out H7.out (by rfl) (by rfl) (by omega) (by simp<;>omega) ?_
 intro vo3 w6 ho hgr
 have g6:Fr (fun k=>w1.heap.size≤k) w21 w6:=((Fr.refl (fun k=>w1.heap.size≤k) w21)).grown hgr (fun q hq=> .inl (O5.out.lt q hq).1)
 have F6:=Lib.hid (show Fr (mixQ p w1.heap.size) w1 w6 from Fr.trans F5.out g6 (fun _ h=> .inl (.inr h)))
 have O6:=Lib.hid ho
 have D6:=Lib.hid (D5.out.keepGE (B:=w1.heap.size) g6 (fun _ h=>h) (fun k hk=>by have:=HP.out k hk;omega))
 clear ho hgr g6 O5 H7 D5 hs5 F5 F4
 go_wp2_with fail
 refine ⟨⟨⟨w6,F6.out⟩,rfl⟩,?_⟩
 clear z1 z2 z3 this
 refine wpT_nil ?_
 simp only [lastQ,List.drop]
 go_upto_region 4 with fail
 obtain ⟨a9,c9,rfl,h9,h9p, -⟩:=SlA.of_own O6.out
 obtain ⟨R,hR⟩:∃ R,R=[v.self]++A++B:=⟨_,rfl⟩
 have hRl:R.length≤129:=by rw [hR];simp;omega
 have hTR:T=R.take 64:=by rw [HT.out,hR];simp
 rw [←hR] at h9 ⊢
 obtain ⟨l',hl1,hl2,hl3,hl4,hl5⟩:=cut_list (Value.int .i64) w6 a9 c9 R 64 64 rfl h9
 obtain rfl:T=l':=hTR.trans hl2.symm
 have H9:=Lib.hid hl3
 have HP9:=Lib.hid h9p
 have e5:=h9.le
 have e6:=h9.max
 clear h9 h9p hR hTR hl2 hl3 O6 CS1 CS2 CA CP
 go_wp2_with fail
 go_ret
 exact ⟨a9,c9,rfl,H9.out,fun q hq=>by have:=(HP9.out q hq).1;omega,D6.out,Fr.trans (Fr.mono (T:=pblk p) F1.out (fun _ _ h=>h.elim)) F6.out (fun k hk=>hk.elim .inl (fun h=> .inr (by omega)))⟩
end Go.Proofs.YtelepohdfcjnfaaGreat
