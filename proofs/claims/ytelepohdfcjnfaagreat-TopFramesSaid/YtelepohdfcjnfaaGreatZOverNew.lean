/-
  Package overlay: ask, View, join, fill, Tick (printed by gen_ov.py).
-/
import Derived.Test.YtelepohdfcjnfaaGreatZStaB
import Derived.Test.YtelepohdfcjnfaaGreatZHandTake
import Derived.Test.YtelepohdfcjnfaaGreatZRegionW
import Derived.Deep.CutRange
import Derived.Test.YtelepohdfcjnfaaGreatZViewFn
import Derived.Test.YtelepohdfcjnfaaGreatZSetSpec
namespace Go.Proofs.YtelepohdfcjnfaaGreat
set_option maxHeartbeats 4000000
set_option maxRecDepth 100000
section
open Go.RowKit Go.Proofs
structure OvP where
 sa:Option Addr
 sc:Nat
 x:HdP
abbrev Ov.arr (o:Ov) (x:OvP):Array Value:= #[.int .i64 o.c.active, .int .i64 o.c.passive, .int .i64 o.c.far, .int .i64 o.c.near, .int .i64 o.c.mixA, .int .i64 o.c.mixP, .int .i64 o.c.every, .slice x.sa o.c.seeds.length x.sc, .int .i64 o.h.v.self, .slice x.x.x.aa o.h.v.act.length x.x.x.ac, .int .i64 o.h.v.am, .slice x.x.x.pa o.h.v.pas.length x.x.x.pc, .int .i64 o.h.v.pm, .slice x.x.ka o.h.asked.length x.x.kc, .int .i64 64, .int .i64 o.ticks, .int .i64 o.seed]
abbrev orows (o:Ov) (x:OvP) (R:List Rw):List Rw:=⟨x.sa,o.c.seeds.length,x.sc,ints o.c.seeds⟩::hrows o.h x.x R
def OEnd (W:World) (O:Ori) (p:Value) (ds':List Int) (B:List Blk) (L:List Ow) (R:List Rw) (bo:Nat) (o':Ov) (out:List Ho) (e:Ending) (w':World):Prop:=
 ∃ x' ov,e= .returned ov∧Sta W O p ds' (⟨bo,o'.arr x',103⟩::B) (⟨81,8,ov,out.length,houts out⟩::L) (orows o' x' R) w'
def OEndM (W:World) (O:Ori) (p:Value) (ds':List Int) (B:List Blk) (L:List Ow) (R:List Rw) (bo:Nat) (o':Ov) (out:List Ms) (e:Ending) (w':World):Prop:=
 ∃ x' ov l,l.map Om.m=out∧e= .returned ov∧Sta W O p ds' (⟨bo,o'.arr x',103⟩::B) (⟨81,8,ov,l.length,oms l⟩::L) (l.map Om.row++orows o' x' R) w'
theorem ovAsk_any (o:Ov) (x:OvP) (n:Int) (high:Bool) (p:Value) (ds:List Int) (Wb:World) (O:Ori) (B:List Blk) (L:List Ow) (R:List Rw) (bo:Nat) (w:World) (st:Sta Wb O p ds (⟨bo,o.arr x,103⟩::B) L (orows o x R) w) (g:o.h.Good):
  Calls Tryz.prog 70 #[.pointer (some ⟨bo,0,none⟩), .int .i64 n, .bool high] w (OEnd Wb O p ds B L R bo (oAsk o n high).1 (oAsk o n high).2):=by
 obtain ⟨ih,hh1,hh2,hh3⟩:=info_pair Tryz.zeroHand
 unfold oAsk
 simp only
 have CA:=Lib.hid (fun O w (h1:Sta w O p ds [] [] (hrows o.h x.x []) w)=>handAsk_any o.h x.x n high p ds O w h1 g)
 obtain ⟨h',out,hh⟩:∃ a b,hAsk o.h n high=(a,b):=⟨_,_,rfl⟩
 rw [hh] at CA ⊢
 simp only at CA ⊢
 clear hh
 have ST1:=Lib.hid st
 clear st
 go_enter Tryz.func70,Tryz.ntmps70
 go_upto_region 1 with fail
 go_wp2_with (refine wpList_load_mid (by rfl) 100 _ (by rfl) bo 8 (by rfl) (Array.toList (#[.int .i64 o.h.v.self, .slice x.x.x.aa o.h.v.act.length x.x.x.ac, .int .i64 o.h.v.am, .slice x.x.x.pa o.h.v.pas.length x.x.x.pc, .int .i64 o.h.v.pm, .slice x.x.ka o.h.asked.length x.x.kc, .int .i64 64])) _ (rangeIn (cs:=o.arr x) (ST1.out.blkAt 0 rfl) 8 (by rfl)) Tryz.underlying100 rfl Tryz.infoHand ?_)
 refine (CA.out _ _ (ST1.out.enter (hrows o.h x.x []) (inC (at_ 1 rfl) (inC (at_ 2 rfl) (inC (at_ 3 rfl) inN))))).mono ?_
 intro e w2 hst
 obtain ⟨x',ov,rfl,hst2, -⟩:=hst
 have ST2:=Lib.hid (show Sta Wb O p ds (⟨bo,o.arr x,103⟩::B) (⟨81,8,ov,out.length,houts out⟩::L) (hrows h' x' (orows o x R)) w2 from ST1.out.leave (inC (at_ 1 rfl) (inC (at_ 2 rfl) (inC (at_ 3 rfl) inN))) hst2)
 clear hst2 ST1
 clear CA
 go_wp2_with (refine wpList_fresh (vs:=h'.arr x') hh1 hh2 Tryz.infoHand (by rfl) (by rw [←Array.all_toList];rfl) (by rfl) (by rfl) ?_)
 intro w3 f_ b_ l_
 obtain ⟨z,hb_⟩:∃ b,b=w2.heap.size:=⟨_,rfl⟩
 rw [←hb_] at b_ l_ ⊢
 have ST3:=Lib.hid (show Sta Wb O p ds (⟨z,h'.arr x',100⟩::⟨bo,o.arr x,103⟩::B) (⟨81,8,ov,out.length,houts out⟩::L) (hrows h' x' (orows o x R)) w3 from ST2.out.var f_ b_ (Nat.le_of_eq hb_.symm))
 clear ST2 f_ b_ l_ hb_
 go_upto_region 2 with fail
 go_wp2_with (first | refine wpList_load_mid (by rfl) 100 _ (by rfl) z 0 (by rfl) (Array.toList (h'.arr x')) _ (blk_range (ST3.out.blkAt 0 rfl)) Tryz.underlying100 rfl Tryz.infoHand ?_ | refine wpList_storeB (o:=8) (vs:=h'.arr x') (ST3.out.blkAt 1 rfl) (by rfl) 100 _ _ (by rfl) (by rfl) (by rfl) (Nat.le_of_ble_eq_true rfl) Tryz.infoHand (by rw [←Array.all_toList];rfl) ?_)
 intro w4 f_ b_
 have ST4:=Lib.hid (show Sta Wb O p ds (⟨z,h'.arr x',100⟩::⟨bo, #[.int .i64 o.c.active, .int .i64 o.c.passive, .int .i64 o.c.far, .int .i64 o.c.near, .int .i64 o.c.mixA, .int .i64 o.c.mixP, .int .i64 o.c.every, .slice x.sa o.c.seeds.length x.sc, .int .i64 h'.v.self, .slice x'.x.aa h'.v.act.length x'.x.ac, .int .i64 h'.v.am, .slice x'.x.pa h'.v.pas.length x'.x.pc, .int .i64 h'.v.pm, .slice x'.ka h'.asked.length x'.kc, .int .i64 64, .int .i64 o.ticks, .int .i64 o.seed],103⟩::B) (⟨81,8,ov,out.length,houts out⟩::L) (hrows h' x' (orows o x R)) w4 from ST3.out.store 1 rfl f_ b_)
 clear ST3 f_ b_
 go_wp2_with fail
 go_ret
 exact ⟨⟨x.sa,x.sc,x'⟩,ov,rfl,(ST4.out.lessB (List.Sublist.cons _ (List.Sublist.refl _))).less (List.Sublist.refl _) (inC (at_ 3 rfl) (inC (at_ 0 rfl) (inC (at_ 1 rfl) (inC (at_ 2 rfl) (fun _ h=>List.mem_cons_of_mem _ (List.mem_cons_of_mem _ (List.mem_cons_of_mem _ (List.mem_cons_of_mem _ (List.mem_cons_of_mem _ (List.mem_cons_of_mem _ (List.mem_cons_of_mem _ (h))))))))))))⟩
theorem ovView_any (o:Ov) (x:OvP) (p:Value) (ds:List Int) (Wb:World) (O:Ori) (B:List Blk) (L:List Ow) (R:List Rw) (bo:Nat) (w:World) (st:Sta Wb O p ds (⟨bo,o.arr x,103⟩::B) L (orows o x R) w):
  Calls Tryz.prog 14 #[.pointer (some ⟨bo,0,none⟩)] w fun e w'=>e= .returned (.agg (o.h.v.arr x.x.x))∧Gr w w':=by
 obtain ⟨w1,hw1⟩:∃ w1,w1=w.alloc (.cells viewZ 60):=⟨_,rfl⟩
 obtain ⟨b1,hb1⟩:∃ b,b=w.heap.size:=⟨_,rfl⟩
 have ST1:=Lib.hid (show Sta Wb O p ds (⟨b1,viewZ,60⟩::⟨bo,o.arr x,103⟩::B) L (orows o x R) w1 by rw [hw1];exact st.box _ _ hb1)
 have F1:=Lib.hid (show Gr w w1 by rw [hw1];exact (Fr.refl _ _).alloc _)
 have HS:=Lib.hid (show w.heap.size≤b1 by rw [hb1];exact Nat.le_refl _)
 have HW1:=Lib.hid hw1
 have HB1:=Lib.hid hb1
 clear hw1 hb1 st
 go_enter Tryz.func14,Tryz.ntmps14
 go_upto_region 1 with fail
 rw [←HW1.out, ←HB1.out]
 clear HW1 HB1
 go_upto_region 3 with fail
 go_wp2_with (first | refine wpList_load_mid (by rfl) 60 _ (by rfl) bo 8 (by rfl) (Array.toList (o.h.v.arr x.x.x)) _ (rangeIn (cs:=o.arr x) (ST1.out.blkAt 1 rfl) 8 (by rfl)) Tryz.underlying60 rfl Tryz.infoView ?_ | refine wpList_storeW (vs:=o.h.v.arr x.x.x) (ST1.out.blkAt 0 rfl) (by rfl) 60 _ _ (by rfl) (by rfl) (by rfl) rfl Tryz.infoView (by rw [←Array.all_toList];rfl) ?_)
 intro w2 f_ b_
 have F2:=Lib.hid (fr_new F1.out f_ HS.out)
 have ST2:=Lib.hid (show Sta Wb O p ds (⟨b1,o.h.v.arr x.x.x,60⟩::⟨bo,o.arr x,103⟩::B) L (orows o x R) w2 from ST1.out.store 0 rfl f_ b_)
 clear f_ b_ ST1 F1
 have LL:Hid ((loadVar 60 ⟨b1,0,none⟩).run Tryz.prog w2= .ok (.agg (o.h.v.arr x.x.x)) w2):=Lib.hid (run_loadVar_mid w2 b1 0 60 (Array.toList (o.h.v.arr x.x.x)) _ (blk_range (ST2.out.blkAt 0 rfl)) Tryz.underlying60 rfl Tryz.infoView)
 have LA:Hid ((asAddr (.pointer (some ⟨b1,0,none⟩))).run Tryz.prog w2= .ok ⟨b1,0,none⟩ w2):=Lib.hid (by simp [go_sem])
 go_wp2_with fail
 refine bodyPost_ret (v:= .agg (o.h.v.arr x.x.x)) (by simp [results,Tryz.results14,Sem.run_bind,Result.andThen_ok,LL.out,LA.out]) rfl ?_
 exact ⟨rfl,F2.out⟩
theorem ovJoin_any (o:Ov) (x:OvP) (p:Value) (ds:List Int) (Wb:World) (O:Ori) (B:List Blk) (L:List Ow) (R:List Rw) (bo:Nat) (w:World) (st:Sta Wb O p ds (⟨bo,o.arr x,103⟩::B) L (orows o x R) w) (g:o.Ok):
  Calls Tryz.prog 71 #[.pointer (some ⟨bo,0,none⟩)] w (OEnd Wb O p ds B L R bo (oJoin o).1 (oJoin o).2):=by
 obtain ⟨o',out,hh⟩:∃ a b,oJoin o=(a,b):=⟨_,_,rfl⟩
 rw [hh]
 have HH:=Lib.hid hh
 have HG:=Lib.hid g
 clear hh g
 have ST1:=Lib.hid st
 clear st
 go_enter Tryz.func71,Tryz.ntmps71
 have l10:=(ST1.out.rowAt 0 rfl).le
 have l11:=(ST1.out.rowAt 0 rfl).max
 have y7:w.cell? ⟨bo,7,none⟩=some (.slice x.sa o.c.seeds.length x.sc):=ST1.out.cell 0 7 rfl rfl
 by_cases hz:o.c.seeds=[]
 ·obtain ⟨rfl,rfl⟩:o=o'∧[]=out:=by
   have hh:=HH.out
   unfold oJoin at hh
   rw [if_pos hz] at hh
   injection hh with a b
   exact ⟨a,b⟩
  have hz0:o.c.seeds.length=0:=by rw [hz];rfl
  have hz2:((o.c.seeds.length:Int)==0)=true:=by rw [hz0];rfl
  clear hz
  go_wp2_with fail
  go_ret
  exact ⟨x,_,rfl,ST1.out.ownNil _ _⟩
 ·have hlp:0<o.c.seeds.length:=List.length_pos_iff.2 hz
  have hz2:((o.c.seeds.length:Int)==0)=false:=by simp;omega
  obtain ⟨hs0,hs1⟩:=HG.out.seed
  obtain ⟨bs,os_,e9,hcl⟩:=(ST1.out.rowAt 0 rfl).int ((o.seed.tmod o.c.seeds.length).toNat) (by have:=tmod_pos hs0 (show (0:Int)<o.c.seeds.length by omega);omega)
  obtain ⟨hi0,hi1⟩:=tmod_pos (x:=o.seed) hs0 (show (0:Int)<o.c.seeds.length by omega)
  obtain ⟨j,hj⟩:∃ j:Int,j=o.seed.tmod o.c.seeds.length:=⟨_,rfl⟩
  obtain ⟨jn,hjn⟩:∃ jn:Nat,jn=j.toNat:=⟨_,rfl⟩
  rw [←hj] at hi0 hi1
  simp only [←hj] at hcl
  have hjj:o.seed.tmod (o.c.seeds.length:Int)=(jn:Int):=by rw [←hj];omega
  have hjl:jn<o.c.seeds.length:=by omega
  obtain ⟨n0,hn0⟩:∃ n,n=o.c.seeds[j.toNat]'(by omega):=⟨_,rfl⟩
  rw [←hn0, ←hjn] at hcl
  obtain ⟨m,hm⟩:∃ m,(o.seed+1).tmod (o.c.seeds.length:Int)=m:=⟨_,rfl⟩
  have HJ:=Lib.hid (show oJoin o=((oAsk { o with seed:=m } n0 false).1,(oAsk { o with seed:=m } n0 false).2.map Ho.joins) by
   unfold oJoin oSeed
   rw [if_neg hz,hm, ←hj,hn0,List.getD_eq_getElem?_getD,List.getElem?_eq_getElem (by omega)]
   rfl)
  have HM:=Lib.hid (hm▸HG.out.next hz:Ov.Ok { o with seed:=m })
  have HE:=Lib.hid e9
  clear hj hjn hi0 hi1 hn0
  have hlz:¬ (o.c.seeds.length:Int)=0:=by omega
  have HCL0:=Lib.hid hcl
  go_upto_region 3 with fail
  have HCL:=Lib.hid (show w.drew.cell? ⟨bs,os_+jn,none⟩=some (.int .i64 n0) from HCL0.out)
  clear hcl HCL0 y7 e9
  obtain ⟨w2,hwd⟩:∃ x,x=w.drew:=⟨_,rfl⟩
  have HWD:=Lib.hid hwd
  rw [←hwd] at HCL
  have ST2:=Lib.hid (show Sta Wb O p ds (⟨bo,o.arr x,103⟩::B) L (orows o x R) w2 from hwd▸ST1.out.gr ((Fr.refl _ _).drew))
  clear ST1 hwd
  haveI:Nonempty (WC (fun w=>w.cell? ⟨bo,7,none⟩=some (.slice (some ⟨bs,os_,none⟩) o.c.seeds.length x.sc)∧w.cell? ⟨bo,16,none⟩=some (.int .i64 o.seed)∧w.cell? ⟨bs,os_+jn,none⟩=some (.int .i64 n0))):=⟨⟨w2,⟨(by have h:=ST2.out.cell 0 7 rfl rfl;rw [←HE.out];exact h),ST2.out.cell 0 16 rfl rfl,HCL.out⟩⟩⟩
  have z7:∀ z:WC (fun w=>w.cell? ⟨bo,7,none⟩=some (.slice (some ⟨bs,os_,none⟩) o.c.seeds.length x.sc)∧w.cell? ⟨bo,16,none⟩=some (.int .i64 o.seed)∧w.cell? ⟨bs,os_+jn,none⟩=some (.int .i64 n0)),z.val.cell? ⟨bo,7,none⟩=some (.slice (some ⟨bs,os_,none⟩) o.c.seeds.length x.sc):=fun z=>z.ok.1
  have z16:∀ z:WC (fun w=>w.cell? ⟨bo,7,none⟩=some (.slice (some ⟨bs,os_,none⟩) o.c.seeds.length x.sc)∧w.cell? ⟨bo,16,none⟩=some (.int .i64 o.seed)∧w.cell? ⟨bs,os_+jn,none⟩=some (.int .i64 n0)),z.val.cell? ⟨bo,16,none⟩=some (.int .i64 o.seed):=fun z=>z.ok.2.1
  have ze:∀ z:WC (fun w=>w.cell? ⟨bo,7,none⟩=some (.slice (some ⟨bs,os_,none⟩) o.c.seeds.length x.sc)∧w.cell? ⟨bo,16,none⟩=some (.int .i64 o.seed)∧w.cell? ⟨bs,os_+jn,none⟩=some (.int .i64 n0)),z.val.cell? ⟨bs,os_+jn,none⟩=some (.int .i64 n0):=fun z=>z.ok.2.2
  refine wp_region_plan [18] (Plan.seq [0,1,2,3,4,5,6,7,8,9,10,11,12,13,14,15,16,17,18] .done) (fun w'=>∃ z:WC (fun w=>w.cell? ⟨bo,7,none⟩=some (.slice (some ⟨bs,os_,none⟩) o.c.seeds.length x.sc)∧w.cell? ⟨bo,16,none⟩=some (.int .i64 o.seed)∧w.cell? ⟨bs,os_+jn,none⟩=some (.int .i64 n0)),w'=z.val) (by kernel_rfl) (by kernel_rfl) (fun c a w d v h=>by cases d<;>exact h) (fun c a w d v h=>by cases d<;>exact h) (by rw [←HWD.out];exact ⟨⟨w2,⟨(by have h:=ST2.out.cell 0 7 rfl rfl;rw [←HE.out];exact h),ST2.out.cell 0 16 rfl rfl,HCL.out⟩⟩,rfl⟩) ?_
  rw [←HWD.out]
  clear HWD
  refine wpV_q (by simp only [gtA,gtZ]<;>rfl) (by rfl) (by rfl) ?_
  go_big_quiet_step (fail)
  refine wpQuiet_nil ?_
  refine wpV_q (by simp only [gtA,gtS,gtZ]<;>rfl) (by rfl) (by rfl) ?_
  go_big_quiet_step (fail)
  refine wpQuiet_nil ?_
  refine wpV_q (by simp only [gtA,gtS,gtZ]<;>rfl) (by rfl) (by rfl) ?_
  go_big_quiet_step (fail)
  refine wpQuiet_nil ?_
  refine wpV_q (by simp only [gtA,gtS,gtZ]<;>rfl) (by rfl) (by rfl) ?_
  go_big_quiet_step (fail)
  refine wpQuiet_nil ?_
  refine wpV_q (by simp only [gtA,gtS,gtZ]<;>rfl) (by rfl) (by rfl) ?_
  go_big_quiet_step (fail)
  refine wpQuiet_nil ?_
  refine wpV_q (by simp only [gtA,gtS,gtZ]<;>rfl) (by rfl) (by rfl) ?_
  go_big_quiet_step (fail)
  refine wpQuiet_nil ?_
  refine wpV_q (by simp only [gtA,gtS,gtZ]<;>rfl) (by rfl) (by rfl) ?_
  go_big_quiet_step (fail)
  refine wpQuiet_nil ?_
  refine wpV_q (by simp only [gtA,gtS,gtZ]<;>rfl) (by rfl) (by rfl) ?_
  go_big_quiet_step (fail)
  refine wpQuiet_nil ?_
  refine wpV_q (by simp only [gtA,gtS,gtZ]<;>rfl) (by rfl) (by rfl) ?_
  go_big_quiet_step (fail)
  refine wpQuiet_nil ?_
  refine wpV_q (by simp only [gtA,gtS,gtZ]<;>rfl) (by rfl) (by rfl) ?_
  go_big_quiet_step (fail)
  refine wpQuiet_nil ?_
  refine wpV_q (by simp only [gtA,gtS,gtZ]<;>rfl) (by rfl) (by rfl) ?_
  go_big_quiet_step (fail)
  refine wpQuiet_nil ?_
  refine wpV_q (by simp only [gtA,gtS,gtZ]<;>rfl) (by rfl) (by rfl) ?_
  go_big_quiet_step (fail)
  refine wpQuiet_nil ?_
  refine wpV_q (by simp only [gtA,gtS,gtZ]<;>rfl) (by rfl) (by rfl) ?_
  go_big_quiet_step (fail)
  refine wpQuiet_nil ?_
  refine wpV_q (by simp only [gtA,gtS,gtZ]<;>rfl) (by rfl) (by rfl) ?_
  go_big_quiet_step (fail)
  refine wpQuiet_nil ?_
  refine wpV_q (by simp only [gtA,gtS,gtZ]<;>rfl) (by rfl) (by rfl) ?_
  go_big_quiet_step (fail)
  refine wpQuiet_nil ?_
  refine wpV_q (by simp only [gtA,gtS,gtZ]<;>rfl) (by rfl) (by rfl) ?_
  go_big_quiet_step (fail)
  refine wpQuiet_nil ?_
  refine wpV_q (by simp only [gtA,gtS,gtZ]<;>rfl) (by rfl) (by rfl) ?_
  go_big_quiet_step (fail)
  refine wpQuiet_nil ?_
  refine wpV_q (by simp only [gtA,gtS,gtZ]<;>rfl) (by rfl) (by rfl) ?_
  go_big_quiet_step (fail)
  refine wpQuiet_nil ?_
  refine wpV_e (by simp only [gtA,gtS,gtZ]<;>rfl) (by rfl) ?_
  go_wp2_with fail
  refine ⟨⟨⟨w2,⟨(by have h:=ST2.out.cell 0 7 rfl rfl;rw [←HE.out];exact h),ST2.out.cell 0 16 rfl rfl,HCL.out⟩⟩,rfl⟩,?_⟩
  refine wpV_done ?_
  clear z7 z16 ze this HCL
  go_upto_region 4 with fail
  obtain ⟨w3,hwd⟩:∃ x,x=w2.drew:=⟨_,rfl⟩
  have HWD:=Lib.hid hwd
  have ST3:=Lib.hid (show Sta Wb O p ds (⟨bo,o.arr x,103⟩::B) L (orows o x R) w3 from hwd▸ST2.out.gr ((Fr.refl _ _).drew))
  clear ST2 hwd
  haveI:Nonempty (WC (fun w=>w.heap[bo]?=some (.cells (o.arr x) 103 (0,0)))):=⟨⟨w3,ST3.out.blkAt 0 rfl⟩⟩
  have z7:∀ z:WC (fun w=>w.heap[bo]?=some (.cells (o.arr x) 103 (0,0))),z.val.cell? ⟨bo,7,none⟩=some (.slice x.sa o.c.seeds.length x.sc):=fun z=>by rw [Lib.cell_of_heap z.ok];rfl
  have z16:∀ z:WC (fun w=>w.heap[bo]?=some (.cells (o.arr x) 103 (0,0))),z.val.cell? ⟨bo,16,none⟩=some (.int .i64 o.seed):=fun z=>by rw [Lib.cell_of_heap z.ok];rfl
  refine wp_region_lastO 15 [] [] [0,1,2,3,4,5,6,7,8,9,10,11,12,13,14] (fun w'=>∃ z:WC (fun w=>w.heap[bo]?=some (.cells (o.arr x) 103 (0,0))),w'=z.val) (by kernel_rfl) (by kernel_rfl) (fun c a w d v h=>by cases d<;>exact h) (fun c a w d v h=>by cases d<;>exact h) (by rw [←HWD.out];exact ⟨⟨w3,ST3.out.blkAt 0 rfl⟩,rfl⟩) ?_
  rw [←HWD.out]
  clear HWD
  simp only [List.take]
  refine wpT_q (by simp only [gtA,gtZ]<;>rfl) (by rfl) (by rfl) ?_
  go_big_quiet_step (fail)
  refine wpQuiet_nil ?_
  refine wpT_q (by simp only [gtA,gtS,gtZ]<;>rfl) (by rfl) (by rfl) ?_
  go_big_quiet_step (fail)
  refine wpQuiet_nil ?_
  refine wpT_q (by simp only [gtA,gtS,gtZ]<;>rfl) (by rfl) (by rfl) ?_
  go_big_quiet_step (fail)
  refine wpQuiet_nil ?_
  refine wpT_q (by simp only [gtA,gtS,gtZ]<;>rfl) (by rfl) (by rfl) ?_
  go_big_quiet_step (fail)
  refine wpQuiet_nil ?_
  refine wpT_q (by simp only [gtA,gtS,gtZ]<;>rfl) (by rfl) (by rfl) ?_
  go_big_quiet_step (fail)
  refine wpQuiet_nil ?_
  refine wpT_q (by simp only [gtA,gtS,gtZ]<;>rfl) (by rfl) (by rfl) ?_
  go_big_quiet_step (fail)
  refine wpQuiet_nil ?_
  refine wpT_q (by simp only [gtA,gtS,gtZ]<;>rfl) (by rfl) (by rfl) ?_
  go_big_quiet_step (fail)
  refine wpQuiet_nil ?_
  refine wpT_q (by simp only [gtA,gtS,gtZ]<;>rfl) (by rfl) (by rfl) ?_
  go_big_quiet_step (fail)
  refine wpQuiet_nil ?_
  refine wpT_q (by simp only [gtA,gtS,gtZ]<;>rfl) (by rfl) (by rfl) ?_
  go_big_quiet_step (fail)
  refine wpQuiet_nil ?_
  refine wpT_q (by simp only [gtA,gtS,gtZ]<;>rfl) (by rfl) (by rfl) ?_
  go_big_quiet_step (fail)
  refine wpQuiet_nil ?_
  refine wpT_q (by simp only [gtA,gtS,gtZ]<;>rfl) (by rfl) (by rfl) ?_
  go_big_quiet_step (fail)
  refine wpQuiet_nil ?_
  refine wpT_q (by simp only [gtA,gtS,gtZ]<;>rfl) (by rfl) (by rfl) ?_
  go_big_quiet_step (fail)
  refine wpQuiet_nil ?_
  refine wpT_q (by simp only [gtA,gtS,gtZ]<;>rfl) (by rfl) (by rfl) ?_
  go_big_quiet_step (fail)
  refine wpQuiet_nil ?_
  refine wpT_q (by simp only [gtA,gtS,gtZ]<;>rfl) (by rfl) (by rfl) ?_
  go_big_quiet_step (fail)
  refine wpQuiet_nil ?_
  refine wpT_q (by simp only [gtA,gtS,gtZ]<;>rfl) (by rfl) (by rfl) ?_
  go_big_quiet_step (fail)
  refine wpQuiet_nil ?_
  clear this z7 z16
  refine wpT_nil ?_
  simp only [lastQ,List.drop]
  have zf:w3.frozen? ⟨bo,16,none⟩=false:=ST3.out.froz 0 16 rfl
  have zc:w3.cell? ⟨bo,16,none⟩=some (.int .i64 o.seed):=ST3.out.cell 0 16 rfl rfl
  go_upto_region 5 with fail
  obtain ⟨w4,hw_⟩:∃ x,x=w3.setCell ⟨bo,16,none⟩ (.int .i64 m):=⟨_,rfl⟩
  rw [←hw_]
  have ST4:=Lib.hid (show Sta Wb O p ds (⟨bo, #[.int .i64 o.c.active, .int .i64 o.c.passive, .int .i64 o.c.far, .int .i64 o.c.near, .int .i64 o.c.mixA, .int .i64 o.c.mixP, .int .i64 o.c.every, .slice x.sa o.c.seeds.length x.sc, .int .i64 o.h.v.self, .slice x.x.x.aa o.h.v.act.length x.x.x.ac, .int .i64 o.h.v.am, .slice x.x.x.pa o.h.v.pas.length x.x.x.pc, .int .i64 o.h.v.pm, .slice x.x.ka o.h.asked.length x.x.kc, .int .i64 64, .int .i64 o.ticks, .int .i64 m],103⟩::B) L (orows o x R) w4 from hw_▸ST3.out.setC 0 rfl 16 (.int .i64 m) (Nat.le_of_ble_eq_true rfl))
  clear ST3 hw_
  clear zf zc hjj hm hlz
  have CA:=Lib.hid (fun w (h1:Sta Wb O p ds (⟨bo,Ov.arr { o with seed:=m } x,103⟩::B) L (orows { o with seed:=m } x R) w)=>ovAsk_any { o with seed:=m } x n0 false p ds Wb O B L R bo w h1 HM.out.h)
  obtain ⟨o2,out2,h2⟩:∃ a b,oAsk { o with seed:=m } n0 false=(a,b):=⟨_,_,rfl⟩
  have hone:=hAsk_one o.h n0 false
  have ho2:(oAsk { o with seed:=m } n0 false).2.length≤1:=hone
  rw [h2] at CA ho2
  simp only at CA ho2
  obtain ⟨rfl,rfl⟩:o2=o'∧out2.map Ho.joins=out:=by
   have hh:=HH.out
   rw [HJ.out,h2] at hh
   injection hh with a b
   exact ⟨a,b⟩
  have HO2:=Lib.hid ho2
  clear HH HJ h2 hone ho2 HM hz hlp hz2
  go_wp2_with fail
  refine (CA.out _ ST4.out).mono ?_
  rintro e w5 ⟨x',ov,rfl,hst⟩
  have ST20:=Lib.hid hst
  clear hst CA ST4
  obtain ⟨a5,c5,e5, -⟩:=SlA.of_own (ST20.out.ownAt 0 rfl)
  subst e5
  have m5:=ST20.out.ownAt 0 rfl
  obtain ⟨a6,c6,e6,h6, -⟩:=SlA.of_own m5
  injection e6 with e6 e7 e8
  subst e6 e8
  have m6:=h6.le
  have m7:=h6.max
  clear m5 h6
  go_upto_region 6 with fail
  go_wp2_with fail
  go_loopw [51] (fun kv wr=>∃ k:Nat,kv= .int .i64 k∧k≤out2.length∧Sta Wb O p ds (⟨bo,o2.arr x',103⟩::B) (⟨81,8, .slice a5 out2.length c5,out2.length,houts (if k=0 then out2 else out2.map Ho.joins)⟩::L) (orows o2 x' R) wr) (fun kv _=>out2.length-(intOf kv).toNat)
  case atStart=>exact ⟨0,rfl,Nat.zero_le _,ST20.out⟩
  case round=>
   clear ST20
   obtain ⟨k,rfl,hk,hst⟩:=hrel
   have ST21:=Lib.hid hst
   clear hst
   by_cases hkl:k<out2.length
   ·obtain rfl:k=0:=by have:=HO2.out;omega
    obtain ⟨a,rfl⟩:∃ a,out2=[a]:=by
     have:=HO2.out
     match out2,hkl,this with
     | [a],_,_=>exact ⟨a,rfl⟩
    obtain ⟨g,c,eg⟩:=ST21.out.ownForm 0 rfl (by simp)
    injection eg with eg eh ei
    subst eg
    obtain ⟨q1,q2⟩:=ST21.out.ownCell 0 rfl 1 rfl
    clear eh ei
    go_upto_region 10 with fail
    obtain ⟨w6,hw6⟩:∃ x,x=wr.setCell ⟨g,1,none⟩ (.int .i64 1):=⟨_,rfl⟩
    have ST22:=Lib.hid (show Sta Wb O p ds (⟨bo,o2.arr x',103⟩::B) (⟨81,8, .slice (some ⟨g,0,none⟩) 1 c5,1,houts ([a].map Ho.joins)⟩::L) (orows o2 x' R) w6 from hw6▸ST21.out.ownPut 0 rfl 1 (by simp) (.int .i64 1))
    rw [←hw6]
    clear hw6 q1 q2 ST21
    go_wp2_with fail
    go_roundw
    case rel=>exact ⟨1,by go_num,by simp,ST22.out⟩
    case measure=>simp [intOf]
   ·have hke:k=out2.length:=by omega
    have HX:Hid (houts (if k=0 then out2 else out2.map Ho.joins)=houts (out2.map Ho.joins)):=Lib.hid (by
     by_cases h0:k=0
     ·have:out2=[]:=List.eq_nil_of_length_eq_zero (by omega)
      rw [this]
      simp
     ·rw [if_neg h0])
    rw [HX.out] at ST21
    have ST23:=Lib.hid (show Sta Wb O p ds (⟨bo,o2.arr x',103⟩::B) (⟨81,8, .slice a5 out2.length c5,(out2.map Ho.joins).length,houts (out2.map Ho.joins)⟩::L) (orows o2 x' R) wr by rw [List.length_map];exact ST21.out)
    subst hke
    clear ST21 HX hk hkl
    go_wp2_with fail
    go_ret
    exact ⟨x',_,rfl,ST23.out⟩
theorem ovFill_any (o:Ov) (x:OvP) (p:Value) (ds:List Int) (Wb:World) (O:Ori) (B:List Blk) (L:List Ow) (R:List Rw) (bo:Nat) (w:World) (st:Sta Wb O p ds (⟨bo,o.arr x,103⟩::B) L (orows o x R) w) (g:o.Ok):
  Calls Tryz.prog 35 #[.pointer (some ⟨bo,0,none⟩),p] w (OEnd Wb O p (oFill o ds).2.2 B L R bo (oFill o ds).1 (oFill o ds).2.1):=by
 obtain ⟨iz,hz1,hz2,hz3⟩:=info_pair Tryz.zeroView
 obtain ⟨o',out,dn,hh⟩:∃ a b c,oFill o ds=(a,b,c):=⟨_,_,_,rfl⟩
 rw [hh]
 simp only
 have HH:=Lib.hid hh
 have HG:=Lib.hid g
 have CF:=Lib.hid (fun w=>setFull_any x.x.x.aa o.h.v.act.length x.x.x.ac o.h.v.am w)
 rw [show decide (o.h.v.am≤(o.h.v.act.length:Int))=vaFull o.h.v from rfl] at CF
 have CK:=Lib.hid (fun w=>setLen_any x.x.ka o.h.asked.length x.x.kc 64 w)
 have CA:=Lib.hid (fun w=>setLen_any x.x.x.aa o.h.v.act.length x.x.x.ac o.h.v.am w)
 have CP:=Lib.hid (fun w (h1:SlA w x.x.x.pa o.h.v.pas.length x.x.x.pc (ints o.h.v.pas))=>setAll_any x.x.x.pa x.x.x.pc o.h.v.pas o.h.v.pm w h1 HG.out.h.v.pas)
 have CO:=Lib.hid (fun a c w (hD:DrawV w p ds) (hs:SlA w a o.h.v.pas.length c (ints o.h.v.pas)) (hne:∀ q,a=some q→¬ pblk p q.block)=>oneInt_any p ds a c o.h.v.pas w hD hs hne)
 unfold OneEnd at CO
 obtain ⟨n1,k1,d1,h1⟩:∃ a b c,oneV ds o.h.v.pas=(a,b,c):=⟨_,_,_,rfl⟩
 have HO:=Lib.hid h1
 rw [h1] at CO
 simp only at CO
 have CX:=Lib.hid (fun ds L w (h1:Sta Wb O p ds (⟨bo,o.arr x,103⟩::B) L (orows o x R) w)=>ovAsk_any o x n1 (o.h.v.act.length==0) p ds Wb O B L R bo w h1 HG.out.h)
 have CJ:=Lib.hid (fun ds L w (h1:Sta Wb O p ds (⟨bo,o.arr x,103⟩::B) L (orows o x R) w)=>ovJoin_any o x p ds Wb O B L R bo w h1 HG.out)
 clear hh g h1
 have ST1:=Lib.hid st
 clear st
 go_enter Tryz.func35,Tryz.ntmps35
 have l12:=(ST1.out.rowAt 1 rfl).le
 have l13:=(ST1.out.rowAt 1 rfl).max
 have l14:=(ST1.out.rowAt 2 rfl).le
 have l15:=(ST1.out.rowAt 2 rfl).max
 have l16:=(ST1.out.rowAt 3 rfl).le
 have l17:=(ST1.out.rowAt 3 rfl).max
 go_upto_region 1 with fail
 go_wp2_with (refine wpList_load_mid (by rfl) 60 _ (by rfl) bo 8 (by rfl) (Array.toList (o.h.v.arr x.x.x)) _ (rangeIn (cs:=o.arr x) (ST1.out.blkAt 0 rfl) 8 (by rfl)) Tryz.underlying60 rfl Tryz.infoView ?_;refine wpList_fresh (vs:=o.h.v.arr x.x.x) hz1 hz2 Tryz.infoView (by rfl) (by rw [←Array.all_toList];rfl) (by rfl) (by rfl) ?_)
 intro w2 f_ b_ l_
 obtain ⟨z,hb_⟩:∃ b,b=w.heap.size:=⟨_,rfl⟩
 rw [←hb_] at b_ l_ ⊢
 have ST2:=Lib.hid (show Sta Wb O p ds (⟨z,o.h.v.arr x.x.x,60⟩::⟨bo,o.arr x,103⟩::B) L (orows o x R) w2 from ST1.out.var f_ b_ (Nat.le_of_eq hb_.symm))
 clear ST1 f_ b_ l_ hb_
 have a1:w2.cell? ⟨z,1,none⟩=some (.slice x.x.x.aa o.h.v.act.length x.x.x.ac):=ST2.out.cell 0 1 rfl rfl
 have a2:w2.cell? ⟨z,2,none⟩=some (.int .i64 o.h.v.am):=ST2.out.cell 0 2 rfl rfl
 go_upto_region 2 with fail
 go_wp2_with fail
 refine (CF.out _).mono ?_
 rintro e w3 ⟨rfl,f_⟩
 clear a1 a2 CF
 have ST3:=Lib.hid (show Sta Wb O p ds (⟨z,o.h.v.arr x.x.x,60⟩::⟨bo,o.arr x,103⟩::B) L (orows o x R) w3 from ST2.out.gr f_)
 clear ST2 f_
 generalize hF:vaFull o.h.v=F
 have HFE:=Lib.hid hF
 clear hF
 cases F
 case true=>
  obtain ⟨rfl,rfl,rfl⟩:o=o'∧[]=out∧ds=dn:=by
   have hh:=HH.out
   rw [show oFill o ds=(o,[],ds) by unfold oFill;simp [HFE.out]] at hh
   injection hh with a b
   injection b with b c
   exact ⟨a,b,c⟩
  clear HH HFE CK CA CP CO HO CX CJ
  go_wp2_with fail
  go_ret
  exact ⟨x,_,rfl,(((ST3.out.lessB (List.Sublist.cons _ (List.Sublist.refl _))).less (List.Sublist.refl _) (inC (at_ 0 rfl) (inC (at_ 1 rfl) (inC (at_ 2 rfl) (inC (at_ 3 rfl) (fun _ h=>List.mem_cons_of_mem _ (List.mem_cons_of_mem _ (List.mem_cons_of_mem _ (List.mem_cons_of_mem _ (h)))))))))).ownNil _ _)⟩
 case false=>
  have k1c:w3.cell? ⟨bo,13,none⟩=some (.slice x.x.ka o.h.asked.length x.x.kc):=ST3.out.cell 1 13 rfl rfl
  have k2c:w3.cell? ⟨bo,14,none⟩=some (.int .i64 64):=ST3.out.cell 1 14 rfl rfl
  go_wp2_with fail
  refine (CK.out _).mono ?_
  rintro e w4 ⟨rfl,f_⟩
  clear k1c k2c CK
  have ST4:=Lib.hid (show Sta Wb O p ds (⟨z,o.h.v.arr x.x.x,60⟩::⟨bo,o.arr x,103⟩::B) L (orows o x R) w4 from ST3.out.gr f_)
  clear ST3 f_
  by_cases hk:0<o.h.asked.length
  ·have hk2:decide ((0:Int)<(o.h.asked.length:Int))=true:=decide_eq_true (by omega)
   obtain ⟨rfl,rfl,rfl⟩:o=o'∧[]=out∧ds=dn:=by
    have hh:=HH.out
    rw [show oFill o ds=(o,[],ds) by unfold oFill;simp [HFE.out,hk]] at hh
    injection hh with a b
    injection b with b c
    exact ⟨a,b,c⟩
   clear HH HFE CA CP CO HO CX CJ
   go_wp2_with fail
   go_ret
   exact ⟨x,_,rfl,(((ST4.out.lessB (List.Sublist.cons _ (List.Sublist.refl _))).less (List.Sublist.refl _) (inC (at_ 0 rfl) (inC (at_ 1 rfl) (inC (at_ 2 rfl) (inC (at_ 3 rfl) (fun _ h=>List.mem_cons_of_mem _ (List.mem_cons_of_mem _ (List.mem_cons_of_mem _ (List.mem_cons_of_mem _ (h)))))))))).ownNil _ _)⟩
  ·have hk2:decide ((0:Int)<(o.h.asked.length:Int))=false:=decide_eq_false (by omega)
   have p1:w4.cell? ⟨z,3,none⟩=some (.slice x.x.x.pa o.h.v.pas.length x.x.x.pc):=ST4.out.cell 0 3 rfl rfl
   have p2:w4.cell? ⟨z,4,none⟩=some (.int .i64 o.h.v.pm):=ST4.out.cell 0 4 rfl rfl
   go_upto_region 4 with fail
   clear hk2
   go_wp2_with fail
   refine (CP.out _ (ST4.out.rowAt 2 rfl)).mono ?_
   rintro e w5 ⟨vv,rfl,ho,hb⟩
   obtain ⟨ra,rc,rfl,hsr,hlo, -⟩:=SlA.of_own ho
   have f_:=Gr.of_below hb
   have HLO:=Lib.hid (fun q (hq:ra=some q) (hk:pblk p q.block)=>show False by have h1:=(hlo q hq).1;have h2:=ST4.out.lt hk;omega)
   clear ho hb hlo p1 p2 CP
   have ST5:=Lib.hid (show Sta Wb O p ds (⟨z,o.h.v.arr x.x.x,60⟩::⟨bo,o.arr x,103⟩::B) L (orows o x R) w5 from ST4.out.gr f_)
   clear ST4 f_
   have COx:=CO.out ra rc w5 ST5.out.dr hsr HLO.out
   have m1:=hsr.le
   have m2:=hsr.max
   clear hsr HLO CO
   go_wp2_with fail
   refine COx.mono ?_
   rintro e w6 ⟨rfl,d_,f_⟩
   clear COx
   have ST6:=Lib.hid (show Sta Wb O p d1 (⟨z,o.h.v.arr x.x.x,60⟩::⟨bo,o.arr x,103⟩::B) L (orows o x R) w6 from ST5.out.call f_ d_)
   clear ST5 d_ f_
   cases k1
   case true=>
    have a1:w6.cell? ⟨z,1,none⟩=some (.slice x.x.x.aa o.h.v.act.length x.x.x.ac):=ST6.out.cell 0 1 rfl rfl
    have a2:w6.cell? ⟨z,2,none⟩=some (.int .i64 o.h.v.am):=ST6.out.cell 0 2 rfl rfl
    go_upto_region 6 with fail
    go_wp2_with fail
    refine (CA.out _).mono ?_
    rintro e w7 ⟨rfl,f_⟩
    clear a1 a2 CA
    have ST7:=Lib.hid (show Sta Wb O p d1 (⟨z,o.h.v.arr x.x.x,60⟩::⟨bo,o.arr x,103⟩::B) L (orows o x R) w7 from ST6.out.gr f_)
    clear ST6 f_
    have STx:=Lib.hid (show Sta Wb O p d1 (⟨bo,o.arr x,103⟩::B) L (orows o x R) w7 from (ST7.out.lessB (List.Sublist.cons _ (List.Sublist.refl _))).less (List.Sublist.refl _) (inC (at_ 0 rfl) (inC (at_ 1 rfl) (inC (at_ 2 rfl) (inC (at_ 3 rfl) (fun _ h=>List.mem_cons_of_mem _ (List.mem_cons_of_mem _ (List.mem_cons_of_mem _ (List.mem_cons_of_mem _ (h))))))))))
    clear ST7
    obtain ⟨bz,hbz⟩:∃ b,b=(o.h.v.act.length==0):=⟨_,rfl⟩
    rw [←hbz] at CX
    obtain ⟨o2,out2,h2⟩:∃ a b,oAsk o n1 bz=(a,b):=⟨_,_,rfl⟩
    rw [h2] at CX
    simp only at CX
    obtain ⟨rfl,rfl,rfl⟩:o2=o'∧out2=out∧d1=dn:=by
     have hh:=HH.out
     rw [show oFill o ds=(o2,out2,d1) by unfold oFill;simp only [HFE.out,HO.out, ←hbz,h2,Bool.false_eq_true,if_false,if_neg hk,if_true]] at hh
     injection hh with a b
     injection b with b c
     exact ⟨a,b,c⟩
    clear HH HFE hk HO CJ
    clear h2
    have hbi:((o.h.v.act.length:Int)==0)=bz:=by
     rw [hbz,Bool.eq_iff_iff]
     simp
    have HBZ:=Lib.hid hbz
    clear hbz
    by_cases h0:o.h.v.act.length=0
    ·obtain rfl:bz=true:=by rw [HBZ.out];simpa using h0
     have hbi2:(o.h.v.act.length==0)=true:=HBZ.out.symm
     clear h0
     go_wp2_with fail
     refine (CX.out _ _ _ STx.out).mono ?_
     rintro e w8 ⟨x',ov,rfl,hst⟩
     have ST50:=Lib.hid hst
     clear hst CX STx hbi hbi2
     go_wp2_with fail
     go_ret
     exact ⟨x',ov,rfl,ST50.out⟩
    ·obtain rfl:bz=false:=by rw [HBZ.out];simpa using h0
     have hbi2:(o.h.v.act.length==0)=false:=HBZ.out.symm
     clear h0
     go_wp2_with fail
     refine (CX.out _ _ _ STx.out).mono ?_
     rintro e w8 ⟨x',ov,rfl,hst⟩
     have ST50:=Lib.hid hst
     clear hst CX STx hbi hbi2
     go_wp2_with fail
     go_ret
     exact ⟨x',ov,rfl,ST50.out⟩
   case false=>
    have a1:w6.cell? ⟨z,1,none⟩=some (.slice x.x.x.aa o.h.v.act.length x.x.x.ac):=ST6.out.cell 0 1 rfl rfl
    have a2:w6.cell? ⟨z,2,none⟩=some (.int .i64 o.h.v.am):=ST6.out.cell 0 2 rfl rfl
    go_upto_region 7 with fail
    go_wp2_with fail
    refine (CA.out _).mono ?_
    rintro e w7 ⟨rfl,f_⟩
    clear a1 a2 CA
    have ST7:=Lib.hid (show Sta Wb O p d1 (⟨z,o.h.v.arr x.x.x,60⟩::⟨bo,o.arr x,103⟩::B) L (orows o x R) w7 from ST6.out.gr f_)
    clear ST6 f_
    by_cases ha:0<o.h.v.act.length
    ·have hk2:decide ((0:Int)<(o.h.v.act.length:Int))=true:=decide_eq_true (by omega)
     obtain ⟨rfl,rfl,rfl⟩:o=o'∧[]=out∧d1=dn:=by
      have hh:=HH.out
      rw [show oFill o ds=(o,[],d1) by unfold oFill;simp [HFE.out,HO.out,hk,ha]] at hh
      injection hh with a b
      injection b with b c
      exact ⟨a,b,c⟩
     clear HH HFE HO CX CJ hk
     go_wp2_with fail
     go_ret
     exact ⟨x,_,rfl,(((ST7.out.lessB (List.Sublist.cons _ (List.Sublist.refl _))).less (List.Sublist.refl _) (inC (at_ 0 rfl) (inC (at_ 1 rfl) (inC (at_ 2 rfl) (inC (at_ 3 rfl) (fun _ h=>List.mem_cons_of_mem _ (List.mem_cons_of_mem _ (List.mem_cons_of_mem _ (List.mem_cons_of_mem _ (h)))))))))).ownNil _ _)⟩
    ·have hk2:decide ((0:Int)<(o.h.v.act.length:Int))=false:=decide_eq_false (by omega)
     obtain ⟨o2,out2,h2⟩:∃ a b,oJoin o=(a,b):=⟨_,_,rfl⟩
     rw [h2] at CJ
     simp only at CJ
     obtain ⟨rfl,rfl,rfl⟩:o2=o'∧out2=out∧d1=dn:=by
      have hh:=HH.out
      rw [show oFill o ds=(o2,out2,d1) by unfold oFill;simp [HFE.out,HO.out,hk,ha,h2]] at hh
      injection hh with a b
      injection b with b c
      exact ⟨a,b,c⟩
     clear HH HFE hk HO CX
     clear h2
     go_upto_region 9 with fail
     clear hk2
     have STx:=Lib.hid (show Sta Wb O p d1 (⟨bo,o.arr x,103⟩::B) L (orows o x R) w7 from (ST7.out.lessB (List.Sublist.cons _ (List.Sublist.refl _))).less (List.Sublist.refl _) (inC (at_ 0 rfl) (inC (at_ 1 rfl) (inC (at_ 2 rfl) (inC (at_ 3 rfl) (fun _ h=>List.mem_cons_of_mem _ (List.mem_cons_of_mem _ (List.mem_cons_of_mem _ (List.mem_cons_of_mem _ (h))))))))))
     go_wp2_with fail
     refine (CJ.out _ _ _ STx.out).mono ?_
     rintro e w8 ⟨x',ov,rfl,hst⟩
     have ST50:=Lib.hid hst
     clear hst CJ ST7
     go_wp2_with fail
     go_ret
     exact ⟨x',ov,rfl,ST50.out⟩
theorem exec_bldSz (ρ:Operand→Value) (w:World) (dst:Option Tmp) (ty:TypeId) (pos:String) (after:Array Edge) {x0 x1:Operand} {i0 i1:Int} (h0:ρ x0= .int .i64 i0) (h1:ρ x1= .int .i64 i1):
  (execOp ρ ⟨dst, .build 111 #[(0,x0),(1,x1)],ty,pos,after,none⟩).run Tryz.prog w= .ok (.value (.agg #[.int .i64 i0, .int .i64 i1])) w:=by simp [go_sem,h0,h1]
theorem wpList_bldSz {ops:Array Oper} {rest:List Oper} {dst:Option Tmp} {ty:TypeId} {pos:String} {after:Array Edge} {A:Act} {w:World} {Q:Exit→Act→World→Prop} {x0 x1:Operand} {i0 i1:Int} (h0:A.eval x0= .int .i64 i0) (h1:A.eval x1= .int .i64 i1)
  (h:wpList Tryz.prog ops Q rest (A.put dst (.agg #[.int .i64 i0, .int .i64 i1])) w):wpList Tryz.prog ops Q (⟨dst, .build 111 #[(0,x0),(1,x1)],ty,pos,after,none⟩::rest) A w:=by
 refine wpList_plain rfl fun K hK=>?_
 unfold Oper.wp
 rw [exec_bldSz A.eval w dst ty pos after h0 h1]
 exact hK _ _ h
theorem ovTick_any (o:Ov) (x:OvP) (p:Value) (ds:List Int) (Wb:World) (O:Ori) (B:List Blk) (L:List Ow) (R:List Rw) (bo:Nat) (w:World) (st:Sta Wb O p ds (⟨bo,o.arr x,103⟩::B) L (orows o x R) w) (g:o.Ok):
  Calls Tryz.prog 11 #[.pointer (some ⟨bo,0,none⟩),p] w (OEndM Wb O p (oTick o ds).2.2 B L R bo (oTick o ds).1 (oTick o ds).2.1):=by
 obtain ⟨o',out,dn,hh⟩:∃ a b c,oTick o ds=(a,b,c):=⟨_,_,_,rfl⟩
 rw [hh]
 simp only
 have HH:=Lib.hid hh
 have HG:=Lib.hid (g.fill ds)
 have HF1:=Lib.hid (oFill_one o ds)
 have CF:=Lib.hid (fun w (h1:Sta Wb O p ds (⟨bo,o.arr x,103⟩::B) L (orows o x R) w)=>ovFill_any o x p ds Wb O B L R bo w h1 g)
 obtain ⟨o1,out1,d1,h1⟩:∃ a b c,oFill o ds=(a,b,c):=⟨_,_,_,rfl⟩
 rw [h1] at CF HG HF1
 simp only at CF HG HF1
 have HFL:=Lib.hid h1
 obtain ⟨tk,htk⟩:∃ tk,(o1.ticks+1).tmod o1.c.every=tk:=⟨_,rfl⟩
 have HT1:=Lib.hid (show oTick o ds=(if (tk==0)=true then ({ o1 with ticks:=tk },out1.map Ho.ms++(oStart o1.h.v o1.c.mixA o1.c.mixP o1.c.far d1).1,(oStart o1.h.v o1.c.mixA o1.c.mixP o1.c.far d1).2) else ({ o1 with ticks:=tk },out1.map Ho.ms,d1)) by
  unfold oTick
  rw [h1]
  simp only [htk])
 clear hh h1 g
 have ST1:=Lib.hid st
 clear st
 go_enter Tryz.func11,Tryz.ntmps11
 go_upto_region 3 with fail
 go_wp2_with fail
 refine (CF.out _ ST1.out).mono ?_
 rintro e w2 ⟨x1,ov,rfl,hst⟩
 have ST2:=Lib.hid hst
 clear hst CF ST1
 obtain ⟨tk0,tk1⟩:=HG.out.ticks
 obtain ⟨ev0,ev1⟩:=HG.out.every
 have evz:¬ o1.c.every=0:=by omega
 go_upto_region 4 with fail
 obtain ⟨w3,hwd⟩:∃ x,x=w2.drew:=⟨_,rfl⟩
 have HWD:=Lib.hid hwd
 have ST3:=Lib.hid (show Sta Wb O p d1 (⟨bo,o1.arr x1,103⟩::B) (⟨81,8,ov,out1.length,houts out1⟩::L) (orows o1 x1 R) w3 from hwd▸ST2.out.gr ((Fr.refl _ _).drew))
 clear ST2 hwd
 haveI:Nonempty (WC (fun w=>w.heap[bo]?=some (.cells (o1.arr x1) 103 (0,0)))):=⟨⟨w3,ST3.out.blkAt 0 rfl⟩⟩
 have z15:∀ z:WC (fun w=>w.heap[bo]?=some (.cells (o1.arr x1) 103 (0,0))),z.val.cell? ⟨bo,15,none⟩=some (.int .i64 o1.ticks):=fun z=>by rw [Lib.cell_of_heap z.ok];rfl
 have z6:∀ z:WC (fun w=>w.heap[bo]?=some (.cells (o1.arr x1) 103 (0,0))),z.val.cell? ⟨bo,6,none⟩=some (.int .i64 o1.c.every):=fun z=>by rw [Lib.cell_of_heap z.ok];rfl
 refine wp_region_lastO 14 [] [] [0,1,2,3,4,5,6,7,8,9,10,11,12,13] (fun w'=>∃ z:WC (fun w=>w.heap[bo]?=some (.cells (o1.arr x1) 103 (0,0))),w'=z.val) (by kernel_rfl) (by kernel_rfl) (fun c a w d v h=>by cases d<;>exact h) (fun c a w d v h=>by cases d<;>exact h) (by rw [←HWD.out];exact ⟨⟨w3,ST3.out.blkAt 0 rfl⟩,rfl⟩) ?_
 rw [←HWD.out]
 clear HWD
 simp only [List.take]
 refine wpT_q (by simp only [gtA,gtZ]<;>rfl) (by rfl) (by rfl) ?_
 go_big_quiet_step (fail)
 refine wpQuiet_nil ?_
 refine wpT_q (by simp only [gtA,gtS,gtZ]<;>rfl) (by rfl) (by rfl) ?_
 go_big_quiet_step (fail)
 refine wpQuiet_nil ?_
 refine wpT_q (by simp only [gtA,gtS,gtZ]<;>rfl) (by rfl) (by rfl) ?_
 go_big_quiet_step (fail)
 refine wpQuiet_nil ?_
 refine wpT_q (by simp only [gtA,gtS,gtZ]<;>rfl) (by rfl) (by rfl) ?_
 go_big_quiet_step (fail)
 refine wpQuiet_nil ?_
 refine wpT_q (by simp only [gtA,gtS,gtZ]<;>rfl) (by rfl) (by rfl) ?_
 go_big_quiet_step (fail)
 refine wpQuiet_nil ?_
 refine wpT_q (by simp only [gtA,gtS,gtZ]<;>rfl) (by rfl) (by rfl) ?_
 go_big_quiet_step (fail)
 refine wpQuiet_nil ?_
 refine wpT_q (by simp only [gtA,gtS,gtZ]<;>rfl) (by rfl) (by rfl) ?_
 go_big_quiet_step (fail)
 refine wpQuiet_nil ?_
 refine wpT_q (by simp only [gtA,gtS,gtZ]<;>rfl) (by rfl) (by rfl) ?_
 go_big_quiet_step (fail)
 refine wpQuiet_nil ?_
 refine wpT_q (by simp only [gtA,gtS,gtZ]<;>rfl) (by rfl) (by rfl) ?_
 go_big_quiet_step (fail)
 refine wpQuiet_nil ?_
 refine wpT_q (by simp only [gtA,gtS,gtZ]<;>rfl) (by rfl) (by rfl) ?_
 go_big_quiet_step (fail)
 refine wpQuiet_nil ?_
 refine wpT_q (by simp only [gtA,gtS,gtZ]<;>rfl) (by rfl) (by rfl) ?_
 go_big_quiet_step (fail)
 refine wpQuiet_nil ?_
 refine wpT_q (by simp only [gtA,gtS,gtZ]<;>rfl) (by rfl) (by rfl) ?_
 go_big_quiet_step (fail)
 refine wpQuiet_nil ?_
 refine wpT_q (by simp only [gtA,gtS,gtZ]<;>rfl) (by rfl) (by rfl) ?_
 go_big_quiet_step (fail)
 refine wpQuiet_nil ?_
 refine wpT_q (by simp only [gtA,gtS,gtZ]<;>rfl) (by rfl) (by rfl) ?_
 go_big_quiet_step (fail)
 refine wpQuiet_nil ?_
 clear this z15 z6
 refine wpT_nil ?_
 simp only [lastQ,List.drop]
 have zf:w3.frozen? ⟨bo,15,none⟩=false:=ST3.out.froz 0 15 rfl
 have zc:w3.cell? ⟨bo,15,none⟩=some (.int .i64 o1.ticks):=ST3.out.cell 0 15 rfl rfl
 go_upto_region 5 with fail
 obtain ⟨w4,hw_⟩:∃ x,x=w3.setCell ⟨bo,15,none⟩ (.int .i64 tk):=⟨_,rfl⟩
 rw [←hw_]
 have ST4:=Lib.hid (show Sta Wb O p d1 (⟨bo, #[.int .i64 o1.c.active, .int .i64 o1.c.passive, .int .i64 o1.c.far, .int .i64 o1.c.near, .int .i64 o1.c.mixA, .int .i64 o1.c.mixP, .int .i64 o1.c.every, .slice x1.sa o1.c.seeds.length x1.sc, .int .i64 o1.h.v.self, .slice x1.x.x.aa o1.h.v.act.length x1.x.x.ac, .int .i64 o1.h.v.am, .slice x1.x.x.pa o1.h.v.pas.length x1.x.x.pc, .int .i64 o1.h.v.pm, .slice x1.x.ka o1.h.asked.length x1.x.kc, .int .i64 64, .int .i64 tk, .int .i64 o1.seed],103⟩::B) (⟨81,8,ov,out1.length,houts out1⟩::L) (orows o1 x1 R) w4 from hw_▸ST3.out.setC 0 rfl 15 (.int .i64 tk) (Nat.le_of_ble_eq_true rfl))
 clear ST3 hw_
 clear zf zc htk evz
 have y15:w4.cell? ⟨bo,15,none⟩=some (.int .i64 tk):=ST4.out.cell 0 15 rfl rfl
 cases ht:(tk==0)
 case false=>
  obtain ⟨rfl,rfl,rfl⟩:({ o1 with ticks:=tk }:Ov)=o'∧out1.map Ho.ms=out∧d1=dn:=by
   have hh:=HH.out
   rw [show oTick o ds=(({ o1 with ticks:=tk }:Ov),out1.map Ho.ms,d1) by rw [HT1.out,ht];rfl] at hh
   injection hh with a b
   injection b with b c
   exact ⟨a,b,c⟩
  clear HH HT1 HFL
  go_wp2_with fail
  go_ret
  refine ⟨x1,ov,out1.map Ho.om,by rw [List.map_map];rfl,rfl,?_⟩
  rw [List.length_map]
  have hX:=ST4.out.addNils (k:=(out1.map Ho.om).map Om.row) (by
   intro r hr
   rw [List.map_map] at hr
   obtain ⟨a, -, rfl⟩:=List.mem_map.1 hr
   exact ⟨rfl,Nat.le_refl _,Nat.zero_le _⟩)
  rw [show oms (out1.map Ho.om)=houts out1 from (houts_oms out1).symm]
  exact hX
 case true=>
  have CS:=Lib.hid (fun w (h1:VwAt w o1.h.v x1.x.x) (h2:DrawV w p d1) (h3:VwSep p o1.h.v x1.x.x)=>mixStart_any o1.h.v x1.x.x o1.c.mixA o1.c.mixP o1.c.far p d1 w h1 h2 h3 (by have:=HG.out.mixA;omega) (by have:=HG.out.mixP;omega))
  go_upto_region 6 with fail
  clear y15
  obtain ⟨w5,hwd⟩:∃ x,x=w4.drew:=⟨_,rfl⟩
  have HWD:=Lib.hid hwd
  have ST5:=Lib.hid (show Sta Wb O p d1 (⟨bo, #[.int .i64 o1.c.active, .int .i64 o1.c.passive, .int .i64 o1.c.far, .int .i64 o1.c.near, .int .i64 o1.c.mixA, .int .i64 o1.c.mixP, .int .i64 o1.c.every, .slice x1.sa o1.c.seeds.length x1.sc, .int .i64 o1.h.v.self, .slice x1.x.x.aa o1.h.v.act.length x1.x.x.ac, .int .i64 o1.h.v.am, .slice x1.x.x.pa o1.h.v.pas.length x1.x.x.pc, .int .i64 o1.h.v.pm, .slice x1.x.ka o1.h.asked.length x1.x.kc, .int .i64 64, .int .i64 tk, .int .i64 o1.seed],103⟩::B) (⟨81,8,ov,out1.length,houts out1⟩::L) (orows o1 x1 R) w5 from hwd▸ST4.out.gr ((Fr.refl _ _).drew))
  clear ST4 hwd
  haveI:Nonempty (WC (fun w=>w.heap[bo]?=some (.cells (#[.int .i64 o1.c.active, .int .i64 o1.c.passive, .int .i64 o1.c.far, .int .i64 o1.c.near, .int .i64 o1.c.mixA, .int .i64 o1.c.mixP, .int .i64 o1.c.every, .slice x1.sa o1.c.seeds.length x1.sc, .int .i64 o1.h.v.self, .slice x1.x.x.aa o1.h.v.act.length x1.x.x.ac, .int .i64 o1.h.v.am, .slice x1.x.x.pa o1.h.v.pas.length x1.x.x.pc, .int .i64 o1.h.v.pm, .slice x1.x.ka o1.h.asked.length x1.x.kc, .int .i64 64, .int .i64 tk, .int .i64 o1.seed]) 103 (0,0))∧w.cell? ⟨bo,2,none⟩=some (.int .i64 o1.c.far)∧w.cell? ⟨bo,4,none⟩=some (.int .i64 o1.c.mixA)∧w.cell? ⟨bo,5,none⟩=some (.int .i64 o1.c.mixP))):=⟨⟨w5,⟨ST5.out.blkAt 0 rfl,ST5.out.cell 0 2 rfl rfl,ST5.out.cell 0 4 rfl rfl,ST5.out.cell 0 5 rfl rfl⟩⟩⟩
  have z2:∀ z:WC (fun w=>w.heap[bo]?=some (.cells (#[.int .i64 o1.c.active, .int .i64 o1.c.passive, .int .i64 o1.c.far, .int .i64 o1.c.near, .int .i64 o1.c.mixA, .int .i64 o1.c.mixP, .int .i64 o1.c.every, .slice x1.sa o1.c.seeds.length x1.sc, .int .i64 o1.h.v.self, .slice x1.x.x.aa o1.h.v.act.length x1.x.x.ac, .int .i64 o1.h.v.am, .slice x1.x.x.pa o1.h.v.pas.length x1.x.x.pc, .int .i64 o1.h.v.pm, .slice x1.x.ka o1.h.asked.length x1.x.kc, .int .i64 64, .int .i64 tk, .int .i64 o1.seed]) 103 (0,0))∧w.cell? ⟨bo,2,none⟩=some (.int .i64 o1.c.far)∧w.cell? ⟨bo,4,none⟩=some (.int .i64 o1.c.mixA)∧w.cell? ⟨bo,5,none⟩=some (.int .i64 o1.c.mixP)),z.val.cell? ⟨bo,2,none⟩=some (.int .i64 o1.c.far):=fun z=>z.ok.2.1
  have z4:∀ z:WC (fun w=>w.heap[bo]?=some (.cells (#[.int .i64 o1.c.active, .int .i64 o1.c.passive, .int .i64 o1.c.far, .int .i64 o1.c.near, .int .i64 o1.c.mixA, .int .i64 o1.c.mixP, .int .i64 o1.c.every, .slice x1.sa o1.c.seeds.length x1.sc, .int .i64 o1.h.v.self, .slice x1.x.x.aa o1.h.v.act.length x1.x.x.ac, .int .i64 o1.h.v.am, .slice x1.x.x.pa o1.h.v.pas.length x1.x.x.pc, .int .i64 o1.h.v.pm, .slice x1.x.ka o1.h.asked.length x1.x.kc, .int .i64 64, .int .i64 tk, .int .i64 o1.seed]) 103 (0,0))∧w.cell? ⟨bo,2,none⟩=some (.int .i64 o1.c.far)∧w.cell? ⟨bo,4,none⟩=some (.int .i64 o1.c.mixA)∧w.cell? ⟨bo,5,none⟩=some (.int .i64 o1.c.mixP)),z.val.cell? ⟨bo,4,none⟩=some (.int .i64 o1.c.mixA):=fun z=>z.ok.2.2.1
  have z5:∀ z:WC (fun w=>w.heap[bo]?=some (.cells (#[.int .i64 o1.c.active, .int .i64 o1.c.passive, .int .i64 o1.c.far, .int .i64 o1.c.near, .int .i64 o1.c.mixA, .int .i64 o1.c.mixP, .int .i64 o1.c.every, .slice x1.sa o1.c.seeds.length x1.sc, .int .i64 o1.h.v.self, .slice x1.x.x.aa o1.h.v.act.length x1.x.x.ac, .int .i64 o1.h.v.am, .slice x1.x.x.pa o1.h.v.pas.length x1.x.x.pc, .int .i64 o1.h.v.pm, .slice x1.x.ka o1.h.asked.length x1.x.kc, .int .i64 64, .int .i64 tk, .int .i64 o1.seed]) 103 (0,0))∧w.cell? ⟨bo,2,none⟩=some (.int .i64 o1.c.far)∧w.cell? ⟨bo,4,none⟩=some (.int .i64 o1.c.mixA)∧w.cell? ⟨bo,5,none⟩=some (.int .i64 o1.c.mixP)),z.val.cell? ⟨bo,5,none⟩=some (.int .i64 o1.c.mixP):=fun z=>z.ok.2.2.2
  refine wp_region_plan [16,23,24,25] (Plan.seq [0,1,2,3,4,5,6,7,8,9,10,11,12,13,14,15,16,17,18,19,20,21,22,23,24,25] .done) (fun w'=>∃ z:WC (fun w=>w.heap[bo]?=some (.cells (#[.int .i64 o1.c.active, .int .i64 o1.c.passive, .int .i64 o1.c.far, .int .i64 o1.c.near, .int .i64 o1.c.mixA, .int .i64 o1.c.mixP, .int .i64 o1.c.every, .slice x1.sa o1.c.seeds.length x1.sc, .int .i64 o1.h.v.self, .slice x1.x.x.aa o1.h.v.act.length x1.x.x.ac, .int .i64 o1.h.v.am, .slice x1.x.x.pa o1.h.v.pas.length x1.x.x.pc, .int .i64 o1.h.v.pm, .slice x1.x.ka o1.h.asked.length x1.x.kc, .int .i64 64, .int .i64 tk, .int .i64 o1.seed]) 103 (0,0))∧w.cell? ⟨bo,2,none⟩=some (.int .i64 o1.c.far)∧w.cell? ⟨bo,4,none⟩=some (.int .i64 o1.c.mixA)∧w.cell? ⟨bo,5,none⟩=some (.int .i64 o1.c.mixP)),w'=z.val) (by kernel_rfl) (by kernel_rfl) (fun c a w d v h=>by cases d<;>exact h) (fun c a w d v h=>by cases d<;>exact h) (by rw [←HWD.out];exact ⟨⟨w5,⟨ST5.out.blkAt 0 rfl,ST5.out.cell 0 2 rfl rfl,ST5.out.cell 0 4 rfl rfl,ST5.out.cell 0 5 rfl rfl⟩⟩,rfl⟩) ?_
  rw [←HWD.out]
  clear HWD
  refine wpV_q (by simp only [gtA,gtZ]<;>rfl) (by rfl) (by rfl) ?_
  go_big_quiet_step (fail)
  refine wpQuiet_nil ?_
  refine wpV_q (by simp only [gtA,gtS,gtZ]<;>rfl) (by rfl) (by rfl) ?_
  go_big_quiet_step (fail)
  refine wpQuiet_nil ?_
  refine wpV_q (by simp only [gtA,gtS,gtZ]<;>rfl) (by rfl) (by rfl) ?_
  go_big_quiet_step (fail)
  refine wpQuiet_nil ?_
  refine wpV_q (by simp only [gtA,gtS,gtZ]<;>rfl) (by rfl) (by rfl) ?_
  go_big_quiet_step (fail)
  refine wpQuiet_nil ?_
  refine wpV_q (by simp only [gtA,gtS,gtZ]<;>rfl) (by rfl) (by rfl) ?_
  go_big_quiet_step (fail)
  refine wpQuiet_nil ?_
  refine wpV_q (by simp only [gtA,gtS,gtZ]<;>rfl) (by rfl) (by rfl) ?_
  refine wpQuiet_loadH (by rfl) 60 _ (by rfl) bo 8 (by rfl) (Array.toList (o1.h.v.arr x1.x.x)) _ (fun w ⟨z,hz⟩=>hz▸rangeIn z.ok.1 8 (by rfl)) Tryz.underlying60 rfl Tryz.infoView ?_
  refine wpQuiet_nil ?_
  simp only [Act.put,List.setIfInBounds_toArray,List.set_cons_succ,List.set_cons_zero]
  refine wpV_q (by simp only [gtA,gtS,gtZ]<;>rfl) (by rfl) (by rfl) ?_
  go_big_quiet_step (fail)
  refine wpQuiet_nil ?_
  refine wpV_q (by simp only [gtA,gtS,gtZ]<;>rfl) (by rfl) (by rfl) ?_
  go_big_quiet_step (fail)
  refine wpQuiet_nil ?_
  refine wpV_q (by simp only [gtA,gtS,gtZ]<;>rfl) (by rfl) (by rfl) ?_
  go_big_quiet_step (fail)
  refine wpQuiet_nil ?_
  refine wpV_q (by simp only [gtA,gtS,gtZ]<;>rfl) (by rfl) (by rfl) ?_
  go_big_quiet_step (fail)
  refine wpQuiet_nil ?_
  refine wpV_q (by simp only [gtA,gtS,gtZ]<;>rfl) (by rfl) (by rfl) ?_
  go_big_quiet_step (fail)
  refine wpQuiet_nil ?_
  refine wpV_q (by simp only [gtA,gtS,gtZ]<;>rfl) (by rfl) (by rfl) ?_
  go_big_quiet_step (fail)
  refine wpQuiet_nil ?_
  refine wpV_q (by simp only [gtA,gtS,gtZ]<;>rfl) (by rfl) (by rfl) ?_
  go_big_quiet_step (fail)
  refine wpQuiet_nil ?_
  refine wpV_q (by simp only [gtA,gtS,gtZ]<;>rfl) (by rfl) (by rfl) ?_
  go_big_quiet_step (fail)
  refine wpQuiet_nil ?_
  refine wpV_q (by simp only [gtA,gtS,gtZ]<;>rfl) (by rfl) (by rfl) ?_
  go_big_quiet_step (fail)
  refine wpQuiet_nil ?_
  refine wpV_q (by simp only [gtA,gtS,gtZ]<;>rfl) (by rfl) (by rfl) ?_
  go_big_quiet_step (fail)
  refine wpQuiet_nil ?_
  refine wpV_e (by simp only [gtA,gtS,gtZ]<;>rfl) (by rfl) ?_
  refine wpList_bldSz (by rfl) (by rfl) ?_
  refine wpList_nil ?_
  refine ⟨⟨⟨w5,⟨ST5.out.blkAt 0 rfl,ST5.out.cell 0 2 rfl rfl,ST5.out.cell 0 4 rfl rfl,ST5.out.cell 0 5 rfl rfl⟩⟩,rfl⟩,?_⟩
  simp only [Act.put,List.setIfInBounds_toArray,List.set_cons_succ,List.set_cons_zero]
  refine wpV_q (by simp only [gtA,gtS,gtZ]<;>rfl) (by rfl) (by rfl) ?_
  go_big_quiet_step (fail)
  refine wpQuiet_nil ?_
  refine wpV_q (by simp only [gtA,gtS,gtZ]<;>rfl) (by rfl) (by rfl) ?_
  go_big_quiet_step (fail)
  refine wpQuiet_nil ?_
  refine wpV_q (by simp only [gtA,gtS,gtZ]<;>rfl) (by rfl) (by rfl) ?_
  go_big_quiet_step (fail)
  refine wpQuiet_nil ?_
  refine wpV_q (by simp only [gtA,gtS,gtZ]<;>rfl) (by rfl) (by rfl) ?_
  go_big_quiet_step (fail)
  refine wpQuiet_nil ?_
  refine wpV_q (by simp only [gtA,gtS,gtZ]<;>rfl) (by rfl) (by rfl) ?_
  go_big_quiet_step (fail)
  refine wpQuiet_nil ?_
  refine wpV_q (by simp only [gtA,gtS,gtZ]<;>rfl) (by rfl) (by rfl) ?_
  go_big_quiet_step (fail)
  refine wpQuiet_nil ?_
  refine wpV_e (by simp only [gtA,gtS,gtZ]<;>rfl) (by rfl) ?_
  go_wp2_with fail
  refine (CS.out _ (ST5.out.vw (v:=o1.h.v) (y:=x1.x.x) (at_ 1 rfl) (at_ 2 rfl) HG.out.h.v) ST5.out.dr (ST5.out.sep (v:=o1.h.v) (y:=x1.x.x) (at_ 1 rfl) (at_ 2 rfl))).mono ?_
  intro e w6 hst
  obtain ⟨l2,ov2,hl2,rfl,hst2⟩:=ST5.out.callStart hst
  have ST6:=Lib.hid (show Sta Wb O p (oStart o1.h.v o1.c.mixA o1.c.mixP o1.c.far d1).2 (⟨bo, #[.int .i64 o1.c.active, .int .i64 o1.c.passive, .int .i64 o1.c.far, .int .i64 o1.c.near, .int .i64 o1.c.mixA, .int .i64 o1.c.mixP, .int .i64 o1.c.every, .slice x1.sa o1.c.seeds.length x1.sc, .int .i64 o1.h.v.self, .slice x1.x.x.aa o1.h.v.act.length x1.x.x.ac, .int .i64 o1.h.v.am, .slice x1.x.x.pa o1.h.v.pas.length x1.x.x.pc, .int .i64 o1.h.v.pm, .slice x1.x.ka o1.h.asked.length x1.x.kc, .int .i64 64, .int .i64 tk, .int .i64 o1.seed],103⟩::B) (⟨81,8,ov2,l2.length,oms l2⟩::⟨81,8,ov,out1.length,houts out1⟩::L) (l2.map Om.row++orows o1 x1 R) w6 from hst2)
  have HL2:=Lib.hid hl2
  clear hst hst2 hl2 CS ST5
  go_wp2_with fail
  refine ⟨⟨⟨w6,⟨ST6.out.blkAt 0 rfl,ST6.out.cell 0 2 rfl rfl,ST6.out.cell 0 4 rfl rfl,ST6.out.cell 0 5 rfl rfl⟩⟩,rfl⟩,?_⟩
  have hl21:l2.length≤1:=by
   have h:=congrArg List.length HL2.out
   rw [List.length_map] at h
   rw [h]
   unfold oStart
   split<;>simp
  refine wpV_e (by simp only [gtA,gtS,gtZ]<;>rfl) (by rfl) ?_
  refine wpList_growJ (by rfl) _ _ 53 81 8 112 (.agg outZ) Tryz.underlying53 Tryz.infoOutB rfl (by decide) (by decide) (by rfl) ST6.out 1 0 rfl rfl (by rfl) (by rfl) (oms_one l2) (by have:=HF1.out;omega) ?_
  intro v7 w7 hst
  refine wpList_nil ?_
  have ST7:=Lib.hid (show Sta Wb O p (oStart o1.h.v o1.c.mixA o1.c.mixP o1.c.far d1).2 (⟨bo, #[.int .i64 o1.c.active, .int .i64 o1.c.passive, .int .i64 o1.c.far, .int .i64 o1.c.near, .int .i64 o1.c.mixA, .int .i64 o1.c.mixP, .int .i64 o1.c.every, .slice x1.sa o1.c.seeds.length x1.sc, .int .i64 o1.h.v.self, .slice x1.x.x.aa o1.h.v.act.length x1.x.x.ac, .int .i64 o1.h.v.am, .slice x1.x.x.pa o1.h.v.pas.length x1.x.x.pc, .int .i64 o1.h.v.pm, .slice x1.x.ka o1.h.asked.length x1.x.kc, .int .i64 64, .int .i64 tk, .int .i64 o1.seed],103⟩::B) (⟨81,8,ov2,l2.length,oms l2⟩::⟨81,8,v7,out1.length+l2.length,houts out1++oms l2⟩::L) (l2.map Om.row++orows o1 x1 R) w7 from hst)
  clear hst hl21 ST6
  refine ⟨⟨⟨w7,⟨ST7.out.blkAt 0 rfl,ST7.out.cell 0 2 rfl rfl,ST7.out.cell 0 4 rfl rfl,ST7.out.cell 0 5 rfl rfl⟩⟩,rfl⟩,?_⟩
  simp only [Act.put,List.setIfInBounds_toArray,List.set_cons_succ,List.set_cons_zero]
  refine wpV_e (by simp only [gtA,gtS,gtZ]<;>rfl) (by rfl) ?_
  go_wp2_with fail
  refine ⟨⟨⟨w7,⟨ST7.out.blkAt 0 rfl,ST7.out.cell 0 2 rfl rfl,ST7.out.cell 0 4 rfl rfl,ST7.out.cell 0 5 rfl rfl⟩⟩,rfl⟩,?_⟩
  refine wpV_done ?_
  clear z2 z4 z5 this
  obtain ⟨rfl,rfl,rfl⟩:({ o1 with ticks:=tk }:Ov)=o'∧out1.map Ho.ms++(oStart o1.h.v o1.c.mixA o1.c.mixP o1.c.far d1).1=out∧(oStart o1.h.v o1.c.mixA o1.c.mixP o1.c.far d1).2=dn:=by
   have hh:=HH.out
   rw [show oTick o ds=(({ o1 with ticks:=tk }:Ov),out1.map Ho.ms++(oStart o1.h.v o1.c.mixA o1.c.mixP o1.c.far d1).1,(oStart o1.h.v o1.c.mixA o1.c.mixP o1.c.far d1).2) by rw [HT1.out,ht];rfl] at hh
   injection hh with a b
   injection b with b c
   exact ⟨a,b,c⟩
  clear HH HT1 HFL ht
  go_wp2_with fail
  go_ret
  refine ⟨x1,v7,out1.map Ho.om++l2,by rw [List.map_append,HL2.out,List.map_map];rfl,rfl,?_⟩
  rw [List.length_append,List.length_map]
  have hX:=(ST7.out.less (List.Sublist.cons _ (List.Sublist.refl _)) (fun r h=>h)).addNils (k:=(out1.map Ho.om).map Om.row) (by
   intro r hr
   rw [List.map_map] at hr
   obtain ⟨a, -, rfl⟩:=List.mem_map.1 hr
   exact ⟨rfl,Nat.le_refl _,Nat.zero_le _⟩)
  rw [show oms (out1.map Ho.om++l2)=houts out1++oms l2 by rw [←oms_app, ←houts_oms];rfl,List.map_append,List.append_assoc]
  exact hX
end
section
open Go.RowKit Go.Proofs
abbrev Cf.arr (c:Cf) (sa:Option Addr) (sc:Nat):Array Value:= #[.int .i64 c.active, .int .i64 c.passive, .int .i64 c.far, .int .i64 c.near, .int .i64 c.mixA, .int .i64 c.mixP, .int .i64 c.every, .slice sa c.seeds.length sc]
theorem Tryz.infoConfig:(Tryz.prog.info? 44).map (·.size)=some 8:=by kernel_rfl
theorem ovIn_any (n a b:Int) (w:World):Calls Tryz.prog 29 #[.int .i64 n, .int .i64 a, .int .i64 b] w fun e w'=>e= .returned (.bool (cIn n a b))∧Gr w w':=by
 unfold cIn
 go_enter Tryz.func29,Tryz.ntmps29
 by_cases h1:a≤n
 ·have d1:decide (a≤n)=true:=decide_eq_true h1
  rw [d1]
  go_wp2_with fail
  go_ret
  exact ⟨by simp,Fr.refl _ _⟩
 ·have d1:decide (a≤n)=false:=decide_eq_false h1
  rw [d1]
  go_wp2_with fail
  go_ret
  exact ⟨rfl,Fr.refl _ _⟩
theorem ovGood1_any (n:Int) (w:World):Calls Tryz.prog 64 #[.int .i64 n] w fun e w'=>e= .returned (.bool (!cIn n 1 65535))∧Gr w w':=by
 have CI:=Lib.hid (fun w=>ovIn_any n 1 65535 w)
 go_enter Tryz.func64,Tryz.ntmps64
 go_wp2_with fail
 refine (CI.out _).mono ?_
 rintro e w2 ⟨rfl,f_⟩
 have F2:=Lib.hid f_
 clear f_ CI
 go_wp2_with fail
 go_ret
 exact ⟨rfl,F2.out⟩
theorem ovNew1_any (b:Nat) (self x:Int) (w:World) (hc:w.cell? ⟨b,0,none⟩=some (.int .i64 self)):Calls Tryz.prog 32 #[.int .i64 x, .pointer (some ⟨b,0,none⟩)] w fun e w'=>e= .returned (.bool (x==self))∧Gr w w':=by
 go_enter Tryz.func32,Tryz.ntmps32
 go_wp2_with fail
 go_ret
 exact ⟨rfl,Fr.refl _ _⟩
theorem containsFuncP_any (F:FuncId) (p:Int→Bool) (a:Option Addr) (cap:Nat) (l:List Int) (w:World) (h:SlA w a l.length cap (ints l)) (hp:PredI F #[] p (fun _=>False) w):
  Calls Tryz.prog 42 #[.slice a l.length cap, .func (.func F) #[] #[]] w fun e w'=>e= .returned (.bool (l.any p))∧Fr (fun _=>False) w w':=by
 have HI:=Lib.hid (indexFunc_any F #[] p _ a cap l w h hp)
 have HD:=Lib.hid (idxF_any p l)
 obtain ⟨z,hz⟩:∃ z,z=idxF p l:=⟨_,rfl⟩
 rw [←hz] at HI HD
 clear h hp hz
 go_enter Tryz.func42,Tryz.ntmps42
 go_wp2_with fail
 refine HI.out.mono ?_
 rintro e w2 ⟨rfl,f⟩
 have F2:=Lib.hid f
 clear f HI
 go_wp2_with fail
 go_ret
 exact ⟨by rw [HD.out];rfl,F2.out⟩
theorem ovGood_any (c:Cf) (sa:Option Addr) (sc:Nat) (W:World) (h:SlA W sa c.seeds.length sc (ints c.seeds)):Calls Tryz.prog 28 #[.agg (c.arr sa sc)] W fun e w'=>e= .returned (.bool (cGood c))∧Gr W w':=by
 obtain ⟨w1,hw1⟩:∃ w1,w1=W.alloc (.cells (c.arr sa sc) 44):=⟨_,rfl⟩
 have F1:=Lib.hid (show Gr W w1 by rw [hw1];exact (Fr.refl _ _).alloc _)
 have B1:=Lib.hid (show w1.heap[W.heap.size]?=some (.cells (c.arr sa sc) 44 (0,0)) by rw [hw1,heap_alloc_if,if_pos rfl])
 have HW1:=Lib.hid hw1
 have HS:=Lib.hid h
 have l1:=h.le
 have l2:=h.max
 have HY:=Lib.hid (fun w (f:Gr w1 w) (j:Nat) (v:Value) (hv:(c.arr sa sc)[j]?=some v)=>show w.cell? ⟨W.heap.size,j,none⟩=some v from f.cell ((Bx.of_block B1.out) j v (by simpa using hv)) (fun h=>h))
 have HP:=Lib.hid (fun w=>show PredI 64 #[] (fun n=> !cIn n 1 65535) (fun _=>False) w from ⟨fun args w=>by rfl,fun x w' _=>ovGood1_any x w'⟩)
 have HGO:=Lib.hid (show cGood c=(cIn c.active 2 64&&cIn c.passive 1 64&&cIn c.far 0 15&&cIn c.near 0 15&&cIn c.mixA 0 64&&cIn c.mixP 0 64&&cIn c.every 1 1000&&decide ((c.seeds.length:Int)≤64)&& !(c.seeds.any (fun n=> !cIn n 1 65535))) from rfl)
 obtain ⟨gg,hgg⟩:∃ b,b=cGood c:=⟨_,rfl⟩
 rw [←hgg] at HGO ⊢
 have CI:=Lib.hid (fun n a b w=>ovIn_any n a b w)
 clear hw1 h hgg
 go_enter Tryz.func28,Tryz.ntmps28
 go_upto_region 1 with fail
 rw [←HW1.out]
 clear HW1
 have y:w1.cell? ⟨W.heap.size,0,none⟩=some (.int .i64 c.active):=HY.out w1 (Fr.refl _ _) 0 _ rfl
 go_wp2_with fail
 refine (CI.out c.active 2 64 _).mono ?_
 rintro e v0 ⟨rfl,f_⟩
 clear y
 have Fv0:=Lib.hid (Gr.trans (Fr.refl _ _) f_)
 clear f_
 cases e0:cIn c.active 2 64
 case false=>
  rw [e0] at HGO
  simp only [Bool.false_and] at HGO
  clear e0
  go_wp2_with fail
  go_ret
  exact ⟨by rw [HGO.out];rfl,Gr.trans F1.out Fv0.out⟩
 case true=>
  rw [e0] at HGO
  clear e0
  have y:v0.cell? ⟨W.heap.size,1,none⟩=some (.int .i64 c.passive):=HY.out v0 Fv0.out 1 _ rfl
  go_wp2_with fail
  refine (CI.out c.passive 1 64 _).mono ?_
  rintro e v1 ⟨rfl,f_⟩
  clear y
  have Fv1:=Lib.hid (Gr.trans Fv0.out f_)
  clear f_
  cases e1:cIn c.passive 1 64
  case false=>
   rw [e1] at HGO
   simp only [Bool.false_and,Bool.and_false] at HGO
   clear e1
   go_wp2_with fail
   go_ret
   exact ⟨by rw [HGO.out];rfl,Gr.trans F1.out Fv1.out⟩
  case true=>
   rw [e1] at HGO
   clear e1
   have y:v1.cell? ⟨W.heap.size,2,none⟩=some (.int .i64 c.far):=HY.out v1 Fv1.out 2 _ rfl
   go_wp2_with fail
   refine (CI.out c.far 0 15 _).mono ?_
   rintro e v2 ⟨rfl,f_⟩
   clear y
   have Fv2:=Lib.hid (Gr.trans Fv1.out f_)
   clear f_
   cases e2:cIn c.far 0 15
   case false=>
    rw [e2] at HGO
    simp only [Bool.false_and,Bool.and_false] at HGO
    clear e2
    go_wp2_with fail
    go_ret
    exact ⟨by rw [HGO.out];rfl,Gr.trans F1.out Fv2.out⟩
   case true=>
    rw [e2] at HGO
    clear e2
    have y:v2.cell? ⟨W.heap.size,3,none⟩=some (.int .i64 c.near):=HY.out v2 Fv2.out 3 _ rfl
    go_wp2_with fail
    refine (CI.out c.near 0 15 _).mono ?_
    rintro e v3 ⟨rfl,f_⟩
    clear y
    have Fv3:=Lib.hid (Gr.trans Fv2.out f_)
    clear f_
    cases e3:cIn c.near 0 15
    case false=>
     rw [e3] at HGO
     simp only [Bool.false_and,Bool.and_false] at HGO
     clear e3
     go_wp2_with fail
     go_ret
     exact ⟨by rw [HGO.out];rfl,Gr.trans F1.out Fv3.out⟩
    case true=>
     rw [e3] at HGO
     clear e3
     have y:v3.cell? ⟨W.heap.size,4,none⟩=some (.int .i64 c.mixA):=HY.out v3 Fv3.out 4 _ rfl
     go_wp2_with fail
     refine (CI.out c.mixA 0 64 _).mono ?_
     rintro e v4 ⟨rfl,f_⟩
     clear y
     have Fv4:=Lib.hid (Gr.trans Fv3.out f_)
     clear f_
     cases e4:cIn c.mixA 0 64
     case false=>
      rw [e4] at HGO
      simp only [Bool.false_and,Bool.and_false] at HGO
      clear e4
      go_wp2_with fail
      go_ret
      exact ⟨by rw [HGO.out];rfl,Gr.trans F1.out Fv4.out⟩
     case true=>
      rw [e4] at HGO
      clear e4
      have y:v4.cell? ⟨W.heap.size,5,none⟩=some (.int .i64 c.mixP):=HY.out v4 Fv4.out 5 _ rfl
      go_wp2_with fail
      refine (CI.out c.mixP 0 64 _).mono ?_
      rintro e v5 ⟨rfl,f_⟩
      clear y
      have Fv5:=Lib.hid (Gr.trans Fv4.out f_)
      clear f_
      cases e5:cIn c.mixP 0 64
      case false=>
       rw [e5] at HGO
       simp only [Bool.false_and,Bool.and_false] at HGO
       clear e5
       go_wp2_with fail
       go_ret
       exact ⟨by rw [HGO.out];rfl,Gr.trans F1.out Fv5.out⟩
      case true=>
       rw [e5] at HGO
       clear e5
       have y:v5.cell? ⟨W.heap.size,6,none⟩=some (.int .i64 c.every):=HY.out v5 Fv5.out 6 _ rfl
       go_wp2_with fail
       refine (CI.out c.every 1 1000 _).mono ?_
       rintro e v6 ⟨rfl,f_⟩
       clear y
       have Fv6:=Lib.hid (Gr.trans Fv5.out f_)
       clear f_
       cases e6:cIn c.every 1 1000
       case false=>
        rw [e6] at HGO
        simp only [Bool.false_and,Bool.and_false] at HGO
        clear e6
        go_wp2_with fail
        go_ret
        exact ⟨by rw [HGO.out];rfl,Gr.trans F1.out Fv6.out⟩
       case true=>
        rw [e6] at HGO
        clear e6
        simp only [Bool.true_and] at HGO
        have y:v6.cell? ⟨W.heap.size,7,none⟩=some (.slice sa c.seeds.length sc):=HY.out v6 Fv6.out 7 _ rfl
        by_cases hl:(c.seeds.length:Int)≤64
        ·have d1:decide ((c.seeds.length:Int)≤64)=true:=decide_eq_true hl
         rw [d1,Bool.true_and] at HGO
         go_wp2_with fail
         refine (containsFuncP_any 64 _ sa sc c.seeds _ (HS.out.keep (Gr.trans F1.out Fv6.out) (fun _ _ h=>h)) (HP.out _)).mono ?_
         rintro e w9 ⟨rfl,f_⟩
         have F9:=Lib.hid (Gr.trans (Gr.trans F1.out Fv6.out) f_)
         clear f_ y
         go_wp2_with fail
         go_ret
         exact ⟨by rw [HGO.out];rfl,F9.out⟩
        ·have d1:decide ((c.seeds.length:Int)≤64)=false:=decide_eq_false hl
         rw [d1,Bool.false_and] at HGO
         go_wp2_with fail
         go_ret
         exact ⟨by rw [HGO.out];rfl,Gr.trans F1.out Fv6.out⟩
theorem exec_bldOv (ρ:Operand→Value) (w:World) (dst:Option Tmp) (ty:TypeId) (pos:String) (after:Array Edge) {x0 x1:Operand} {c0 c1 c2 c3 c4 c5 c6 c7 d0 d1 d2 d3 d4 d5 d6:Value} (h0:ρ x0= .agg #[c0,c1,c2,c3,c4,c5,c6,c7]) (h1:ρ x1= .agg #[d0,d1,d2,d3,d4,d5,d6]):
  (execOp ρ ⟨dst, .build 103 #[(0,x0),(1,x1)],ty,pos,after,none⟩).run Tryz.prog w= .ok (.value (.agg #[c0,c1,c2,c3,c4,c5,c6,c7,d0,d1,d2,d3,d4,d5,d6, .int .i64 0, .int .i64 0])) w:=by simp [go_sem,h0,h1]
theorem wpList_bldOv {ops:Array Oper} {rest:List Oper} {dst:Option Tmp} {ty:TypeId} {pos:String} {after:Array Edge} {A:Act} {w:World} {Q:Exit→Act→World→Prop} {x0 x1:Operand} {c0 c1 c2 c3 c4 c5 c6 c7 d0 d1 d2 d3 d4 d5 d6:Value} (h0:A.eval x0= .agg #[c0,c1,c2,c3,c4,c5,c6,c7]) (h1:A.eval x1= .agg #[d0,d1,d2,d3,d4,d5,d6])
  (h:wpList Tryz.prog ops Q rest (A.put dst (.agg #[c0,c1,c2,c3,c4,c5,c6,c7,d0,d1,d2,d3,d4,d5,d6, .int .i64 0, .int .i64 0])) w):
  wpList Tryz.prog ops Q (⟨dst, .build 103 #[(0,x0),(1,x1)],ty,pos,after,none⟩::rest) A w:=by
 refine wpList_plain rfl fun K hK=>?_
 unfold Oper.wp
 rw [exec_bldOv A.eval w dst ty pos after h0 h1]
 exact hK _ _ h
def NewEnd (W:World) (O:Ori) (p:Value) (ds:List Int) (B:List Blk) (L:List Ow) (R:List Rw) (self:Int) (c:Cf) (e:Ending) (w':World):Prop:=
 if (cGood c&&cIn self 1 65535)=true then ∃ bo x',e= .returned (.tuple #[.pointer (some ⟨bo,0,none⟩), .int .i64 0])∧Sta W O p ds (⟨bo,(oNew self c).arr x',103⟩::B) L (orows (oNew self c) x' R) w'
 else e= .returned (.tuple #[.pointer none, .int .i64 1])∧Sta W O p ds B L R w'
theorem ovNew_any (self:Int) (c:Cf) (sa:Option Addr) (sc:Nat) (p:Value) (ds:List Int) (Wb:World) (O:Ori) (B:List Blk) (L:List Ow) (R:List Rw) (w:World) (st:Sta Wb O p ds B L (⟨sa,c.seeds.length,sc,ints c.seeds⟩::R) w):
  Calls Tryz.prog 7 #[.int .i64 self, .agg (c.arr sa sc)] w (NewEnd Wb O p ds B L R self c):=by
 obtain ⟨w1,hw1⟩:∃ w1,w1=(w.alloc (.cells #[.int .i64 self] 3)).alloc (.cells (c.arr sa sc) 44):=⟨_,rfl⟩
 obtain ⟨b0,hb0⟩:∃ b,b=w.heap.size:=⟨_,rfl⟩
 obtain ⟨b1,hb1⟩:∃ b,b=w.heap.size+1:=⟨_,rfl⟩
 have ST1:=Lib.hid (show Sta Wb O p ds (⟨b1,c.arr sa sc,44⟩::⟨b0, #[.int .i64 self],3⟩::B) L (⟨sa,c.seeds.length,sc,ints c.seeds⟩::R) w1 by rw [hw1];exact (st.box _ _ hb0).box _ _ (by rw [World.size_alloc];exact hb1))
 have HW1:=Lib.hid hw1
 have HB0:=Lib.hid hb0
 have HB1:=Lib.hid hb1
 have CG:=Lib.hid (fun w (h:SlA w sa c.seeds.length sc (ints c.seeds))=>ovGood_any c sa sc w h)
 have CI:=Lib.hid (fun w=>ovIn_any self 1 65535 w)
 clear hw1 hb0 hb1 st
 have l10:=(ST1.out.rowAt 0 rfl).le
 have l11:=(ST1.out.rowAt 0 rfl).max
 go_enter Tryz.func7,Tryz.ntmps7
 go_upto_region 1 with fail
 rw [←HW1.out, ←HB1.out, ←HB0.out]
 clear HW1 HB0 HB1
 refine wp_region_lit ?_
 refine wpList_load_mid (by rfl) 44 _ (by rfl) b1 0 (by rfl) (Array.toList (c.arr sa sc)) _ (blk_range (ST1.out.blkAt 0 rfl)) Tryz.underlying44 rfl Tryz.infoConfig ?_
 go_wp2_with fail
 refine (CG.out _ (ST1.out.rowAt 0 rfl)).mono ?_
 rintro e w2 ⟨rfl,f_⟩
 clear CG
 have ST2:=Lib.hid (show Sta Wb O p ds (⟨b1,c.arr sa sc,44⟩::⟨b0, #[.int .i64 self],3⟩::B) L (⟨sa,c.seeds.length,sc,ints c.seeds⟩::R) w2 from ST1.out.gr f_)
 clear ST1 f_
 generalize hgd:cGood c=G
 have HGD:=Lib.hid hgd
 clear hgd
 cases G
 case false=>
  go_wp2_with fail
  refine bodyPost_ret (v:= .tuple #[.pointer none, .int .i64 1]) (by simp [results,Tryz.results7,go_sem]) rfl ?_
  unfold NewEnd
  rw [if_neg (by rw [HGD.out];simp)]
  exact ⟨rfl,(ST2.out.lessB (List.Sublist.cons _ (List.Sublist.cons _ (List.Sublist.refl _)))).less (List.Sublist.refl _) (fun _ h=>List.mem_cons_of_mem _ h)⟩
 case true=>
  have y0:w2.cell? ⟨b0,0,none⟩=some (.int .i64 self):=ST2.out.cell 1 0 rfl rfl
  go_wp2_with fail
  refine (CI.out _).mono ?_
  rintro e w3 ⟨rfl,f_⟩
  clear CI y0
  have ST3:=Lib.hid (show Sta Wb O p ds (⟨b1,c.arr sa sc,44⟩::⟨b0, #[.int .i64 self],3⟩::B) L (⟨sa,c.seeds.length,sc,ints c.seeds⟩::R) w3 from ST2.out.gr f_)
  clear ST2 f_
  generalize hin:cIn self 1 65535=I
  have HIN:=Lib.hid hin
  clear hin
  cases I
  case false=>
   go_wp2_with fail
   refine bodyPost_ret (v:= .tuple #[.pointer none, .int .i64 1]) (by simp [results,Tryz.results7,go_sem]) rfl ?_
   unfold NewEnd
   rw [if_neg (by rw [HGD.out,HIN.out];simp)]
   exact ⟨rfl,(ST3.out.lessB (List.Sublist.cons _ (List.Sublist.cons _ (List.Sublist.refl _)))).less (List.Sublist.refl _) (fun _ h=>List.mem_cons_of_mem _ h)⟩
  case true=>
   have y7:w3.cell? ⟨b1,7,none⟩=some (.slice sa c.seeds.length sc):=ST3.out.cell 0 7 rfl rfl
   have hl64:c.seeds.length≤64:=by
    have h:=HGD.out
    unfold cGood at h
    simp only [Bool.and_eq_true,decide_eq_true_eq] at h
    omega
   go_upto_region 3 with fail
   go_wp2_with fail
   refine (cloneG sa sc c.seeds _ (ST3.out.rowAt 0 rfl) (by omega)).mono ?_
   rintro e w4 ⟨v,rfl,ho,f_⟩
   have ST4:=Lib.hid (show Sta Wb O p ds (⟨b1,c.arr sa sc,44⟩::⟨b0, #[.int .i64 self],3⟩::B) (⟨3,1,v,c.seeds.length,ints c.seeds⟩::L) (⟨sa,c.seeds.length,sc,ints c.seeds⟩::R) w4 from ST3.out.ownIn f_ ho)
   have HSZ:=Lib.hid (show Wb.heap.size≤w3.heap.size from ST3.out.size)
   clear f_ ho y7 ST3
   have HP:Hid (PredI 32 #[.pointer (some ⟨b0,0,none⟩)] (fun n=>n==self) (fun k=>v.ownBlock=some k) w4):=Lib.hid ⟨fun args w=>by rfl,fun x w' f=>ovNew1_any b0 self x w' (f.cell (ST4.out.cell 1 0 rfl rfl) (fun hk=>ST4.out.nbl _ (at_ 1 rfl) _ (at_ 0 rfl) hk))⟩
   go_wp2_with fail
   refine (deleteFunc_any 32 _ _ _ v c.seeds _ (ST4.out.ownAt 0 rfl) HP.out (by omega)).mono ?_
   rintro e w5 ⟨a5,c5,rfl,hs5,f5,hb5⟩
   have ST5:=Lib.hid (show Sta Wb O p ds (⟨b1,c.arr sa sc,44⟩::⟨b0, #[.int .i64 self],3⟩::B) L (⟨a5,(kept (fun n=>n==self) c.seeds).length,c5,ints (kept (fun n=>n==self) c.seeds)⟩::⟨sa,c.seeds.length,sc,ints c.seeds⟩::R) w5 from ST4.out.spend f5 hs5 hb5)
   clear f5 hs5 hb5 HP ST4
   have zf:w5.frozen? ⟨b1,7,none⟩=false:=ST5.out.froz 0 7 rfl
   have zc:w5.cell? ⟨b1,7,none⟩=some (.slice sa c.seeds.length sc):=ST5.out.cell 0 7 rfl rfl
   go_upto_region 4 with fail
   obtain ⟨w6,hw_⟩:∃ x,x=w5.setCell ⟨b1,7,none⟩ (.slice a5 (kept (fun n=>n==self) c.seeds).length c5):=⟨_,rfl⟩
   rw [←hw_]
   have ST6:=Lib.hid (show Sta Wb O p ds (⟨b1, #[.int .i64 c.active, .int .i64 c.passive, .int .i64 c.far, .int .i64 c.near, .int .i64 c.mixA, .int .i64 c.mixP, .int .i64 c.every, .slice a5 (kept (fun n=>n==self) c.seeds).length c5],44⟩::⟨b0, #[.int .i64 self],3⟩::B) L (⟨a5,(kept (fun n=>n==self) c.seeds).length,c5,ints (kept (fun n=>n==self) c.seeds)⟩::⟨sa,c.seeds.length,sc,ints c.seeds⟩::R) w6 from hw_▸ST5.out.setC 0 rfl 7 (.slice a5 (kept (fun n=>n==self) c.seeds).length c5) (Nat.le_of_ble_eq_true rfl))
   clear ST5 hw_
   clear zf zc
   have l20:=(ST6.out.rowAt 0 rfl).le
   have l21:=(ST6.out.rowAt 0 rfl).max
   have CN:=Lib.hid (fun w=>handNew_any self c.active c.passive w)
   obtain ⟨w7,hwd⟩:∃ x,x=w6.drew:=⟨_,rfl⟩
   have HWD:=Lib.hid hwd
   have ST7:=Lib.hid (show Sta Wb O p ds (⟨b1, #[.int .i64 c.active, .int .i64 c.passive, .int .i64 c.far, .int .i64 c.near, .int .i64 c.mixA, .int .i64 c.mixP, .int .i64 c.every, .slice a5 (kept (fun n=>n==self) c.seeds).length c5],44⟩::⟨b0, #[.int .i64 self],3⟩::B) L (⟨a5,(kept (fun n=>n==self) c.seeds).length,c5,ints (kept (fun n=>n==self) c.seeds)⟩::⟨sa,c.seeds.length,sc,ints c.seeds⟩::R) w7 from hwd▸ST6.out.gr ((Fr.refl _ _).drew))
   clear ST6 hwd
   haveI:Nonempty (WC (fun w=>w.heap[b1]?=some (.cells (#[.int .i64 c.active, .int .i64 c.passive, .int .i64 c.far, .int .i64 c.near, .int .i64 c.mixA, .int .i64 c.mixP, .int .i64 c.every, .slice a5 (kept (fun n=>n==self) c.seeds).length c5]) 44 (0,0))∧w.cell? ⟨b1,0,none⟩=some (.int .i64 c.active)∧w.cell? ⟨b1,1,none⟩=some (.int .i64 c.passive)∧w.cell? ⟨b0,0,none⟩=some (.int .i64 self))):=⟨⟨w7,⟨ST7.out.blkAt 0 rfl,ST7.out.cell 0 0 rfl rfl,ST7.out.cell 0 1 rfl rfl,ST7.out.cell 1 0 rfl rfl⟩⟩⟩
   have za:∀ z:WC (fun w=>w.heap[b1]?=some (.cells (#[.int .i64 c.active, .int .i64 c.passive, .int .i64 c.far, .int .i64 c.near, .int .i64 c.mixA, .int .i64 c.mixP, .int .i64 c.every, .slice a5 (kept (fun n=>n==self) c.seeds).length c5]) 44 (0,0))∧w.cell? ⟨b1,0,none⟩=some (.int .i64 c.active)∧w.cell? ⟨b1,1,none⟩=some (.int .i64 c.passive)∧w.cell? ⟨b0,0,none⟩=some (.int .i64 self)),z.val.cell? ⟨b1,0,none⟩=some (.int .i64 c.active):=fun z=>z.ok.2.1
   have zb:∀ z:WC (fun w=>w.heap[b1]?=some (.cells (#[.int .i64 c.active, .int .i64 c.passive, .int .i64 c.far, .int .i64 c.near, .int .i64 c.mixA, .int .i64 c.mixP, .int .i64 c.every, .slice a5 (kept (fun n=>n==self) c.seeds).length c5]) 44 (0,0))∧w.cell? ⟨b1,0,none⟩=some (.int .i64 c.active)∧w.cell? ⟨b1,1,none⟩=some (.int .i64 c.passive)∧w.cell? ⟨b0,0,none⟩=some (.int .i64 self)),z.val.cell? ⟨b1,1,none⟩=some (.int .i64 c.passive):=fun z=>z.ok.2.2.1
   have zs:∀ z:WC (fun w=>w.heap[b1]?=some (.cells (#[.int .i64 c.active, .int .i64 c.passive, .int .i64 c.far, .int .i64 c.near, .int .i64 c.mixA, .int .i64 c.mixP, .int .i64 c.every, .slice a5 (kept (fun n=>n==self) c.seeds).length c5]) 44 (0,0))∧w.cell? ⟨b1,0,none⟩=some (.int .i64 c.active)∧w.cell? ⟨b1,1,none⟩=some (.int .i64 c.passive)∧w.cell? ⟨b0,0,none⟩=some (.int .i64 self)),z.val.cell? ⟨b0,0,none⟩=some (.int .i64 self):=fun z=>z.ok.2.2.2
   refine wp_region_plan [6,7,8,9,10] (Plan.seq [0,1,2,3,4,5,6,7,8,9,10] .done) (fun w'=>∃ z:WC (fun w=>w.heap[b1]?=some (.cells (#[.int .i64 c.active, .int .i64 c.passive, .int .i64 c.far, .int .i64 c.near, .int .i64 c.mixA, .int .i64 c.mixP, .int .i64 c.every, .slice a5 (kept (fun n=>n==self) c.seeds).length c5]) 44 (0,0))∧w.cell? ⟨b1,0,none⟩=some (.int .i64 c.active)∧w.cell? ⟨b1,1,none⟩=some (.int .i64 c.passive)∧w.cell? ⟨b0,0,none⟩=some (.int .i64 self)),w'=z.val) (by kernel_rfl) (by kernel_rfl) (fun c a w d v h=>by cases d<;>exact h) (fun c a w d v h=>by cases d<;>exact h) (by rw [←HWD.out];exact ⟨⟨w7,⟨ST7.out.blkAt 0 rfl,ST7.out.cell 0 0 rfl rfl,ST7.out.cell 0 1 rfl rfl,ST7.out.cell 1 0 rfl rfl⟩⟩,rfl⟩) ?_
   rw [←HWD.out]
   clear HWD
   refine wpV_q (by simp only [gtA,gtZ]<;>rfl) (by rfl) (by rfl) ?_
   refine wpQuiet_loadH (by rfl) 44 _ (by rfl) b1 0 (by rfl) (Array.toList (#[.int .i64 c.active, .int .i64 c.passive, .int .i64 c.far, .int .i64 c.near, .int .i64 c.mixA, .int .i64 c.mixP, .int .i64 c.every, .slice a5 (kept (fun n=>n==self) c.seeds).length c5])) _ (fun w ⟨z,hz⟩=>hz▸blk_range z.ok.1) Tryz.underlying44 rfl Tryz.infoConfig ?_
   refine wpQuiet_nil ?_
   simp only [Act.put,List.setIfInBounds_toArray,List.set_cons_succ,List.set_cons_zero]
   refine wpV_q (by simp only [gtA,gtS,gtZ]<;>rfl) (by rfl) (by rfl) ?_
   go_big_quiet_step (fail)
   refine wpQuiet_nil ?_
   refine wpV_q (by simp only [gtA,gtS,gtZ]<;>rfl) (by rfl) (by rfl) ?_
   go_big_quiet_step (fail)
   refine wpQuiet_nil ?_
   refine wpV_q (by simp only [gtA,gtS,gtZ]<;>rfl) (by rfl) (by rfl) ?_
   go_big_quiet_step (fail)
   refine wpQuiet_nil ?_
   refine wpV_q (by simp only [gtA,gtS,gtZ]<;>rfl) (by rfl) (by rfl) ?_
   go_big_quiet_step (fail)
   refine wpQuiet_nil ?_
   refine wpV_q (by simp only [gtA,gtS,gtZ]<;>rfl) (by rfl) (by rfl) ?_
   go_big_quiet_step (fail)
   refine wpQuiet_nil ?_
   refine wpV_e (by simp only [gtA,gtS,gtZ]<;>rfl) (by rfl) ?_
   go_wp2_with fail
   refine (CN.out _).mono ?_
   rintro e w8 ⟨rfl,f_⟩
   have ST8:=Lib.hid (show Sta Wb O p ds (⟨b1, #[.int .i64 c.active, .int .i64 c.passive, .int .i64 c.far, .int .i64 c.near, .int .i64 c.mixA, .int .i64 c.mixP, .int .i64 c.every, .slice a5 (kept (fun n=>n==self) c.seeds).length c5],44⟩::⟨b0, #[.int .i64 self],3⟩::B) L (⟨a5,(kept (fun n=>n==self) c.seeds).length,c5,ints (kept (fun n=>n==self) c.seeds)⟩::⟨sa,c.seeds.length,sc,ints c.seeds⟩::R) w8 from ST7.out.gr f_)
   clear ST7 f_
   go_wp2_with fail
   refine ⟨⟨⟨w8,⟨ST8.out.blkAt 0 rfl,ST8.out.cell 0 0 rfl rfl,ST8.out.cell 0 1 rfl rfl,ST8.out.cell 1 0 rfl rfl⟩⟩,rfl⟩,?_⟩
   refine wpV_e (by simp only [gtA,gtS,gtZ]<;>rfl) (by rfl) ?_
   refine wpList_bldOv (by rfl) (by rfl) ?_
   refine wpList_nil ?_
   refine ⟨⟨⟨w8,⟨ST8.out.blkAt 0 rfl,ST8.out.cell 0 0 rfl rfl,ST8.out.cell 0 1 rfl rfl,ST8.out.cell 1 0 rfl rfl⟩⟩,rfl⟩,?_⟩
   simp only [Act.put,List.setIfInBounds_toArray,List.set_cons_succ,List.set_cons_zero]
   refine wpV_e (by simp only [gtA,gtS,gtZ]<;>rfl) (by rfl) ?_
   go_wp2_with fail
   obtain ⟨w9,hw_⟩:∃ x,x=w8.alloc (.cells #[.int .i64 c.active, .int .i64 c.passive, .int .i64 c.far, .int .i64 c.near, .int .i64 c.mixA, .int .i64 c.mixP, .int .i64 c.every, .slice a5 (kept (fun n=>n==self) c.seeds).length c5, .int .i64 (hNew self c.active c.passive).v.self, .slice hdNone.x.aa (hNew self c.active c.passive).v.act.length hdNone.x.ac, .int .i64 (hNew self c.active c.passive).v.am, .slice hdNone.x.pa (hNew self c.active c.passive).v.pas.length hdNone.x.pc, .int .i64 (hNew self c.active c.passive).v.pm, .slice hdNone.ka (hNew self c.active c.passive).asked.length hdNone.kc, .int .i64 64, .int .i64 0, .int .i64 0] 103):=⟨_,rfl⟩
   obtain ⟨bo,hb_⟩:∃ b,b=w8.heap.size:=⟨_,rfl⟩
   rw [←hw_, ←hb_]
   have ST9:=Lib.hid (show Sta Wb O p ds (⟨bo, #[.int .i64 c.active, .int .i64 c.passive, .int .i64 c.far, .int .i64 c.near, .int .i64 c.mixA, .int .i64 c.mixP, .int .i64 c.every, .slice a5 (kept (fun n=>n==self) c.seeds).length c5, .int .i64 (hNew self c.active c.passive).v.self, .slice hdNone.x.aa (hNew self c.active c.passive).v.act.length hdNone.x.ac, .int .i64 (hNew self c.active c.passive).v.am, .slice hdNone.x.pa (hNew self c.active c.passive).v.pas.length hdNone.x.pc, .int .i64 (hNew self c.active c.passive).v.pm, .slice hdNone.ka (hNew self c.active c.passive).asked.length hdNone.kc, .int .i64 64, .int .i64 0, .int .i64 0],103⟩::⟨b1, #[.int .i64 c.active, .int .i64 c.passive, .int .i64 c.far, .int .i64 c.near, .int .i64 c.mixA, .int .i64 c.mixP, .int .i64 c.every, .slice a5 (kept (fun n=>n==self) c.seeds).length c5],44⟩::⟨b0, #[.int .i64 self],3⟩::B) L (⟨a5,(kept (fun n=>n==self) c.seeds).length,c5,ints (kept (fun n=>n==self) c.seeds)⟩::⟨sa,c.seeds.length,sc,ints c.seeds⟩::R) w9 from hw_▸ST8.out.box _ _ hb_)
   clear ST8 hw_ hb_
   refine ⟨⟨⟨w9,⟨ST9.out.blkAt 1 rfl,ST9.out.cell 1 0 rfl rfl,ST9.out.cell 1 1 rfl rfl,ST9.out.cell 2 0 rfl rfl⟩⟩,rfl⟩,?_⟩
   refine wpV_e (by simp only [gtA,gtS,gtZ]<;>rfl) (by rfl) ?_
   go_wp2_with fail
   refine ⟨⟨⟨w9,⟨ST9.out.blkAt 1 rfl,ST9.out.cell 1 0 rfl rfl,ST9.out.cell 1 1 rfl rfl,ST9.out.cell 2 0 rfl rfl⟩⟩,rfl⟩,?_⟩
   refine wpV_e (by simp only [gtA,gtS,gtZ]<;>rfl) (by rfl) ?_
   go_wp2_with fail
   refine ⟨⟨⟨w9,⟨ST9.out.blkAt 1 rfl,ST9.out.cell 1 0 rfl rfl,ST9.out.cell 1 1 rfl rfl,ST9.out.cell 2 0 rfl rfl⟩⟩,rfl⟩,?_⟩
   refine wpV_done ?_
   clear za zb zs this CN
   go_wp2_with fail
   refine bodyPost_ret (v:= .tuple #[.pointer (some ⟨bo,0,none⟩), .int .i64 0]) (by simp [results,Tryz.results7,go_sem]) rfl ?_
   unfold NewEnd
   rw [if_pos (by rw [HGD.out,HIN.out];rfl)]
   have hN:=((ST9.out.addNil (r:=⟨none,0,0,[]⟩) rfl (Nat.le_refl _) (Nat.zero_le _)).addNil (r:=⟨none,0,0,[]⟩) rfl (Nat.le_refl _) (Nat.zero_le _)).addNil (r:=⟨none,0,0,[]⟩) rfl (Nat.le_refl _) (Nat.zero_le _)
   exact ⟨bo,⟨a5,c5,hdNone⟩,rfl,(hN.lessB (List.Sublist.cons_cons _ (List.Sublist.cons _ (List.Sublist.cons _ (List.Sublist.refl _))))).less (List.Sublist.refl _) (inC (at_ 3 rfl) (inC (at_ 0 rfl) (inC (at_ 1 rfl) (inC (at_ 2 rfl) (fun _ h=>List.mem_cons_of_mem _ (List.mem_cons_of_mem _ (List.mem_cons_of_mem _ (List.mem_cons_of_mem _ (List.mem_cons_of_mem _ h)))))))))⟩
end
end Go.Proofs.YtelepohdfcjnfaaGreat
