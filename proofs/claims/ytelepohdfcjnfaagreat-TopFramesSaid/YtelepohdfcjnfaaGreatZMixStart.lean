/-
  Messages that carry nodes only.
-/
import Derived.Test.YtelepohdfcjnfaaGreatZView
import Derived.Deep.CutBlock
import Derived.Deep.CutRange
import Derived.Test.YtelepohdfcjnfaaGreatZMixSmp
namespace Go.Proofs.YtelepohdfcjnfaaGreat
set_option maxHeartbeats 4000000
set_option maxRecDepth 100000
section
open Go.RowKit Go.Proofs
structure Mq where
 kind:Int
 node:Int
 walk:Int
 high:Bool
 nodes:List Int
abbrev Mq.arr (m:Mq) (a:Option Addr) (c:Nat):Array Value:= #[.int .i64 m.kind, .int .i64 m.node, .int .i64 m.walk, .bool m.high, .slice a m.nodes.length c, .slice none 0 0, .slice none 0 0]
end
section
open Go.RowKit Go.Proofs
abbrev outArr (tn:Int) (m:Mq) (a:Option Addr) (c:Nat):Array Value:= #[.int .i64 tn, .int .i64 m.kind, .int .i64 m.node, .int .i64 m.walk, .bool m.high, .slice a m.nodes.length c, .slice none 0 0, .slice none 0 0]
theorem Tryz.infoMsg7:(Tryz.prog.info? 76).map (·.size)=some 7:=by kernel_rfl
theorem exec_bldMsg (ρ:Operand→Value) (w:World) (dst:Option Tmp) (ty:TypeId) (pos:String) (after:Array Edge) {x0 x1 x2 x4:Operand} {i0 i1 i2:Int} {sa:Option Addr} {sn sc:Nat} (h0:ρ x0= .int .i64 i0) (h1:ρ x1= .int .i64 i1) (h2:ρ x2= .int .i64 i2) (h4:ρ x4= .slice sa sn sc):
  (execOp ρ ⟨dst, .build 76 #[(0,x0),(1,x1),(2,x2),(4,x4)],ty,pos,after,none⟩).run Tryz.prog w= .ok (.value (.agg #[.int .i64 i0, .int .i64 i1, .int .i64 i2, .bool false, .slice sa sn sc, .slice none 0 0, .slice none 0 0])) w:=by simp [go_sem,h0,h1,h2,h4]
theorem wpList_bldMsg {ops:Array Oper} {rest:List Oper} {dst:Option Tmp} {ty:TypeId} {pos:String} {after:Array Edge} {A:Act} {w:World} {Q:Exit→Act→World→Prop} {x0 x1 x2 x4:Operand} {i0 i1 i2:Int} {sa:Option Addr} {sn sc:Nat} (h0:A.eval x0= .int .i64 i0) (h1:A.eval x1= .int .i64 i1) (h2:A.eval x2= .int .i64 i2) (h4:A.eval x4= .slice sa sn sc)
  (h:wpList Tryz.prog ops Q rest (A.put dst (.agg #[.int .i64 i0, .int .i64 i1, .int .i64 i2, .bool false, .slice sa sn sc, .slice none 0 0, .slice none 0 0])) w):
  wpList Tryz.prog ops Q (⟨dst, .build 76 #[(0,x0),(1,x1),(2,x2),(4,x4)],ty,pos,after,none⟩::rest) A w:=by
 refine wpList_plain rfl fun K hK=>?_
 unfold Oper.wp
 rw [exec_bldMsg A.eval w dst ty pos after h0 h1 h2 h4]
 exact hK _ _ h
theorem exec_bldOut (ρ:Operand→Value) (w:World) (dst:Option Tmp) (ty:TypeId) (pos:String) (after:Array Edge) {x0 x1:Operand} {i0:Int} {c0 c1 c2 c3 c4 c5 c6:Value} (h0:ρ x0= .int .i64 i0) (h1:ρ x1= .agg #[c0,c1,c2,c3,c4,c5,c6]):
  (execOp ρ ⟨dst, .build 81 #[(0,x0),(1,x1)],ty,pos,after,none⟩).run Tryz.prog w= .ok (.value (.agg #[.int .i64 i0,c0,c1,c2,c3,c4,c5,c6])) w:=by simp [go_sem,h0,h1]
theorem wpList_bldOut {ops:Array Oper} {rest:List Oper} {dst:Option Tmp} {ty:TypeId} {pos:String} {after:Array Edge} {A:Act} {w:World} {Q:Exit→Act→World→Prop} {x0 x1:Operand} {i0:Int} {c0 c1 c2 c3 c4 c5 c6:Value} (h0:A.eval x0= .int .i64 i0) (h1:A.eval x1= .agg #[c0,c1,c2,c3,c4,c5,c6])
  (h:wpList Tryz.prog ops Q rest (A.put dst (.agg #[.int .i64 i0,c0,c1,c2,c3,c4,c5,c6])) w):
  wpList Tryz.prog ops Q (⟨dst, .build 81 #[(0,x0),(1,x1)],ty,pos,after,none⟩::rest) A w:=by
 refine wpList_plain rfl fun K hK=>?_
 unfold Oper.wp
 rw [exec_bldOut A.eval w dst ty pos after h0 h1]
 exact hK _ _ h
theorem exec_bldOuts (ρ:Operand→Value) (w:World) (dst:Option Tmp) (ty:TypeId) (pos:String) (after:Array Edge) {x0:Operand} {c0 c1 c2 c3 c4 c5 c6 c7:Value} (h0:ρ x0= .agg #[c0,c1,c2,c3,c4,c5,c6,c7]):
  (execOp ρ ⟨dst, .buildSlice 53 1 #[(0,x0)],ty,pos,after,none⟩).run Tryz.prog w= .ok (.value (.slice (some ⟨w.heap.size,0,none⟩) 1 1)) (w.alloc (.cells #[c0,c1,c2,c3,c4,c5,c6,c7] 81)):=by
 simp [go_sem,h0]
theorem wpList_bldOuts {ops:Array Oper} {rest:List Oper} {dst:Option Tmp} {ty:TypeId} {pos:String} {after:Array Edge} {A:Act} {w:World} {Q:Exit→Act→World→Prop} {x0:Operand} {c0 c1 c2 c3 c4 c5 c6 c7:Value} (h0:A.eval x0= .agg #[c0,c1,c2,c3,c4,c5,c6,c7])
  (h:wpList Tryz.prog ops Q rest (A.put dst (.slice (some ⟨w.heap.size,0,none⟩) 1 1)) (w.alloc (.cells #[c0,c1,c2,c3,c4,c5,c6,c7] 81))):
  wpList Tryz.prog ops Q (⟨dst, .buildSlice 53 1 #[(0,x0)],ty,pos,after,none⟩::rest) A w:=by
 refine wpList_plain rfl fun K hK=>?_
 unfold Oper.wp
 rw [exec_bldOuts A.eval w dst ty pos after h0]
 exact hK _ _ h
theorem sla_lt_ne {w:World} {a:Option Addr} {n cap:Nat} {l:List Int} (h:SlA w a n cap (ints l)) (hl:l≠[]):∀ q,a=some q→q.block<w.heap.size:=by
 intro q hq
 cases l with
 | nil=>exact absurd rfl hl
 | cons x r=>
  obtain ⟨b,o,e,hc⟩:=h.cell 0 (.int .i64 x) rfl
  rw [hq] at e
  cases e
  exact lt_of_cell hc
def OneOut (p:Value) (tn:Int) (m:Mq) (ds':List Int) (W:World) (e:Ending) (w':World):Prop:=
 ∃ g a c,e= .returned (.slice (some ⟨g,0,none⟩) 1 1)∧W.heap.size≤g∧w'.heap[g]?=some (.cells (outArr tn m a c) 81 (0,0))∧SlA w' a m.nodes.length c (ints m.nodes)∧(∀ q,a=some q→W.heap.size≤q.block∧(m.nodes≠[]→q.block<g))∧DrawV w' p ds'∧Fr (pblk p) W w'
def StartEnd (p:Value) (v:Vw) (sa sp left:Int) (ds:List Int) (W:World) (e:Ending) (w':World):Prop:=
 if v.act=[] then e= .returned (.slice none 0 0)∧DrawV w' p ds∧Fr (pblk p) W w'
 else OneOut p (oneV ds v.act).1 ⟨7,v.self,min (max left 0) 15,false,(mixS v sa sp (oneV ds v.act).2.2).1⟩ (mixS v sa sp (oneV ds v.act).2.2).2 W e w'
theorem mixStart_any (v:Vw) (x:VwP) (sa sp left:Int) (p:Value) (ds:List Int) (W:World) (h:VwAt W v x) (hd:DrawV W p ds) (hsep:VwSep p v x) (hsa: -9223372036854775808≤sa∧sa≤9223372036854775807) (hsp: -9223372036854775808≤sp∧sp≤9223372036854775807):
  Calls Tryz.prog 36 #[v.val x, .agg #[.int .i64 sa, .int .i64 sp], .int .i64 left,p] W (StartEnd p v sa sp left ds W):=by
 obtain ⟨w1,hw1⟩:∃ w1,w1=(W.alloc (.cells (v.arr x) 60)).alloc (.cells #[.int .i64 sa, .int .i64 sp] 111):=⟨_,rfl⟩
 have f1:Gr W w1:=by rw [hw1];exact ((Fr.refl _ _).alloc _).alloc _
 have V1:=Lib.hid (show w1.heap[W.heap.size]?=some (.cells (v.arr x) 60 (0,0)) by rw [hw1,heap_alloc_if,if_neg (by simp),heap_alloc_if,if_pos rfl])
 have R1:=Lib.hid (show w1.heap[W.heap.size+1]?=some (.cells #[.int .i64 sa, .int .i64 sp] 111 (0,0)) by rw [hw1,heap_alloc_if,if_pos (by simp)])
 have hs1:W.heap.size+2=w1.heap.size:=by rw [hw1];simp
 have F1:=Lib.hid f1
 have HW:=Lib.hid hw1
 have H1:=Lib.hid (h.gr f1)
 have D1:=Lib.hid (hd.keep f1)
 have HP:=Lib.hid hd.lt
 have HS:=Lib.hid hsep
 have HR:=Lib.hid hd.range
 have CA:=Lib.hid (setAll_any x.aa x.ac v.act v.am w1 H1.out.act H1.out.good.act)
 have l1:=h.act.le
 have l2:=h.act.max
 have l3:=h.pas.le
 have l4:=h.pas.max
 clear hw1 f1 h hd hsep
 have CO:=Lib.hid (fun a c w (hD:DrawV w p ds) (hs:SlA w a v.act.length c (ints v.act)) (hne:∀ q,a=some q→¬ pblk p q.block)=>oneInt_any p ds a c v.act w hD hs hne)
 unfold OneEnd at CO
 go_enter Tryz.func36,Tryz.ntmps36
 go_upto_region 1 with fail
 rw [←HW.out]
 clear HW
 have y1:=(Bx.of_block V1.out) 1 _ rfl
 have y2:=(Bx.of_block V1.out) 2 _ rfl
 go_wp2_with fail
 refine CA.out.mono ?_
 rintro e w2 ⟨vv,rfl,ho,hb⟩
 obtain ⟨a4,c4,rfl,h4,h4p, -⟩:=SlA.of_own ho
 have g2:=Gr.of_below hb
 have F2:=Lib.hid g2
 have D2:=Lib.hid (D1.out.keep g2)
 have H4:=Lib.hid h4
 have H4P:=Lib.hid (show ∀ q,a4=some q→¬ pblk p q.block from fun q hq hk=>by have:=(h4p q hq).1;have:=HP.out _ hk;omega)
 clear ho hb h4 h4p g2 CA y1 y2 D1
 go_wp2_with fail
 refine (CO.out a4 c4 w2 D2.out H4.out H4P.out).mono ?_
 rintro e w3 ⟨rfl,d3,f3⟩
 have F3:=Lib.hid (show Fr (pblk p) w1 w3 from Fr.trans (Fr.mono (T:=pblk p) F2.out (fun _ _ h=>h.elim)) f3 (fun _ h=> .inl h))
 have D3:=Lib.hid d3
 clear d3 f3 F2 D2 H4 H4P CO
 by_cases he:v.act=[]
 ·have hb:(oneV ds v.act).2.1=false:=by unfold oneV;rw [if_pos he]
  have hd:(oneV ds v.act).2.2=ds:=by unfold oneV;rw [if_pos he]
  rw [hd] at D3
  rw [hb]
  have HE:=Lib.hid he
  clear he hb hd
  go_wp2_with fail
  go_ret
  unfold StartEnd
  rw [if_pos HE.out]
  exact ⟨rfl,D3.out,Fr.trans (Fr.mono (T:=pblk p) F1.out (fun _ _ h=>h.elim)) F3.out (fun _ h=> .inl h)⟩
 ·have hb:(oneV ds v.act).2.1=true:=(oneV_mem HR.out he).2
  rw [hb]
  have HE:=Lib.hid he
  clear hb he
  have CS:=Lib.hid (fun w (f:Fr (pblk p) w1 w) (hD:DrawV w p (oneV ds v.act).2.2)=>mixSample_any v x sa sp p (oneV ds v.act).2.2 w (H1.out.drawn HS.out f) hD HS.out hsa hsp)
  unfold RowP at CS
  have HG:Hid (StartEnd p v sa sp left ds W=OneOut p (oneV ds v.act).1 ⟨7,v.self,min (max left 0) 15,false,(mixS v sa sp (oneV ds v.act).2.2).1⟩ (mixS v sa sp (oneV ds v.act).2.2).2 W):=Lib.hid (by funext e w';unfold StartEnd;rw [if_neg HE.out])
  generalize (oneV ds v.act).1=tn at HG ⊢
  generalize (oneV ds v.act).2.2=d2 at HG CS D3
  generalize (mixS v sa sp d2).1=T at HG CS
  generalize (mixS v sa sp d2).2=d3 at HG CS
  go_upto_region 4 with fail
  clear HE
  haveI:Nonempty (WC (Fr (pblk p) w1)):=⟨⟨w3,F3.out⟩⟩
  have z0:∀ z':WC (Fr (pblk p) w1),z'.val.cell? ⟨W.heap.size,0,none⟩=some (.int .i64 v.self):=fun z'=>z'.ok.cell ((Bx.of_block V1.out) 0 _ rfl) (fun hk=>by have:=HP.out _ hk;simp only at this;omega)
  have z1:∀ z':WC (Fr (pblk p) w1),z'.val.cell? ⟨W.heap.size,1,none⟩=some (.slice x.aa v.act.length x.ac):=fun z'=>z'.ok.cell ((Bx.of_block V1.out) 1 _ rfl) (fun hk=>by have:=HP.out _ hk;simp only at this;omega)
  have z2:∀ z':WC (Fr (pblk p) w1),z'.val.cell? ⟨W.heap.size,2,none⟩=some (.int .i64 v.am):=fun z'=>z'.ok.cell ((Bx.of_block V1.out) 2 _ rfl) (fun hk=>by have:=HP.out _ hk;simp only at this;omega)
  have z3:∀ z':WC (Fr (pblk p) w1),z'.val.cell? ⟨W.heap.size,3,none⟩=some (.slice x.pa v.pas.length x.pc):=fun z'=>z'.ok.cell ((Bx.of_block V1.out) 3 _ rfl) (fun hk=>by have:=HP.out _ hk;simp only at this;omega)
  have z4:∀ z':WC (Fr (pblk p) w1),z'.val.cell? ⟨W.heap.size,4,none⟩=some (.int .i64 v.pm):=fun z'=>z'.ok.cell ((Bx.of_block V1.out) 4 _ rfl) (fun hk=>by have:=HP.out _ hk;simp only at this;omega)
  have s0:∀ z':WC (Fr (pblk p) w1),z'.val.cell? ⟨W.heap.size+1,0,none⟩=some (.int .i64 sa):=fun z'=>z'.ok.cell ((Bx.of_block R1.out) 0 _ rfl) (fun hk=>by have:=HP.out _ hk;simp only at this;omega)
  have s1:∀ z':WC (Fr (pblk p) w1),z'.val.cell? ⟨W.heap.size+1,1,none⟩=some (.int .i64 sp):=fun z'=>z'.ok.cell ((Bx.of_block R1.out) 1 _ rfl) (fun hk=>by have:=HP.out _ hk;simp only at this;omega)
  refine wp_region_lastO 13 [9,10,11,12] [] [0,1,2,3,4,5,6,7,8,9,10,11,12] (fun w'=>∃ z':WC (Fr (pblk p) w1),w'=z'.val) (by kernel_rfl) (by kernel_rfl) (fun c a w d v h=>by cases d<;>exact h) (fun c a w d v h=>by cases d<;>exact h) ⟨⟨w3.drew,F3.out.drew⟩,rfl⟩ ?_
  simp only [List.take]
  refine wpT_q (by simp only [gtA,gtZ]<;>rfl) (by rfl) (by rfl) ?_
  go_big_quiet_step (fail)
  refine wpQuiet_nil ?_
  repeat (refine wpT_q (by simp only [gtA,gtS,gtZ]<;>rfl) (by rfl) (by rfl) ?_;go_big_quiet_step (fail);refine wpQuiet_nil ?_)
  refine wpT_e (by simp only [gtA,gtS,gtZ]<;>rfl) (by rfl) ?_
  go_wp2_with fail
  refine (CS.out _ F3.out.drew (D3.out.keep ((Fr.refl _ _).drew))).mono ?_
  rintro e w5 ⟨aT,cT,rfl,hT,hTn,d5,f5⟩
  have HTN:=Lib.hid (fun q (hq:aT=some q)=>show W.heap.size≤q.block by have h1:=hTn q hq;have h2:=F3.out.size;simp only [World.size_drew] at h1;omega)
  have F5:=Lib.hid (Fr.trans F3.out.drew f5 (fun _ h=> .inl h))
  have D5:=Lib.hid d5
  have HT:=Lib.hid hT
  have t1:=hT.le
  have t2:=hT.max
  clear hT hTn d5 f5 CS F3 D3 z0 z1 z2 z3 z4 s0 s1
  go_wp2_with fail
  refine ⟨⟨⟨w5,F5.out⟩,rfl⟩,?_⟩
  refine wpT_e (by simp only [gtA,gtS,gtZ]<;>rfl) (by rfl) ?_
  refine wpList_bldMsg (i0:=7) (i1:=v.self) (i2:=min (max left 0) 15) (sa:=aT) (sn:=T.length) (sc:=cT) (by rfl) (by rfl) (by rfl) (by rfl) ?_
  refine wpList_nil ?_
  refine ⟨⟨⟨w5,F5.out⟩,rfl⟩,?_⟩
  simp only [Act.put,List.setIfInBounds_toArray,List.set_cons_succ,List.set_cons_zero]
  refine wpT_e (by simp only [gtA,gtS,gtZ]<;>rfl) (by rfl) ?_
  refine wpList_bldOut (i0:=tn) (by rfl) (by rfl) ?_
  refine wpList_nil ?_
  refine ⟨⟨⟨w5,F5.out⟩,rfl⟩,?_⟩
  simp only [Act.put,List.setIfInBounds_toArray,List.set_cons_succ,List.set_cons_zero]
  refine wpT_e (by simp only [gtA,gtS,gtZ]<;>rfl) (by rfl) ?_
  refine wpList_bldOuts (by rfl) ?_
  refine wpList_nil ?_
  obtain ⟨w6,hw6⟩:∃ w6,w6=w5.alloc (.cells (outArr tn ⟨7,v.self,min (max left 0) 15,false,T⟩ aT cT) 81):=⟨_,rfl⟩
  have g6:Gr w5 w6:=by rw [hw6];exact (Fr.refl _ _).alloc _
  have B6:=Lib.hid (show w6.heap[w5.heap.size]?=some (.cells (outArr tn ⟨7,v.self,min (max left 0) 15,false,T⟩ aT cT) 81 (0,0)) by rw [hw6,heap_alloc_if,if_pos rfl])
  have F6:=Lib.hid (Fr.trans F5.out g6 (fun _ h=>h.elim))
  have D6:=Lib.hid (D5.out.keep g6)
  have T6:=Lib.hid (HT.out.keep g6 (fun _ _ h=>h))
  have HTL:=Lib.hid (fun (hne:T≠[]) q (hq:aT=some q)=>sla_lt_ne HT.out hne q hq)
  have hs5:=F5.out.size
  rw [←hw6]
  clear hw6 g6 F5 D5 HT
  refine ⟨⟨⟨w6,F6.out⟩,rfl⟩,?_⟩
  clear this
  simp only [Act.put,List.setIfInBounds_toArray,List.set_cons_succ,List.set_cons_zero]
  refine wpT_nil ?_
  simp only [lastQ,List.drop]
  go_wp2_with fail
  go_ret
  rw [HG.out]
  exact ⟨w5.heap.size,aT,cT,rfl,by omega,B6.out,T6.out,fun q hq=>⟨HTN.out q hq,fun hne=>HTL.out hne q hq⟩,D6.out,Fr.trans (Fr.mono (T:=pblk p) F1.out (fun _ _ h=>h.elim)) F6.out (fun _ h=> .inl h)⟩
end
end Go.Proofs.YtelepohdfcjnfaaGreat
