/-
  Package hand: words, say, emptied, New, Ask (printed by gen_hand.py).
-/
import Derived.Test.YtelepohdfcjnfaaGreatZSta
import Derived.Test.YtelepohdfcjnfaaGreatZPairLaw
import Derived.Test.YtelepohdfcjnfaaGreatZRegionW
namespace Go.Proofs.YtelepohdfcjnfaaGreat
set_option maxHeartbeats 4000000
set_option maxRecDepth 100000
open Go.RowKit Go.Proofs
structure HdP where
 x:VwP
 ka:Option Addr
 kc:Nat
abbrev Hd.arr (h:Hd) (x:HdP):Array Value:= #[.int .i64 h.v.self, .slice x.x.aa h.v.act.length x.x.ac, .int .i64 h.v.am, .slice x.x.pa h.v.pas.length x.x.pc, .int .i64 h.v.pm, .slice x.ka h.asked.length x.kc, .int .i64 64]
abbrev hrows (h:Hd) (x:HdP) (R:List Rw):List Rw:=vrows h.v x.x (⟨x.ka,h.asked.length,x.kc,ints h.asked⟩::R)
abbrev handZ:Array Value:= #[.int .i64 0, .slice none 0 0, .int .i64 0, .slice none 0 0, .int .i64 0, .slice none 0 0, .int .i64 0]
theorem Tryz.zeroHand:(Tryz.prog.info? 100).map (fun i=>(i.zero,i.size))=some (some (.agg handZ),7):=by kernel_rfl
theorem Tryz.infoHand:(Tryz.prog.info? 100).map (·.size)=some 7:=by kernel_rfl
abbrev Ho.arr (x:Ho):Array Value:= #[.int .i64 x.who, .int .i64 x.kind, .int .i64 0, .int .i64 0, .bool x.high, .slice none 0 0, .slice none 0 0, .slice none 0 0]
def Ho.cells (x:Ho):List Value:=[.int .i64 x.who, .int .i64 x.kind, .int .i64 0, .int .i64 0, .bool x.high, .slice none 0 0, .slice none 0 0, .slice none 0 0]
abbrev houts (l:List Ho):List Value:=l.flatMap Ho.cells
abbrev outZ:Array Value:= #[.int .i64 0, .int .i64 0, .int .i64 0, .int .i64 0, .bool false, .slice none 0 0, .slice none 0 0, .slice none 0 0]
theorem Tryz.zeroOutH:(Tryz.prog.info? 81).map (fun i=>(i.zero,i.size))=some (some (.agg outZ),8):=by kernel_rfl
theorem Tryz.infoOutH:(Tryz.prog.info? 81).map (·.size)=some 8:=by kernel_rfl
def HEnd (W:World) (O:Ori) (p:Value) (ds':List Int) (h':Hd) (o:List Ho) (r:Array Value→Value→Value) (e:Ending) (w':World):Prop:=
 ∃ x' ov,e= .returned (r (h'.arr x') ov)∧Sta W O p ds' [] [⟨81,8,ov,o.length,houts o⟩] (hrows h' x' []) w'∧h'.Good
def HEnd0 (W:World) (O:Ori) (p:Value) (ds':List Int) (h':Hd) (r:Array Value→Value) (e:Ending) (w':World):Prop:=
 ∃ x',e= .returned (r (h'.arr x'))∧Sta W O p ds' [] [] (hrows h' x' []) w'∧h'.Good
theorem exec_bldKind (ρ:Operand→Value) (w:World) (dst:Option Tmp) (ty:TypeId) (pos:String) (after:Array Edge) {x0:Operand} {i0:Int} (h0:ρ x0= .int .i64 i0):
  (execOp ρ ⟨dst, .build 76 #[(0,x0)],ty,pos,after,none⟩).run Tryz.prog w= .ok (.value (.agg #[.int .i64 i0, .int .i64 0, .int .i64 0, .bool false, .slice none 0 0, .slice none 0 0, .slice none 0 0])) w:=by simp [go_sem,h0]
theorem wpList_bldKind {ops:Array Oper} {rest:List Oper} {dst:Option Tmp} {ty:TypeId} {pos:String} {after:Array Edge} {A:Act} {w:World} {Q:Exit→Act→World→Prop} {x0:Operand} {i0:Int} (h0:A.eval x0= .int .i64 i0)
  (h:wpList Tryz.prog ops Q rest (A.put dst (.agg #[.int .i64 i0, .int .i64 0, .int .i64 0, .bool false, .slice none 0 0, .slice none 0 0, .slice none 0 0])) w):
  wpList Tryz.prog ops Q (⟨dst, .build 76 #[(0,x0)],ty,pos,after,none⟩::rest) A w:=by
 refine wpList_plain rfl fun K hK=>?_
 unfold Oper.wp
 rw [exec_bldKind A.eval w dst ty pos after h0]
 exact hK _ _ h
theorem exec_bldOutH (ρ:Operand→Value) (w:World) (dst:Option Tmp) (ty:TypeId) (pos:String) (after:Array Edge) {x0 x1:Operand} {i0:Int} {c0 c1 c2 c3 c4 c5 c6:Value} (h0:ρ x0= .int .i64 i0) (h1:ρ x1= .agg #[c0,c1,c2,c3,c4,c5,c6]):
  (execOp ρ ⟨dst, .build 81 #[(0,x0),(1,x1)],ty,pos,after,none⟩).run Tryz.prog w= .ok (.value (.agg #[.int .i64 i0,c0,c1,c2,c3,c4,c5,c6])) w:=by simp [go_sem,h0,h1]
theorem wpList_bldOutH {ops:Array Oper} {rest:List Oper} {dst:Option Tmp} {ty:TypeId} {pos:String} {after:Array Edge} {A:Act} {w:World} {Q:Exit→Act→World→Prop} {x0 x1:Operand} {i0:Int} {c0 c1 c2 c3 c4 c5 c6:Value} (h0:A.eval x0= .int .i64 i0) (h1:A.eval x1= .agg #[c0,c1,c2,c3,c4,c5,c6])
  (h:wpList Tryz.prog ops Q rest (A.put dst (.agg #[.int .i64 i0,c0,c1,c2,c3,c4,c5,c6])) w):
  wpList Tryz.prog ops Q (⟨dst, .build 81 #[(0,x0),(1,x1)],ty,pos,after,none⟩::rest) A w:=by
 refine wpList_plain rfl fun K hK=>?_
 unfold Oper.wp
 rw [exec_bldOutH A.eval w dst ty pos after h0 h1]
 exact hK _ _ h
theorem exec_bldOutsH (ρ:Operand→Value) (w:World) (dst:Option Tmp) (ty:TypeId) (pos:String) (after:Array Edge) {x0:Operand} {c0 c1 c2 c3 c4 c5 c6 c7:Value} (h0:ρ x0= .agg #[c0,c1,c2,c3,c4,c5,c6,c7]):
  (execOp ρ ⟨dst, .buildSlice 53 1 #[(0,x0)],ty,pos,after,none⟩).run Tryz.prog w= .ok (.value (.slice (some ⟨w.heap.size,0,none⟩) 1 1)) (w.alloc (.cells #[c0,c1,c2,c3,c4,c5,c6,c7] 81)):=by
 simp [go_sem,h0]
theorem wpList_bldOutsH {ops:Array Oper} {rest:List Oper} {dst:Option Tmp} {ty:TypeId} {pos:String} {after:Array Edge} {A:Act} {w:World} {Q:Exit→Act→World→Prop} {x0:Operand} {c0 c1 c2 c3 c4 c5 c6 c7:Value} (h0:A.eval x0= .agg #[c0,c1,c2,c3,c4,c5,c6,c7])
  (h:wpList Tryz.prog ops Q rest (A.put dst (.slice (some ⟨w.heap.size,0,none⟩) 1 1)) (w.alloc (.cells #[c0,c1,c2,c3,c4,c5,c6,c7] 81))):
  wpList Tryz.prog ops Q (⟨dst, .buildSlice 53 1 #[(0,x0)],ty,pos,after,none⟩::rest) A w:=by
 refine wpList_plain rfl fun K hK=>?_
 unfold Oper.wp
 rw [exec_bldOutsH A.eval w dst ty pos after h0]
 exact hK _ _ h
theorem handSay_any (n kind:Int) (W:World):Calls Tryz.prog 87 #[.int .i64 n, .int .i64 kind] W fun e w'=>e= .returned (.agg (Ho.arr ⟨n,kind,false⟩))∧Gr W w':=by
 obtain ⟨w1,hw1⟩:∃ w1,w1=W.alloc (.cells outZ 81):=⟨_,rfl⟩
 have F1:=Lib.hid (show Gr W w1 by rw [hw1];exact (Fr.refl _ _).alloc _)
 have R1:=Lib.hid (show w1.heap[W.heap.size]?=some (.cells outZ 81 (0,0)) by rw [hw1,heap_alloc_if,if_pos rfl])
 have HW1:=Lib.hid hw1
 clear hw1
 go_enter Tryz.func87,Tryz.ntmps87
 go_upto_region 1 with fail
 rw [←HW1.out]
 clear HW1
 refine wp_region_lit ?_
 iterate 6 go_step
 refine wpList_bldKind (i0:=kind) (by rfl) ?_
 refine wpList_bldOutH (i0:=n) (by rfl) (by rfl) ?_
 refine wpList_storeW (vs:=Ho.arr ⟨n,kind,false⟩) R1.out (by rfl) 81 _ _ (by rfl) (by rfl) (by rfl) rfl Tryz.infoOutH (by rw [←Array.all_toList];rfl) ?_
 intro w2 f2 b2
 have F2:=Lib.hid (fr_new F1.out f2 (Nat.le_refl _))
 have R2:=Lib.hid b2
 clear f2 b2 R1 F1
 have LL:Hid ((loadVar 81 ⟨W.heap.size,0,none⟩).run Tryz.prog w2= .ok (.agg (Ho.arr ⟨n,kind,false⟩)) w2):=Lib.hid (run_loadVar_mid w2 W.heap.size 0 81 (Array.toList (Ho.arr ⟨n,kind,false⟩)) _ (blk_range R2.out) Tryz.underlying81 rfl Tryz.infoOutH)
 have LA:Hid ((asAddr (.pointer (some ⟨W.heap.size,0,none⟩))).run Tryz.prog w2= .ok ⟨W.heap.size,0,none⟩ w2):=Lib.hid (by simp [go_sem])
 simp only [Act.put,List.setIfInBounds_toArray,List.set_cons_succ,List.set_cons_zero]
 go_wp2_with fail
 refine bodyPost_ret (v:= .agg (Ho.arr ⟨n,kind,false⟩)) (by simp [results,Tryz.results87,Sem.run_bind,Result.andThen_ok,LL.out,LA.out]) rfl ?_
 exact ⟨rfl,F2.out⟩
theorem handEmptied_any (p:Value) (v:Vw) (x:VwP) (W:World):Calls Tryz.prog 120 #[p,v.val x] W fun e w'=>e= .returned (if vaFull v=true then p else .pointer none)∧Gr W w':=by
 obtain ⟨w1,hw1⟩:∃ w1,w1=W.alloc (.cells (v.arr x) 60):=⟨_,rfl⟩
 have F1:=Lib.hid (show Gr W w1 by rw [hw1];exact (Fr.refl _ _).alloc _)
 have R1:=Lib.hid (show w1.heap[W.heap.size]?=some (.cells (v.arr x) 60 (0,0)) by rw [hw1,heap_alloc_if,if_pos rfl])
 have HW1:=Lib.hid hw1
 have CF:=Lib.hid (fun w=>setFull_any x.aa v.act.length x.ac v.am w)
 obtain ⟨q,hq⟩:∃ q,q=(if vaFull v=true then p else .pointer none):=⟨_,rfl⟩
 rw [←hq]
 have HQ:=Lib.hid hq
 clear hw1 hq
 have y1:w1.cell? ⟨W.heap.size,1,none⟩=some (.slice x.aa v.act.length x.ac):=(Bx.of_block R1.out) 1 _ rfl
 have y2:w1.cell? ⟨W.heap.size,2,none⟩=some (.int .i64 v.am):=(Bx.of_block R1.out) 2 _ rfl
 go_enter Tryz.func120,Tryz.ntmps120
 go_upto_region 1 with fail
 rw [←HW1.out]
 clear HW1
 go_wp2_with fail
 refine (CF.out _).mono ?_
 rintro e w2 ⟨rfl,f2⟩
 have F2:=Lib.hid (Gr.trans F1.out f2)
 clear f2 F1 R1 CF y1 y2
 by_cases h:v.am≤(v.act.length:Int)
 ·have hd:decide (v.am≤(v.act.length:Int))=true:=decide_eq_true h
  clear h
  go_wp2_with fail
  go_ret
  exact ⟨by rw [HQ.out];unfold vaFull;rw [hd,if_pos rfl];rfl,F2.out⟩
 ·have hd:decide (v.am≤(v.act.length:Int))=false:=decide_eq_false h
  clear h
  go_wp2_with fail
  go_ret
  exact ⟨by rw [HQ.out];unfold vaFull;rw [hd,if_neg (by decide)];rfl,F2.out⟩
theorem exec_bldHand (ρ:Operand→Value) (w:World) (dst:Option Tmp) (ty:TypeId) (pos:String) (after:Array Edge) {x0 x1:Operand} {c0 c1 c2 c3 c4 d0 d1:Value} (h0:ρ x0= .agg #[c0,c1,c2,c3,c4]) (h1:ρ x1= .agg #[d0,d1]):
  (execOp ρ ⟨dst, .build 100 #[(0,x0),(1,x1)],ty,pos,after,none⟩).run Tryz.prog w= .ok (.value (.agg #[c0,c1,c2,c3,c4,d0,d1])) w:=by simp [go_sem,h0,h1]
theorem wpList_bldHand {ops:Array Oper} {rest:List Oper} {dst:Option Tmp} {ty:TypeId} {pos:String} {after:Array Edge} {A:Act} {w:World} {Q:Exit→Act→World→Prop} {x0 x1:Operand} {c0 c1 c2 c3 c4 d0 d1:Value} (h0:A.eval x0= .agg #[c0,c1,c2,c3,c4]) (h1:A.eval x1= .agg #[d0,d1])
  (h:wpList Tryz.prog ops Q rest (A.put dst (.agg #[c0,c1,c2,c3,c4,d0,d1])) w):
  wpList Tryz.prog ops Q (⟨dst, .build 100 #[(0,x0),(1,x1)],ty,pos,after,none⟩::rest) A w:=by
 refine wpList_plain rfl fun K hK=>?_
 unfold Oper.wp
 rw [exec_bldHand A.eval w dst ty pos after h0 h1]
 exact hK _ _ h
def hdNone:HdP:=⟨vwNone,none,0⟩
theorem hNew_good (self a p:Int):(hNew self a p).Good:=⟨vwNew_good self a p,Good.nil (by decide) (by decide)⟩
theorem handNew_any (self a p:Int) (W:World):Calls Tryz.prog 33 #[.int .i64 self, .int .i64 a, .int .i64 p] W fun e w'=>e= .returned (.agg ((hNew self a p).arr hdNone))∧Gr W w':=by
 obtain ⟨w1,hw1⟩:∃ w1,w1=W.alloc (.cells handZ 100):=⟨_,rfl⟩
 have F1:=Lib.hid (show Gr W w1 by rw [hw1];exact (Fr.refl _ _).alloc _)
 have R1:=Lib.hid (show w1.heap[W.heap.size]?=some (.cells handZ 100 (0,0)) by rw [hw1,heap_alloc_if,if_pos rfl])
 have HW1:=Lib.hid hw1
 have C1:=Lib.hid (fun w=>viewNew_any self a p w)
 have C2:=Lib.hid (fun w=>setNew_any 64 w)
 unfold vwNew Vw.val Vw.arr vwNone at C1
 unfold hNew hdNone Hd.arr vwNone
 rw [show min (max (64:Int) 0) 64=64 from rfl] at C2
 obtain ⟨qa,hqa⟩:∃ q,min (max a 0) 64=q:=⟨_,rfl⟩
 obtain ⟨qp,hqp⟩:∃ q,min (max p 0) 64=q:=⟨_,rfl⟩
 rw [hqa,hqp] at C1 ⊢
 clear hw1 hqa hqp
 go_enter Tryz.func33,Tryz.ntmps33
 go_upto_region 1 with fail
 rw [←HW1.out]
 clear HW1
 go_wp2_with fail
 refine (C1.out _).mono ?_
 rintro e w2 ⟨rfl,f2⟩
 have F2:=Lib.hid (Gr.trans F1.out f2)
 have R2:=Lib.hid (blk_keep f2 R1.out (fun h=>h))
 clear f2 F1 R1 C1
 go_wp2_with fail
 refine (C2.out _).mono ?_
 rintro e w3 ⟨rfl,f3⟩
 have F3:=Lib.hid (Gr.trans F2.out f3)
 have R3:=Lib.hid (blk_keep f3 R2.out (fun h=>h))
 clear f3 F2 R2 C2
 go_wp2_with (refine wpList_bldHand (by rfl) (by rfl) ?_;refine wpList_storeW (vs:= #[.int .i64 self, .slice none 0 0, .int .i64 qa, .slice none 0 0, .int .i64 qp, .slice none 0 0, .int .i64 64]) R3.out (by rfl) 100 _ _ (by rfl) (by rfl) (by rfl) rfl Tryz.infoHand (by rw [←Array.all_toList];rfl) ?_)
 intro w4 f4 b4
 have F4:=Lib.hid (fr_new F3.out f4 (Nat.le_refl _))
 have R4:=Lib.hid b4
 clear f4 b4 R3 F3
 have LL:Hid ((loadVar 100 ⟨W.heap.size,0,none⟩).run Tryz.prog w4= .ok (.agg #[.int .i64 self, .slice none 0 0, .int .i64 qa, .slice none 0 0, .int .i64 qp, .slice none 0 0, .int .i64 64]) w4):=Lib.hid (run_loadVar_mid w4 W.heap.size 0 100 (Array.toList #[.int .i64 self, .slice none 0 0, .int .i64 qa, .slice none 0 0, .int .i64 qp, .slice none 0 0, .int .i64 64]) _ (blk_range R4.out) Tryz.underlying100 rfl Tryz.infoHand)
 have LA:Hid ((asAddr (.pointer (some ⟨W.heap.size,0,none⟩))).run Tryz.prog w4= .ok ⟨W.heap.size,0,none⟩ w4):=Lib.hid (by simp [go_sem])
 go_wp2_with fail
 refine bodyPost_ret (v:= .agg #[.int .i64 self, .slice none 0 0, .int .i64 qa, .slice none 0 0, .int .i64 qp, .slice none 0 0, .int .i64 64]) (by simp [results,Tryz.results33,Sem.run_bind,Result.andThen_ok,LL.out,LA.out]) rfl ?_
 exact ⟨rfl,F4.out⟩
theorem handAsk_any (h:Hd) (x:HdP) (n:Int) (high:Bool) (p:Value) (ds:List Int) (O:Ori) (W:World) (hs:Sta W O p ds [] [] (hrows h x []) W) (hg:h.Good):
  Calls Tryz.prog 111 #[.agg (h.arr x), .int .i64 n, .bool high] W (HEnd W O p ds (hAsk h n high).1 (hAsk h n high).2 (fun a ov=> .tuple #[.agg a,ov])):=by
 obtain ⟨is,hs1,hs2,hs3⟩:=info_pair Tryz.zeroSet
 obtain ⟨io,ho1,ho2,ho3⟩:=info_pair Tryz.zeroOutH
 obtain ⟨h',o,hh⟩:∃ h' o,hAsk h n high=(h',o):=⟨_,_,rfl⟩
 rw [hh]
 have HH:=Lib.hid hh
 clear hh
 obtain ⟨w1,hw1⟩:∃ w1,w1=(W.alloc (.cells (h.arr x) 100)).alloc (.cells handZ 100):=⟨_,rfl⟩
 obtain ⟨b0,hb0⟩:∃ b,b=W.heap.size:=⟨_,rfl⟩
 obtain ⟨b1,hb1⟩:∃ b,b=W.heap.size+1:=⟨_,rfl⟩
 have ST1:=Lib.hid (show Sta W O p ds [⟨b1,handZ,100⟩,⟨b0,h.arr x,100⟩] [] (hrows h x []) w1 by rw [hw1];exact (hs.box _ _ hb0).box _ _ (by rw [World.size_alloc];exact hb1))
 have HW1:=Lib.hid hw1
 have HB0:=Lib.hid hb0
 have HB1:=Lib.hid hb1
 have l2:=(ST1.out.rowAt 0 rfl).max
 have l3:=(ST1.out.rowAt 2 rfl).le
 have l4:=(ST1.out.rowAt 2 rfl).max
 clear hw1 hb0 hb1 hs
 have HG:=Lib.hid hg
 have l1:=(ST1.out.rowAt 0 rfl).le
 go_enter Tryz.func111,Tryz.ntmps111
 go_upto_region 1 with fail
 rw [←HW1.out, ←HB1.out, ←HB0.out]
 clear HW1 HB0 HB1
 have y0:w1.cell? ⟨b0,0,none⟩=some (.int .i64 h.v.self):=ST1.out.cell 1 0 rfl rfl
 have y1:w1.cell? ⟨b0,1,none⟩=some (.slice x.x.aa h.v.act.length x.x.ac):=ST1.out.cell 1 1 rfl rfl
 have y2:w1.cell? ⟨b0,2,none⟩=some (.int .i64 h.v.am):=ST1.out.cell 1 2 rfl rfl
 have y5:w1.cell? ⟨b0,5,none⟩=some (.slice x.ka h.asked.length x.kc):=ST1.out.cell 1 5 rfl rfl
 have y6:w1.cell? ⟨b0,6,none⟩=some (.int .i64 64):=ST1.out.cell 1 6 rfl rfl
 have CH:=Lib.hid (fun w (h1:SlA w x.x.aa h.v.act.length x.x.ac (ints h.v.act))=>setHas_any x.x.aa x.x.ac h.v.act h.v.am n w h1 HG.out.v.act)
 have CK:=Lib.hid (fun w (h1:SlA w x.ka h.asked.length x.kc (ints h.asked))=>setHas_any x.ka x.kc h.asked 64 n w h1 HG.out.asked)
 have CA:=Lib.hid (fun w (h1:SlA w x.ka h.asked.length x.kc (ints h.asked))=>setAdd3_any x.ka x.kc h.asked 64 n w h1 HG.out.asked)
 clear hg
 cases e0:(n==h.v.self)
 case true=>
  clear y1 y2 y5 y6
  obtain ⟨rfl,rfl⟩:h=h'∧[]=o:=by
   have hh:=HH.out
   rw [show hAsk h n high=(h,[]) by unfold hAsk hAsks;rw [e0];simp] at hh
   injection hh with a b
   exact ⟨a,b⟩
  clear HH
  go_upto_region 2 with fail
  refine wp_region_lit ?_
  refine wpList_load_mid (by rfl) 100 _ (by rfl) b0 0 (by rfl) (Array.toList (h.arr x)) _ (blk_range (ST1.out.blkAt 1 rfl)) Tryz.underlying100 rfl Tryz.infoHand ?_
  go_wp2_with (refine wpList_storeW (vs:=h.arr x) (ST1.out.blkAt 0 rfl) (by rfl) 100 _ _ (by rfl) (by rfl) (by rfl) rfl Tryz.infoHand (by rw [←Array.all_toList];rfl) ?_)
  intro w9 f_ b_
  have ST2:=Lib.hid (show Sta W O p ds [⟨b1,h.arr x,100⟩,⟨b0,h.arr x,100⟩] [] (hrows h x []) w9 from ST1.out.store 0 rfl f_ b_)
  clear ST1 f_ b_
  have LL:Hid ((loadVar 100 ⟨b1,0,none⟩).run Tryz.prog w9= .ok (.agg (h.arr x)) w9):=Lib.hid (run_loadVar_mid w9 b1 0 100 (Array.toList (h.arr x)) _ (blk_range (ST2.out.blkAt 0 rfl)) Tryz.underlying100 rfl Tryz.infoHand)
  have LA:Hid ((asAddr (.pointer (some ⟨b1,0,none⟩))).run Tryz.prog w9= .ok ⟨b1,0,none⟩ w9):=Lib.hid (by simp [go_sem])
  go_wp2_with fail
  refine bodyPost_ret (v:= .tuple #[.agg (h.arr x), .slice none 0 0]) (by simp [results,Tryz.results111,Sem.run_bind,Result.andThen_ok,LL.out,LA.out]) rfl ?_
  exact ⟨x,_,rfl,(ST2.out.ownNil 81 8).out (List.Sublist.refl _) (inC (at_ 0 rfl) (inC (at_ 1 rfl) (inC (at_ 2 rfl) inN))),HG.out⟩
 case false=>
  go_wp2_with fail
  refine (CH.out _ (ST1.out.rowAt 0 rfl)).mono ?_
  rintro e w2 ⟨rfl,f2⟩
  have ST2:=Lib.hid (show Sta W O p ds [⟨b1,handZ,100⟩,⟨b0,h.arr x,100⟩] [] (hrows h x []) w2 from ST1.out.gr f2)
  clear ST1 f2
  cases e1:has h.v.act n
  case true=>
   obtain ⟨rfl,rfl⟩:h=h'∧[]=o:=by
    have hh:=HH.out
    rw [show hAsk h n high=(h,[]) by unfold hAsk hAsks;rw [e0,e1];simp] at hh
    injection hh with a b
    exact ⟨a,b⟩
   clear HH
   go_upto_region 2 with fail
   refine wp_region_lit ?_
   refine wpList_load_mid (by rfl) 100 _ (by rfl) b0 0 (by rfl) (Array.toList (h.arr x)) _ (blk_range (ST2.out.blkAt 1 rfl)) Tryz.underlying100 rfl Tryz.infoHand ?_
   go_wp2_with (refine wpList_storeW (vs:=h.arr x) (ST2.out.blkAt 0 rfl) (by rfl) 100 _ _ (by rfl) (by rfl) (by rfl) rfl Tryz.infoHand (by rw [←Array.all_toList];rfl) ?_)
   intro w9 f_ b_
   have ST3:=Lib.hid (show Sta W O p ds [⟨b1,h.arr x,100⟩,⟨b0,h.arr x,100⟩] [] (hrows h x []) w9 from ST2.out.store 0 rfl f_ b_)
   clear ST2 f_ b_
   have LL:Hid ((loadVar 100 ⟨b1,0,none⟩).run Tryz.prog w9= .ok (.agg (h.arr x)) w9):=Lib.hid (run_loadVar_mid w9 b1 0 100 (Array.toList (h.arr x)) _ (blk_range (ST3.out.blkAt 0 rfl)) Tryz.underlying100 rfl Tryz.infoHand)
   have LA:Hid ((asAddr (.pointer (some ⟨b1,0,none⟩))).run Tryz.prog w9= .ok ⟨b1,0,none⟩ w9):=Lib.hid (by simp [go_sem])
   go_wp2_with fail
   refine bodyPost_ret (v:= .tuple #[.agg (h.arr x), .slice none 0 0]) (by simp [results,Tryz.results111,Sem.run_bind,Result.andThen_ok,LL.out,LA.out]) rfl ?_
   exact ⟨x,_,rfl,(ST3.out.ownNil 81 8).out (List.Sublist.refl _) (inC (at_ 0 rfl) (inC (at_ 1 rfl) (inC (at_ 2 rfl) inN))),HG.out⟩
  case false=>
   have z5:w2.cell? ⟨b0,5,none⟩=some (.slice x.ka h.asked.length x.kc):=ST2.out.cell 1 5 rfl rfl
   have z6:w2.cell? ⟨b0,6,none⟩=some (.int .i64 64):=ST2.out.cell 1 6 rfl rfl
   go_wp2_with fail
   refine (CK.out _ (ST2.out.rowAt 2 rfl)).mono ?_
   rintro e w3 ⟨rfl,f3⟩
   clear z5 z6 y0 y1 y2 y5 y6
   have ST3:=Lib.hid (show Sta W O p ds [⟨b1,handZ,100⟩,⟨b0,h.arr x,100⟩] [] (hrows h x []) w3 from ST2.out.gr f3)
   clear ST2 f3
   cases e2:has h.asked n
   case true=>
    obtain ⟨rfl,rfl⟩:h=h'∧[]=o:=by
     have hh:=HH.out
     rw [show hAsk h n high=(h,[]) by unfold hAsk hAsks;rw [e0,e1,e2];simp] at hh
     injection hh with a b
     exact ⟨a,b⟩
    clear HH
    go_upto_region 2 with fail
    refine wp_region_lit ?_
    refine wpList_load_mid (by rfl) 100 _ (by rfl) b0 0 (by rfl) (Array.toList (h.arr x)) _ (blk_range (ST3.out.blkAt 1 rfl)) Tryz.underlying100 rfl Tryz.infoHand ?_
    go_wp2_with (refine wpList_storeW (vs:=h.arr x) (ST3.out.blkAt 0 rfl) (by rfl) 100 _ _ (by rfl) (by rfl) (by rfl) rfl Tryz.infoHand (by rw [←Array.all_toList];rfl) ?_)
    intro w9 f_ b_
    have ST4:=Lib.hid (show Sta W O p ds [⟨b1,h.arr x,100⟩,⟨b0,h.arr x,100⟩] [] (hrows h x []) w9 from ST3.out.store 0 rfl f_ b_)
    clear ST3 f_ b_
    have LL:Hid ((loadVar 100 ⟨b1,0,none⟩).run Tryz.prog w9= .ok (.agg (h.arr x)) w9):=Lib.hid (run_loadVar_mid w9 b1 0 100 (Array.toList (h.arr x)) _ (blk_range (ST4.out.blkAt 0 rfl)) Tryz.underlying100 rfl Tryz.infoHand)
    have LA:Hid ((asAddr (.pointer (some ⟨b1,0,none⟩))).run Tryz.prog w9= .ok ⟨b1,0,none⟩ w9):=Lib.hid (by simp [go_sem])
    go_wp2_with fail
    refine bodyPost_ret (v:= .tuple #[.agg (h.arr x), .slice none 0 0]) (by simp [results,Tryz.results111,Sem.run_bind,Result.andThen_ok,LL.out,LA.out]) rfl ?_
    exact ⟨x,_,rfl,(ST4.out.ownNil 81 8).out (List.Sublist.refl _) (inC (at_ 0 rfl) (inC (at_ 1 rfl) (inC (at_ 2 rfl) inN))),HG.out⟩
   case false=>
    have z5:w3.cell? ⟨b0,5,none⟩=some (.slice x.ka h.asked.length x.kc):=ST3.out.cell 1 5 rfl rfl
    have z6:w3.cell? ⟨b0,6,none⟩=some (.int .i64 64):=ST3.out.cell 1 6 rfl rfl
    go_upto_region 3 with fail
    go_wp2_with fail
    refine (CA.out _ (ST3.out.rowAt 2 rfl)).mono ?_
    intro e w4 hst
    obtain ⟨ka',kc',rfl,hs4⟩:=ST3.out.callS (at_ 2 rfl) hst
    have ST4:=Lib.hid (show Sta W O p ds [⟨b1,handZ,100⟩,⟨b0,h.arr x,100⟩] [] (⟨ka',(sAdd h.asked 64 n).length,kc',ints (sAdd h.asked 64 n)⟩::hrows h x []) w4 from (fun (_:Sta W O p ds [⟨b1,handZ,100⟩,⟨b0,h.arr x,100⟩] [] (hrows h x []) w3)=>hs4) ST3.out)
    clear ST3 hs4 hst
    have l5:=(ST4.out.rowAt 0 rfl).le
    have l6:=(ST4.out.rowAt 0 rfl).max
    generalize hadd:sAdd h.asked 64 n=A at *
    have HADD:=Lib.hid hadd
    have E0:=Lib.hid e0
    have E1:=Lib.hid e1
    have E2:=Lib.hid e2
    clear hadd z5 z6 e0 e1 e2 CA CK CH
    go_wp2_with (refine wpList_fresh (vs:= #[.slice ka' A.length kc', .int .i64 64]) hs1 hs2 Tryz.infoSet2 (by rfl) (by rw [←Array.all_toList];rfl) (by rfl) (by rfl) ?_)
    intro w5 f_ b_ l_
    obtain ⟨z,hb_⟩:∃ b,b=w4.heap.size:=⟨_,rfl⟩
    rw [←hb_] at b_ l_ ⊢
    have ST5:=Lib.hid (show Sta W O p ds [⟨z, #[.slice ka' A.length kc', .int .i64 64],58⟩,⟨b1,handZ,100⟩,⟨b0,h.arr x,100⟩] [] (⟨ka',A.length,kc',ints A⟩::hrows h x []) w5 from ST4.out.var f_ b_ (Nat.le_of_eq hb_.symm))
    clear ST4 f_ b_ l_ hb_
    cases e3:sAddOk h.asked 64 n
    case false=>
     obtain ⟨rfl,rfl⟩:h=h'∧[]=o:=by
      have hh:=HH.out
      rw [show hAsk h n high=(h,[]) by unfold hAsk hAsks;rw [E0.out,E1.out,E2.out,e3];simp] at hh
      injection hh with a b
      exact ⟨a,b⟩
     clear HH
     go_upto_region 5 with fail
     refine wp_region_lit ?_
     refine wpList_load_mid (by rfl) 100 _ (by rfl) b0 0 (by rfl) (Array.toList (h.arr x)) _ (blk_range (ST5.out.blkAt 2 rfl)) Tryz.underlying100 rfl Tryz.infoHand ?_
     go_wp2_with (refine wpList_storeW (vs:=h.arr x) (ST5.out.blkAt 1 rfl) (by rfl) 100 _ _ (by rfl) (by rfl) (by rfl) rfl Tryz.infoHand (by rw [←Array.all_toList];rfl) ?_)
     intro w9 f_ b_
     have ST6:=Lib.hid (show Sta W O p ds [⟨z, #[.slice ka' A.length kc', .int .i64 64],58⟩,⟨b1,h.arr x,100⟩,⟨b0,h.arr x,100⟩] [] (⟨ka',A.length,kc',ints A⟩::hrows h x []) w9 from ST5.out.store 1 rfl f_ b_)
     clear ST5 f_ b_
     have LL:Hid ((loadVar 100 ⟨b1,0,none⟩).run Tryz.prog w9= .ok (.agg (h.arr x)) w9):=Lib.hid (run_loadVar_mid w9 b1 0 100 (Array.toList (h.arr x)) _ (blk_range (ST6.out.blkAt 1 rfl)) Tryz.underlying100 rfl Tryz.infoHand)
     have LA:Hid ((asAddr (.pointer (some ⟨b1,0,none⟩))).run Tryz.prog w9= .ok ⟨b1,0,none⟩ w9):=Lib.hid (by simp [go_sem])
     go_wp2_with fail
     refine bodyPost_ret (v:= .tuple #[.agg (h.arr x), .slice none 0 0]) (by simp [results,Tryz.results111,Sem.run_bind,Result.andThen_ok,LL.out,LA.out]) rfl ?_
     exact ⟨x,_,rfl,(ST6.out.ownNil 81 8).out (List.Sublist.refl _) (inC (at_ 1 rfl) (inC (at_ 2 rfl) (inC (at_ 3 rfl) inN))),HG.out⟩
    case true=>
     go_upto_region 6 with fail
     have z0:w5.cell? ⟨z,0,none⟩=some (.slice ka' A.length kc'):=ST5.out.cell 0 0 rfl rfl
     have z1:w5.cell? ⟨z,1,none⟩=some (.int .i64 64):=ST5.out.cell 0 1 rfl rfl
     go_wp2_with (refine wpList_storeB (o:=5) (vs:= #[.slice ka' A.length kc', .int .i64 64]) (ST5.out.blkAt 2 rfl) (by rfl) 58 _ _ (by rfl) (by rfl) (by rfl) (Nat.le_of_ble_eq_true rfl) Tryz.infoSet2 (by rw [←Array.all_toList];rfl) ?_)
     intro w6 f_ b_
     have ST6:=Lib.hid (show Sta W O p ds [⟨z, #[.slice ka' A.length kc', .int .i64 64],58⟩,⟨b1,handZ,100⟩,⟨b0, #[.int .i64 h.v.self, .slice x.x.aa h.v.act.length x.x.ac, .int .i64 h.v.am, .slice x.x.pa h.v.pas.length x.x.pc, .int .i64 h.v.pm, .slice ka' A.length kc', .int .i64 64],100⟩] [] (⟨ka',A.length,kc',ints A⟩::hrows h x []) w6 from ST5.out.store 2 rfl f_ b_)
     clear ST5 f_ b_
     clear z0 z1
     go_upto_region 7 with fail
     go_wp2_with fail
     refine (handSay_any n 3 _).mono ?_
     rintro e w7 ⟨rfl,f7⟩
     have ST7:=Lib.hid (show Sta W O p ds [⟨z, #[.slice ka' A.length kc', .int .i64 64],58⟩,⟨b1,handZ,100⟩,⟨b0, #[.int .i64 h.v.self, .slice x.x.aa h.v.act.length x.x.ac, .int .i64 h.v.am, .slice x.x.pa h.v.pas.length x.x.pc, .int .i64 h.v.pm, .slice ka' A.length kc', .int .i64 64],100⟩] [] (⟨ka',A.length,kc',ints A⟩::hrows h x []) w7 from ST6.out.gr f7)
     clear ST6 f7
     go_wp2_with (refine wpList_fresh (vs:=Ho.arr ⟨n,3,false⟩) ho1 ho2 Tryz.infoOutH (by rfl) (by rw [←Array.all_toList];rfl) (by rfl) (by rfl) ?_)
     intro w8 f_ b_ l_
     obtain ⟨y,hb_⟩:∃ b,b=w7.heap.size:=⟨_,rfl⟩
     rw [←hb_] at b_ l_ ⊢
     have ST8:=Lib.hid (show Sta W O p ds [⟨y,Ho.arr ⟨n,3,false⟩,81⟩,⟨z, #[.slice ka' A.length kc', .int .i64 64],58⟩,⟨b1,handZ,100⟩,⟨b0, #[.int .i64 h.v.self, .slice x.x.aa h.v.act.length x.x.ac, .int .i64 h.v.am, .slice x.x.pa h.v.pas.length x.x.pc, .int .i64 h.v.pm, .slice ka' A.length kc', .int .i64 64],100⟩] [] (⟨ka',A.length,kc',ints A⟩::hrows h x []) w8 from ST7.out.var f_ b_ (Nat.le_of_eq hb_.symm))
     clear ST7 f_ b_ l_ hb_
     go_upto_region 8 with fail
     have zf:w8.frozen? ⟨y,4,none⟩=false:=ST8.out.froz 0 4 rfl
     have zc:w8.cell? ⟨y,4,none⟩=some (.bool false):=ST8.out.cell 0 4 rfl rfl
     go_wp2_with fail
     obtain ⟨w9,hw_⟩:∃ x,x=w8.setCell ⟨y,4,none⟩ (.bool high):=⟨_,rfl⟩
     rw [←hw_]
     have ST9:=Lib.hid (show Sta W O p ds [⟨y,Ho.arr ⟨n,3,high⟩,81⟩,⟨z, #[.slice ka' A.length kc', .int .i64 64],58⟩,⟨b1,handZ,100⟩,⟨b0, #[.int .i64 h.v.self, .slice x.x.aa h.v.act.length x.x.ac, .int .i64 h.v.am, .slice x.x.pa h.v.pas.length x.x.pc, .int .i64 h.v.pm, .slice ka' A.length kc', .int .i64 64],100⟩] [] (⟨ka',A.length,kc',ints A⟩::hrows h x []) w9 from hw_▸ST8.out.setC 0 rfl 4 (.bool high) (Nat.le_of_ble_eq_true rfl))
     clear ST8 hw_
     clear zf zc
     go_upto_region 9 with fail
     obtain ⟨wd,hwd⟩:∃ x,x=w9.drew:=⟨_,rfl⟩
     have HWD:=Lib.hid hwd
     have ST10:=Lib.hid (show Sta W O p ds [⟨y,Ho.arr ⟨n,3,high⟩,81⟩,⟨z, #[.slice ka' A.length kc', .int .i64 64],58⟩,⟨b1,handZ,100⟩,⟨b0, #[.int .i64 h.v.self, .slice x.x.aa h.v.act.length x.x.ac, .int .i64 h.v.am, .slice x.x.pa h.v.pas.length x.x.pc, .int .i64 h.v.pm, .slice ka' A.length kc', .int .i64 64],100⟩] [] (⟨ka',A.length,kc',ints A⟩::hrows h x []) wd from hwd▸ST9.out.gr ((Fr.refl _ _).drew))
     clear ST9 hwd
     haveI:Nonempty (WC (fun w=>w.heap[b0]?=some (.cells (#[.int .i64 h.v.self, .slice x.x.aa h.v.act.length x.x.ac, .int .i64 h.v.am, .slice x.x.pa h.v.pas.length x.x.pc, .int .i64 h.v.pm, .slice ka' A.length kc', .int .i64 64]) 100 (0,0))∧w.heap[y]?=some (.cells (Ho.arr ⟨n,3,high⟩) 81 (0,0)))):=⟨⟨wd,⟨ST10.out.blkAt 3 rfl,ST10.out.blkAt 0 rfl⟩⟩⟩
     refine wp_region_plan [2,3,4] (Plan.seq [0,1] (.fork 2 3 (Plan.seq [3,4] .done) (Plan.seq [2,4] .done))) (fun w'=>∃ z:WC (fun w=>w.heap[b0]?=some (.cells (#[.int .i64 h.v.self, .slice x.x.aa h.v.act.length x.x.ac, .int .i64 h.v.am, .slice x.x.pa h.v.pas.length x.x.pc, .int .i64 h.v.pm, .slice ka' A.length kc', .int .i64 64]) 100 (0,0))∧w.heap[y]?=some (.cells (Ho.arr ⟨n,3,high⟩) 81 (0,0))),w'=z.val) (by kernel_rfl) (by kernel_rfl) (fun c a w d v h=>by cases d<;>exact h) (fun c a w d v h=>by cases d<;>exact h) (by rw [←HWD.out];exact ⟨⟨wd,⟨ST10.out.blkAt 3 rfl,ST10.out.blkAt 0 rfl⟩⟩,rfl⟩) ?_
     rw [←HWD.out]
     clear HWD
     refine wpV_q (by simp only [gtA,gtZ]<;>rfl) (by rfl) (by rfl) ?_
     refine wpQuiet_loadH (by rfl) 100 _ (by rfl) b0 0 (by rfl) (Array.toList (#[.int .i64 h.v.self, .slice x.x.aa h.v.act.length x.x.ac, .int .i64 h.v.am, .slice x.x.pa h.v.pas.length x.x.pc, .int .i64 h.v.pm, .slice ka' A.length kc', .int .i64 64])) _ (fun w ⟨z,hz⟩=>hz▸blk_range z.ok.1) Tryz.underlying100 rfl Tryz.infoHand ?_
     refine wpQuiet_nil ?_
     simp only [Act.put,List.setIfInBounds_toArray,List.set_cons_succ,List.set_cons_zero]
     refine wpV_q (by simp only [gtA,gtS,gtZ]<;>rfl) (by rfl) (by rfl) ?_
     refine wpQuiet_loadH (by rfl) 81 _ (by rfl) y 0 (by rfl) (Array.toList (Ho.arr ⟨n,3,high⟩)) _ (fun w ⟨z,hz⟩=>hz▸blk_range z.ok.2) Tryz.underlying81 rfl Tryz.infoOutH ?_
     refine wpQuiet_nil ?_
     simp only [Act.put,List.setIfInBounds_toArray,List.set_cons_succ,List.set_cons_zero]
     have HG2:=Lib.hid (show Hd.Good ⟨h.v,A⟩ from ⟨HG.out.v,HADD.out▸HG.out.asked.add n⟩)
     obtain ⟨rfl,rfl⟩:(⟨h.v,A⟩:Hd)=h'∧[⟨n,3,high⟩]=o:=by
      have hh:=HH.out
      rw [show hAsk h n high=(⟨h.v,A⟩,[⟨n,3,high⟩]) by unfold hAsk hAsks;rw [E0.out,E1.out,E2.out,e3,HADD.out];rfl] at hh
      injection hh with a b
      exact ⟨a,b⟩
     clear HH e3
     refine wpV_fork (by simp only [gtA,gtS,gtZ]<;>rfl) (by simp only [gtA,gtS,gtZ]<;>rfl) ?_ ?_
     ·refine wpList_bldOutsH (by rfl) ?_
      refine wpList_nil ?_
      obtain ⟨w10,hw_⟩:∃ x,x=wd.alloc (.cells (Ho.arr ⟨n,3,high⟩) 81):=⟨_,rfl⟩
      obtain ⟨ob,hob_⟩:∃ b,b=wd.heap.size:=⟨_,rfl⟩
      rw [←hw_, ←hob_]
      have ST11:=Lib.hid (show Sta W O p ds [⟨y,Ho.arr ⟨n,3,high⟩,81⟩,⟨z, #[.slice ka' A.length kc', .int .i64 64],58⟩,⟨b1,handZ,100⟩,⟨b0, #[.int .i64 h.v.self, .slice x.x.aa h.v.act.length x.x.ac, .int .i64 h.v.am, .slice x.x.pa h.v.pas.length x.x.pc, .int .i64 h.v.pm, .slice ka' A.length kc', .int .i64 64],100⟩] [⟨81,8, .slice (some ⟨ob,0,none⟩) 1 1,1,Ho.cells ⟨n,3,high⟩⟩] (⟨ka',A.length,kc',ints A⟩::hrows h x []) w10 from hw_▸ST10.out.ownNew ((Fr.refl _ _).alloc _) (xs:=Ho.cells ⟨n,3,high⟩) (n:=1) (by rw [heap_alloc_if,if_pos hob_];rfl) (Nat.le_of_eq hob_.symm) rfl (by decide))
      clear ST10 hw_ hob_
      refine ⟨⟨⟨w10,⟨ST11.out.blkAt 3 rfl,ST11.out.blkAt 0 rfl⟩⟩,rfl⟩,?_⟩
      simp only [Act.put,List.setIfInBounds_toArray,List.set_cons_succ,List.set_cons_zero]
      refine wpV_e (by simp only [gtA,gtS,gtZ]<;>rfl) (by rfl) ?_
      refine wpList_storeW (vs:= #[.int .i64 h.v.self, .slice x.x.aa h.v.act.length x.x.ac, .int .i64 h.v.am, .slice x.x.pa h.v.pas.length x.x.pc, .int .i64 h.v.pm, .slice ka' A.length kc', .int .i64 64]) (ST11.out.blkAt 2 rfl) (by rfl) 100 _ _ (by rfl) (by rfl) (by rfl) rfl Tryz.infoHand (by rw [←Array.all_toList];rfl) ?_
      intro w11 f_ b_
      have ST12:=Lib.hid (show Sta W O p ds [⟨y,Ho.arr ⟨n,3,high⟩,81⟩,⟨z, #[.slice ka' A.length kc', .int .i64 64],58⟩,⟨b1, #[.int .i64 h.v.self, .slice x.x.aa h.v.act.length x.x.ac, .int .i64 h.v.am, .slice x.x.pa h.v.pas.length x.x.pc, .int .i64 h.v.pm, .slice ka' A.length kc', .int .i64 64],100⟩,⟨b0, #[.int .i64 h.v.self, .slice x.x.aa h.v.act.length x.x.ac, .int .i64 h.v.am, .slice x.x.pa h.v.pas.length x.x.pc, .int .i64 h.v.pm, .slice ka' A.length kc', .int .i64 64],100⟩] [⟨81,8, .slice (some ⟨ob,0,none⟩) 1 1,1,Ho.cells ⟨n,3,high⟩⟩] (⟨ka',A.length,kc',ints A⟩::hrows h x []) w11 from ST11.out.store 2 rfl f_ b_)
      clear ST11 f_ b_
      refine wpList_nil ?_
      refine ⟨⟨⟨w11,⟨ST12.out.blkAt 3 rfl,ST12.out.blkAt 0 rfl⟩⟩,rfl⟩,?_⟩
      simp only [Act.put]
      refine wpV_e (by simp only [gtA,gtS,gtZ]<;>rfl) (by rfl) ?_
      go_wp2_with fail
      refine ⟨⟨⟨w11,⟨ST12.out.blkAt 3 rfl,ST12.out.blkAt 0 rfl⟩⟩,rfl⟩,?_⟩
      refine wpV_done ?_
      have LL:Hid ((loadVar 100 ⟨b1,0,none⟩).run Tryz.prog w11= .ok (.agg (#[.int .i64 h.v.self, .slice x.x.aa h.v.act.length x.x.ac, .int .i64 h.v.am, .slice x.x.pa h.v.pas.length x.x.pc, .int .i64 h.v.pm, .slice ka' A.length kc', .int .i64 64])) w11):=Lib.hid (run_loadVar_mid w11 b1 0 100 (Array.toList (#[.int .i64 h.v.self, .slice x.x.aa h.v.act.length x.x.ac, .int .i64 h.v.am, .slice x.x.pa h.v.pas.length x.x.pc, .int .i64 h.v.pm, .slice ka' A.length kc', .int .i64 64])) _ (blk_range (ST12.out.blkAt 2 rfl)) Tryz.underlying100 rfl Tryz.infoHand)
      have LA:Hid ((asAddr (.pointer (some ⟨b1,0,none⟩))).run Tryz.prog w11= .ok ⟨b1,0,none⟩ w11):=Lib.hid (by simp [go_sem])
      go_wp2_with fail
      refine bodyPost_ret (v:= .tuple #[.agg (#[.int .i64 h.v.self, .slice x.x.aa h.v.act.length x.x.ac, .int .i64 h.v.am, .slice x.x.pa h.v.pas.length x.x.pc, .int .i64 h.v.pm, .slice ka' A.length kc', .int .i64 64]), .slice (some ⟨ob,0,none⟩) 1 1]) (by simp [results,Tryz.results111,Sem.run_bind,Result.andThen_ok,LL.out,LA.out]) rfl ?_
      exact ⟨⟨x.x,ka',kc'⟩,_,rfl,ST12.out.out (List.Sublist.refl _) (inC (at_ 1 rfl) (inC (at_ 2 rfl) (inC (at_ 0 rfl) inN))),HG2.out⟩
     ·refine wpList_storeW (vs:= #[.int .i64 h.v.self, .slice x.x.aa h.v.act.length x.x.ac, .int .i64 h.v.am, .slice x.x.pa h.v.pas.length x.x.pc, .int .i64 h.v.pm, .slice ka' A.length kc', .int .i64 64]) (ST10.out.blkAt 2 rfl) (by rfl) 100 _ _ (by rfl) (by rfl) (by rfl) rfl Tryz.infoHand (by rw [←Array.all_toList];rfl) ?_
      intro w10 f_ b_
      have ST11:=Lib.hid (show Sta W O p ds [⟨y,Ho.arr ⟨n,3,high⟩,81⟩,⟨z, #[.slice ka' A.length kc', .int .i64 64],58⟩,⟨b1, #[.int .i64 h.v.self, .slice x.x.aa h.v.act.length x.x.ac, .int .i64 h.v.am, .slice x.x.pa h.v.pas.length x.x.pc, .int .i64 h.v.pm, .slice ka' A.length kc', .int .i64 64],100⟩,⟨b0, #[.int .i64 h.v.self, .slice x.x.aa h.v.act.length x.x.ac, .int .i64 h.v.am, .slice x.x.pa h.v.pas.length x.x.pc, .int .i64 h.v.pm, .slice ka' A.length kc', .int .i64 64],100⟩] [] (⟨ka',A.length,kc',ints A⟩::hrows h x []) w10 from ST10.out.store 2 rfl f_ b_)
      clear ST10 f_ b_
      refine wpList_nil ?_
      refine ⟨⟨⟨w10,⟨ST11.out.blkAt 3 rfl,ST11.out.blkAt 0 rfl⟩⟩,rfl⟩,?_⟩
      simp only [Act.put]
      refine wpV_e (by simp only [gtA,gtS,gtZ]<;>rfl) (by rfl) ?_
      refine wpList_bldOutsH (by rfl) ?_
      refine wpList_nil ?_
      obtain ⟨w11,hw_⟩:∃ x,x=w10.alloc (.cells (Ho.arr ⟨n,3,high⟩) 81):=⟨_,rfl⟩
      obtain ⟨ob,hob_⟩:∃ b,b=w10.heap.size:=⟨_,rfl⟩
      rw [←hw_, ←hob_]
      have ST12:=Lib.hid (show Sta W O p ds [⟨y,Ho.arr ⟨n,3,high⟩,81⟩,⟨z, #[.slice ka' A.length kc', .int .i64 64],58⟩,⟨b1, #[.int .i64 h.v.self, .slice x.x.aa h.v.act.length x.x.ac, .int .i64 h.v.am, .slice x.x.pa h.v.pas.length x.x.pc, .int .i64 h.v.pm, .slice ka' A.length kc', .int .i64 64],100⟩,⟨b0, #[.int .i64 h.v.self, .slice x.x.aa h.v.act.length x.x.ac, .int .i64 h.v.am, .slice x.x.pa h.v.pas.length x.x.pc, .int .i64 h.v.pm, .slice ka' A.length kc', .int .i64 64],100⟩] [⟨81,8, .slice (some ⟨ob,0,none⟩) 1 1,1,Ho.cells ⟨n,3,high⟩⟩] (⟨ka',A.length,kc',ints A⟩::hrows h x []) w11 from hw_▸ST11.out.ownNew ((Fr.refl _ _).alloc _) (xs:=Ho.cells ⟨n,3,high⟩) (n:=1) (by rw [heap_alloc_if,if_pos hob_];rfl) (Nat.le_of_eq hob_.symm) rfl (by decide))
      clear ST11 hw_ hob_
      refine ⟨⟨⟨w11,⟨ST12.out.blkAt 3 rfl,ST12.out.blkAt 0 rfl⟩⟩,rfl⟩,?_⟩
      simp only [Act.put,List.setIfInBounds_toArray,List.set_cons_succ,List.set_cons_zero]
      refine wpV_e (by simp only [gtA,gtS,gtZ]<;>rfl) (by rfl) ?_
      go_wp2_with fail
      refine ⟨⟨⟨w11,⟨ST12.out.blkAt 3 rfl,ST12.out.blkAt 0 rfl⟩⟩,rfl⟩,?_⟩
      refine wpV_done ?_
      have LL:Hid ((loadVar 100 ⟨b1,0,none⟩).run Tryz.prog w11= .ok (.agg (#[.int .i64 h.v.self, .slice x.x.aa h.v.act.length x.x.ac, .int .i64 h.v.am, .slice x.x.pa h.v.pas.length x.x.pc, .int .i64 h.v.pm, .slice ka' A.length kc', .int .i64 64])) w11):=Lib.hid (run_loadVar_mid w11 b1 0 100 (Array.toList (#[.int .i64 h.v.self, .slice x.x.aa h.v.act.length x.x.ac, .int .i64 h.v.am, .slice x.x.pa h.v.pas.length x.x.pc, .int .i64 h.v.pm, .slice ka' A.length kc', .int .i64 64])) _ (blk_range (ST12.out.blkAt 2 rfl)) Tryz.underlying100 rfl Tryz.infoHand)
      have LA:Hid ((asAddr (.pointer (some ⟨b1,0,none⟩))).run Tryz.prog w11= .ok ⟨b1,0,none⟩ w11):=Lib.hid (by simp [go_sem])
      go_wp2_with fail
      refine bodyPost_ret (v:= .tuple #[.agg (#[.int .i64 h.v.self, .slice x.x.aa h.v.act.length x.x.ac, .int .i64 h.v.am, .slice x.x.pa h.v.pas.length x.x.pc, .int .i64 h.v.pm, .slice ka' A.length kc', .int .i64 64]), .slice (some ⟨ob,0,none⟩) 1 1]) (by simp [results,Tryz.results111,Sem.run_bind,Result.andThen_ok,LL.out,LA.out]) rfl ?_
      exact ⟨⟨x.x,ka',kc'⟩,_,rfl,ST12.out.out (List.Sublist.refl _) (inC (at_ 1 rfl) (inC (at_ 2 rfl) (inC (at_ 0 rfl) inN))),HG2.out⟩
end Go.Proofs.YtelepohdfcjnfaaGreat
