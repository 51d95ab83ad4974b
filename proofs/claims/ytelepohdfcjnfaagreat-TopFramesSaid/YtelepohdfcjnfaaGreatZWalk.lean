/-
  Package walk (printed by gen_walk.py).
-/
import Derived.Test.YtelepohdfcjnfaaGreatZVarV
import Derived.Test.YtelepohdfcjnfaaGreatZAppI
namespace Go.Proofs.YtelepohdfcjnfaaGreat
set_option maxHeartbeats 4000000
set_option maxRecDepth 100000
open Go.RowKit Go.Proofs
abbrev stepZ:Array Value:= #[.bool false, .int .i64 0, .bool false]
theorem Tryz.zeroStep:(Tryz.prog.info? 170).map (fun i=>(i.zero,i.size))=some (some (.agg stepZ),3):=by kernel_rfl
theorem Tryz.infoStep:(Tryz.prog.info? 170).map (·.size)=some 3:=by kernel_rfl
def onV (v:Vw) (a b:Int) (ds:List Int):Int×Bool×List Int:=oneV ds (but v.act [a,b])
def wJoin (v:Vw) (a b left know:Int) (ds:List Int):Bool×Int×Bool×List Int:=
 if left<1∨(v.act.length:Int)<2 then (true,0,false,ds) else (!(onV v a b ds).2.1,(onV v a b ds).1,(onV v a b ds).2.1&&(left==know),(onV v a b ds).2.2)
def wMix (v:Vw) (a b left:Int) (ds:List Int):Bool×Int×Bool×List Int:=
 if left<1 then (true,0,false,ds) else (!(onV v a b ds).2.1,(onV v a b ds).1,false,(onV v a b ds).2.2)
def SEnd (p:Value) (o:Bool×Int×Bool×List Int) (w:World) (e:Ending) (w':World):Prop:=e= .returned (.agg #[.bool o.1, .int .i64 o.2.1, .bool o.2.2.1])∧DrawV w' p o.2.2.2∧Fr (pblk p) w w'
theorem walkOn_any (v:Vw) (x:VwP) (a b:Int) (p:Value) (ds:List Int) (W:World) (h:VwAt W v x) (hd:DrawV W p ds):
  Calls Tryz.prog 116 #[v.val x, .int .i64 a, .int .i64 b,p] W (SEnd p (!(onV v a b ds).2.1,(onV v a b ds).1,false,(onV v a b ds).2.2) W):=by
 obtain ⟨w1,hw1⟩:∃ w1,w1=(W.alloc (.cells (v.arr x) 60)).alloc (.cells stepZ 170):=⟨_,rfl⟩
 have f1:Gr W w1:=by rw [hw1];exact ((Fr.refl _ _).alloc _).alloc _
 have V1:=Lib.hid (show w1.heap[W.heap.size]?=some (.cells (v.arr x) 60 (0,0)) by rw [hw1,heap_alloc_if,if_neg (by simp),heap_alloc_if,if_pos rfl])
 have R1:=Lib.hid (show w1.heap[W.heap.size+1]?=some (.cells stepZ 170 (0,0)) by rw [hw1,heap_alloc_if,if_pos (by simp)])
 have s1:W.heap.size+1<w1.heap.size:=by rw [hw1];simp
 have F1:=Lib.hid f1
 have HW1:=Lib.hid hw1
 have H1:=Lib.hid (h.gr f1)
 have HPB:=Lib.hid hd.lt
 have D1:=Lib.hid (hd.keep f1)
 have e1:=h.act.le
 have e2:=h.act.max
 obtain ⟨o1,ok1,d2,ho⟩:∃ o1 ok1 d2,onV v a b ds=(o1,ok1,d2):=⟨_,_,_,rfl⟩
 rw [ho]
 unfold onV at ho
 have HO:=Lib.hid ho
 unfold SEnd
 simp only
 obtain ⟨w2,hw2⟩:∃ w2,w2=w1.alloc (.cells #[.int .i64 a, .int .i64 b] 3):=⟨_,rfl⟩
 have f2:Gr w1 w2:=by rw [hw2];exact (Fr.refl _ _).alloc _
 have hk2:SlA w2 (some ⟨w1.heap.size,0,none⟩) 2 2 (ints [a,b]):=⟨Nat.le_refl _,by omega,fun j u hj=>by
  refine ⟨w1.heap.size,0,rfl,?_⟩
  rw [hw2,World.cell?_alloc_at _ _ _ _ rfl]
  simpa using hj⟩
 have CB:=Lib.hid (setBut_any x.aa x.ac v.act v.am (some ⟨w1.heap.size,0,none⟩) 2 [a,b] w2 (H1.out.gr f2).act hk2 h.good.act)
 have V2:=Lib.hid (blk_keep f2 V1.out (fun h=>h))
 have R2:=Lib.hid (blk_keep f2 R1.out (fun h=>h))
 have F2:=Lib.hid (Gr.trans F1.out f2)
 have D2:=Lib.hid (D1.out.keep f2)
 have HW2:=Lib.hid hw2
 have hbl:(but v.act [a,b]).length≤64:=by
  have h1:(but v.act [a,b]).length≤v.act.length:=List.length_filter_le _ _
  have:=h.good.act.len
  omega
 clear hw1 f1 hw2 f2 hk2 ho h hd
 have y1:=(Bx.of_block V1.out) 1 _ rfl
 have y2:=(Bx.of_block V1.out) 2 _ rfl
 go_enter Tryz.func116,Tryz.ntmps116
 go_upto_region 1 with fail
 rw [←HW1.out]
 clear HW1
 go_wp2_with fail
 rw [←HW2.out]
 clear HW2 y1 y2 V1 R1 F1 D1 H1
 refine CB.out.mono ?_
 rintro e w3 ⟨ra,rc,rfl,hs3,f3⟩
 have CO:=Lib.hid (oneIntK_any p ds ra rc (but v.act [a,b]) w3 (D2.out.keep f3) hs3)
 unfold OneEnd at CO
 rw [HO.out] at CO
 have R3:=Lib.hid (blk_keep f3 R2.out (fun h=>h))
 have F3:=Lib.hid (Gr.trans F2.out f3)
 generalize but v.act [a,b]=bl at *
 clear f3 hs3 V2 R2 F2 D2 CB HO
 go_wp2_with fail
 refine CO.out.mono ?_
 rintro e w4 ⟨rfl,d4,f4⟩
 have R4:=Lib.hid (blk_keep f4 R3.out (fun h=>by have:=HPB.out _ h;omega))
 have FP4:=Lib.hid (Fr.trans (gr_pblk (p:=p) F3.out) f4 (fun k h=> .inl h))
 have D4:=Lib.hid d4
 clear f4 d4 R3 F3 CO
 go_wp2_with (refine wpList_storeW (vs:= #[.bool (!ok1), .int .i64 o1, .bool false]) R4.out (by rfl) 170 _ _ (by rfl) (by rfl) (by rfl) rfl Tryz.infoStep (by rw [←Array.all_toList];rfl) ?_)
 intro w5 f5 b5
 have FP5:=Lib.hid (fr_new FP4.out f5 (show W.heap.size≤W.heap.size+1 by omega))
 have R5:=Lib.hid b5
 have D5:=Lib.hid (D4.out.keepF f5 (fun k h=>by have:=HPB.out k h;omega))
 clear f5 b5 R4 FP4 D4
 have L5:Hid ((loadVar 170 ⟨W.heap.size+1,0,none⟩).run Tryz.prog w5= .ok (.agg #[.bool (!ok1), .int .i64 o1, .bool false]) w5):=Lib.hid (run_loadVar_mid w5 (W.heap.size+1) 0 170 (Array.toList #[.bool (!ok1), .int .i64 o1, .bool false]) _ (blk_range R5.out) Tryz.underlying170 rfl Tryz.infoStep)
 have A5:Hid ((asAddr (.pointer (some ⟨W.heap.size+1,0,none⟩))).run Tryz.prog w5= .ok ⟨W.heap.size+1,0,none⟩ w5):=Lib.hid (by simp [go_sem])
 go_wp2_with fail
 refine bodyPost_ret (v:= .agg #[.bool (!ok1), .int .i64 o1, .bool false]) (by simp [results,Tryz.results116,Sem.run_bind,Result.andThen_ok,L5.out,A5.out]) rfl ?_
 exact ⟨rfl,D5.out,FP5.out⟩
theorem walkMix_any (v:Vw) (x:VwP) (a b left:Int) (p:Value) (ds:List Int) (W:World) (h:VwAt W v x) (hd:DrawV W p ds):
  Calls Tryz.prog 89 #[v.val x, .int .i64 a, .int .i64 b, .int .i64 left,p] W (SEnd p (wMix v a b left ds) W):=by
 obtain ⟨w1,hw1⟩:∃ w1,w1=(W.alloc (.cells (v.arr x) 60)).alloc (.cells stepZ 170):=⟨_,rfl⟩
 have f1:Gr W w1:=by rw [hw1];exact ((Fr.refl _ _).alloc _).alloc _
 have V1:=Lib.hid (show w1.heap[W.heap.size]?=some (.cells (v.arr x) 60 (0,0)) by rw [hw1,heap_alloc_if,if_neg (by simp),heap_alloc_if,if_pos rfl])
 have R1:=Lib.hid (show w1.heap[W.heap.size+1]?=some (.cells stepZ 170 (0,0)) by rw [hw1,heap_alloc_if,if_pos (by simp)])
 have s1:W.heap.size+1<w1.heap.size:=by rw [hw1];simp
 have F1:=Lib.hid f1
 have HW1:=Lib.hid hw1
 have H1:=Lib.hid (h.gr f1)
 have HPB:=Lib.hid hd.lt
 have DX:=Lib.hid (hd.keep f1)
 have RX:=R1
 have FX:=F1
 have CO:=Lib.hid (walkOn_any v x a b p ds w1 H1.out DX.out)
 unfold SEnd at CO ⊢
 unfold wMix
 clear hw1 f1 h hd
 by_cases hl:left<1
 ·rw [if_pos hl]
  simp only
  go_enter Tryz.func89,Tryz.ntmps89
  go_upto_region 1 with fail
  rw [←HW1.out]
  clear HW1
  go_upto_region 2 with fail
  go_wp2_with (refine wpList_storeW (vs:= #[.bool true, .int .i64 0, .bool false]) RX.out (by rfl) 170 _ _ (by rfl) (by rfl) (by rfl) rfl Tryz.infoStep (by rw [←Array.all_toList];rfl) ?_)
  intro w8 f8 b8
  have F8:=Lib.hid (fr_new FX.out f8 (show W.heap.size≤W.heap.size+1 by omega))
  have R8:=Lib.hid b8
  have D8:=Lib.hid (DX.out.keepF f8 (fun k h=>by have:=HPB.out k h;omega))
  clear f8 b8
  have L8:Hid ((loadVar 170 ⟨W.heap.size+1,0,none⟩).run Tryz.prog w8= .ok (.agg #[.bool true, .int .i64 0, .bool false]) w8):=Lib.hid (run_loadVar_mid w8 (W.heap.size+1) 0 170 (Array.toList #[.bool true, .int .i64 0, .bool false]) _ (blk_range R8.out) Tryz.underlying170 rfl Tryz.infoStep)
  have A8:Hid ((asAddr (.pointer (some ⟨W.heap.size+1,0,none⟩))).run Tryz.prog w8= .ok ⟨W.heap.size+1,0,none⟩ w8):=Lib.hid (by simp [go_sem])
  go_wp2_with fail
  refine bodyPost_ret (v:= .agg #[.bool true, .int .i64 0, .bool false]) (by simp [results,Tryz.results89,Sem.run_bind,Result.andThen_ok,L8.out,A8.out]) rfl ?_
  exact ⟨rfl,D8.out,gr_pblk F8.out⟩
 ·rw [if_neg hl]
  generalize onV v a b ds=o at *
  obtain ⟨o1,ok1,d2⟩:=o
  simp only at CO ⊢
  go_enter Tryz.func89,Tryz.ntmps89
  go_upto_region 1 with fail
  rw [←HW1.out]
  clear HW1
  go_upto_region 3 with fail
  refine wp_region_lit ?_
  refine wpList_load_mid (by rfl) 60 _ (by rfl) W.heap.size 0 (by rfl) (Array.toList (v.arr x)) _ (blk_range V1.out) Tryz.underlying60 rfl Tryz.infoView ?_
  go_wp2_with fail
  refine CO.out.mono ?_
  rintro e w4 ⟨rfl,d4,f4⟩
  have R4:=Lib.hid (blk_keep f4 RX.out (fun h=>by have:=HPB.out _ h;omega))
  have FP4:=Lib.hid (Fr.trans (gr_pblk (p:=p) FX.out) f4 (fun k h=> .inl h))
  have D4:=Lib.hid d4
  clear f4 d4 RX R1 FX F1 CO
  go_wp2_with (refine wpList_storeW (vs:= #[.bool (!ok1), .int .i64 o1, .bool false]) R4.out (by rfl) 170 _ _ (by rfl) (by rfl) (by rfl) rfl Tryz.infoStep (by rw [←Array.all_toList];rfl) ?_)
  intro w5 f5 b5
  have FP5:=Lib.hid (fr_new FP4.out f5 (show W.heap.size≤W.heap.size+1 by omega))
  have R5:=Lib.hid b5
  have D5:=Lib.hid (D4.out.keepF f5 (fun k h=>by have:=HPB.out k h;omega))
  clear f5 b5 R4 FP4 D4
  have L5:Hid ((loadVar 170 ⟨W.heap.size+1,0,none⟩).run Tryz.prog w5= .ok (.agg #[.bool (!ok1), .int .i64 o1, .bool false]) w5):=Lib.hid (run_loadVar_mid w5 (W.heap.size+1) 0 170 (Array.toList #[.bool (!ok1), .int .i64 o1, .bool false]) _ (blk_range R5.out) Tryz.underlying170 rfl Tryz.infoStep)
  have A5:Hid ((asAddr (.pointer (some ⟨W.heap.size+1,0,none⟩))).run Tryz.prog w5= .ok ⟨W.heap.size+1,0,none⟩ w5):=Lib.hid (by simp [go_sem])
  go_wp2_with fail
  refine bodyPost_ret (v:= .agg #[.bool (!ok1), .int .i64 o1, .bool false]) (by simp [results,Tryz.results89,Sem.run_bind,Result.andThen_ok,L5.out,A5.out]) rfl ?_
  exact ⟨rfl,D5.out,FP5.out⟩
theorem walkJoin_any (v:Vw) (x:VwP) (a b left know:Int) (p:Value) (ds:List Int) (W:World) (h:VwAt W v x) (hd:DrawV W p ds):
  Calls Tryz.prog 85 #[v.val x, .int .i64 a, .int .i64 b, .int .i64 left, .int .i64 know,p] W (SEnd p (wJoin v a b left know ds) W):=by
 obtain ⟨iz,hz1,hz2,hzs⟩:=info_pair Tryz.zeroStep
 obtain ⟨w1,hw1⟩:∃ w1,w1=(W.alloc (.cells (v.arr x) 60)).alloc (.cells stepZ 170):=⟨_,rfl⟩
 have f1:Gr W w1:=by rw [hw1];exact ((Fr.refl _ _).alloc _).alloc _
 have V1:=Lib.hid (show w1.heap[W.heap.size]?=some (.cells (v.arr x) 60 (0,0)) by rw [hw1,heap_alloc_if,if_neg (by simp),heap_alloc_if,if_pos rfl])
 have R1:=Lib.hid (show w1.heap[W.heap.size+1]?=some (.cells stepZ 170 (0,0)) by rw [hw1,heap_alloc_if,if_pos (by simp)])
 have s1:W.heap.size+1<w1.heap.size:=by rw [hw1];simp
 have F1:=Lib.hid f1
 have HW1:=Lib.hid hw1
 have H1:=Lib.hid (h.gr f1)
 have HPB:=Lib.hid hd.lt
 have DX:=Lib.hid (hd.keep f1)
 have RX:=R1
 have FX:=F1
 have H0:=Lib.hid h
 have e1:=h.act.le
 have e2:=h.act.max
 have hn64:=h.good.act.len
 unfold SEnd wJoin
 clear hw1 f1 h hd
 have y1:=(Bx.of_block V1.out) 1 _ rfl
 have y2:=(Bx.of_block V1.out) 2 _ rfl
 by_cases hl:left<1
 ·rw [if_pos (.inl hl)]
  simp only
  go_enter Tryz.func85,Tryz.ntmps85
  go_upto_region 1 with fail
  rw [←HW1.out]
  clear HW1
  go_upto_region 2 with fail
  go_wp2_with (refine wpList_storeW (vs:= #[.bool true, .int .i64 0, .bool false]) RX.out (by rfl) 170 _ _ (by rfl) (by rfl) (by rfl) rfl Tryz.infoStep (by rw [←Array.all_toList];rfl) ?_)
  intro w8 f8 b8
  have F8:=Lib.hid (fr_new FX.out f8 (show W.heap.size≤W.heap.size+1 by omega))
  have R8:=Lib.hid b8
  have D8:=Lib.hid (DX.out.keepF f8 (fun k h=>by have:=HPB.out k h;omega))
  clear f8 b8
  have L8:Hid ((loadVar 170 ⟨W.heap.size+1,0,none⟩).run Tryz.prog w8= .ok (.agg #[.bool true, .int .i64 0, .bool false]) w8):=Lib.hid (run_loadVar_mid w8 (W.heap.size+1) 0 170 (Array.toList #[.bool true, .int .i64 0, .bool false]) _ (blk_range R8.out) Tryz.underlying170 rfl Tryz.infoStep)
  have A8:Hid ((asAddr (.pointer (some ⟨W.heap.size+1,0,none⟩))).run Tryz.prog w8= .ok ⟨W.heap.size+1,0,none⟩ w8):=Lib.hid (by simp [go_sem])
  go_wp2_with fail
  refine bodyPost_ret (v:= .agg #[.bool true, .int .i64 0, .bool false]) (by simp [results,Tryz.results85,Sem.run_bind,Result.andThen_ok,L8.out,A8.out]) rfl ?_
  exact ⟨rfl,D8.out,gr_pblk F8.out⟩
 have CL:=Lib.hid (setLen_any x.aa v.act.length x.ac v.am w1)
 by_cases hc:(v.act.length:Int)<2
 ·rw [if_pos (.inr hc)]
  simp only
  go_enter Tryz.func85,Tryz.ntmps85
  go_upto_region 1 with fail
  rw [←HW1.out]
  clear HW1
  go_wp2_with fail
  refine CL.out.mono ?_
  rintro e w2 ⟨rfl,f2⟩
  replace RX:=Lib.hid (blk_keep f2 RX.out (fun h=>h))
  replace FX:=Lib.hid (Gr.trans FX.out f2)
  replace DX:=Lib.hid (DX.out.keep f2)
  clear f2 y1 y2 V1 R1 F1 H1 CL
  go_upto_region 2 with fail
  go_wp2_with (refine wpList_storeW (vs:= #[.bool true, .int .i64 0, .bool false]) RX.out (by rfl) 170 _ _ (by rfl) (by rfl) (by rfl) rfl Tryz.infoStep (by rw [←Array.all_toList];rfl) ?_)
  intro w8 f8 b8
  have F8:=Lib.hid (fr_new FX.out f8 (show W.heap.size≤W.heap.size+1 by omega))
  have R8:=Lib.hid b8
  have D8:=Lib.hid (DX.out.keepF f8 (fun k h=>by have:=HPB.out k h;omega))
  clear f8 b8
  have L8:Hid ((loadVar 170 ⟨W.heap.size+1,0,none⟩).run Tryz.prog w8= .ok (.agg #[.bool true, .int .i64 0, .bool false]) w8):=Lib.hid (run_loadVar_mid w8 (W.heap.size+1) 0 170 (Array.toList #[.bool true, .int .i64 0, .bool false]) _ (blk_range R8.out) Tryz.underlying170 rfl Tryz.infoStep)
  have A8:Hid ((asAddr (.pointer (some ⟨W.heap.size+1,0,none⟩))).run Tryz.prog w8= .ok ⟨W.heap.size+1,0,none⟩ w8):=Lib.hid (by simp [go_sem])
  go_wp2_with fail
  refine bodyPost_ret (v:= .agg #[.bool true, .int .i64 0, .bool false]) (by simp [results,Tryz.results85,Sem.run_bind,Result.andThen_ok,L8.out,A8.out]) rfl ?_
  exact ⟨rfl,D8.out,gr_pblk F8.out⟩
 ·rw [if_neg (fun h=>h.elim hl hc)]
  have CO:=Lib.hid (fun w (f:Gr W w)=>walkOn_any v x a b p ds w (H0.out.gr f))
  unfold SEnd at CO
  generalize onV v a b ds=o at *
  obtain ⟨o1,ok1,d2⟩:=o
  simp only at CO ⊢
  go_enter Tryz.func85,Tryz.ntmps85
  go_upto_region 1 with fail
  rw [←HW1.out]
  clear HW1
  go_wp2_with fail
  refine CL.out.mono ?_
  rintro e w2 ⟨rfl,f2⟩
  replace RX:=Lib.hid (blk_keep f2 RX.out (fun h=>h))
  replace FX:=Lib.hid (Gr.trans FX.out f2)
  replace DX:=Lib.hid (DX.out.keep f2)
  have V2:=Lib.hid (blk_keep f2 V1.out (fun h=>h))
  have s2:=f2.size
  clear f2 y1 y2 V1 R1 F1 H1 CL
  go_upto_region 3 with fail
  refine wp_region_lit ?_
  refine wpList_load_mid (by rfl) 60 _ (by rfl) W.heap.size 0 (by rfl) (Array.toList (v.arr x)) _ (blk_range V2.out) Tryz.underlying60 rfl Tryz.infoView ?_
  go_wp2_with fail
  refine (CO.out w2 FX.out DX.out).mono ?_
  rintro e w4 ⟨rfl,d4,f4⟩
  have R4:=Lib.hid (blk_keep f4 RX.out (fun h=>by have:=HPB.out _ h;omega))
  have FP4:=Lib.hid (Fr.trans (gr_pblk (p:=p) FX.out) f4 (fun k h=> .inl h))
  have D4:=Lib.hid d4
  have s4:=f4.size
  clear f4 d4 RX FX DX CO V2
  go_wp2_with (refine wpList_fresh (vs:= #[.bool (!ok1), .int .i64 o1, .bool false]) hz1 hz2 Tryz.infoStep (by rfl) (by rw [←Array.all_toList];rfl) (by rfl) (by rfl) ?_)
  intro w5 f5 b5 l5
  have R5:=Lib.hid (blk_keep f5 R4.out (fun h=>h))
  have FP5:=Lib.hid (Fr.trans FP4.out f5 (fun k h=>h.elim))
  have D5:=Lib.hid (D4.out.keep f5)
  obtain ⟨g,hg⟩:∃ g,g=w4.heap.size:=⟨_,rfl⟩
  rw [←hg] at b5 l5 ⊢
  have B5:=Lib.hid b5
  have hgW:W.heap.size+1<g:=by omega
  have z0:=(Bx.of_block B5.out) 0 _ rfl
  have z2:=(Bx.of_block B5.out) 2 _ rfl
  have zf:=Lib.frozen_of_heap B5.out 2
  clear f5 b5 R4 FP4 D4 hg
  cases ok1
  case false=>
   go_upto_region 5 with fail
   obtain ⟨w6,hw6⟩:∃ w6,w6=World.setCell w5 ⟨g,2,none⟩ (.bool (false)):=⟨_,rfl⟩
   rw [←hw6]
   have f6:Fr (fun k=>k=g) w5 w6:=by rw [hw6];exact (Fr.refl (fun k=>k=g) w5).setCell (p:=⟨g,2,none⟩) (.inl rfl) _
   have b6:w6.heap[g]?=some (.cells #[.bool true, .int .i64 o1, .bool (false)] 170 (0,0)):=by rw [hw6];exact blk_set1 B5.out 2 _
   have R6:=Lib.hid (blk_keep f6 R5.out (by omega))
   have FP6:=Lib.hid (fr_new FP5.out f6 (by omega))
   have D6:=Lib.hid (D5.out.keepF f6 (fun k h=>by have:=HPB.out k h;omega))
   clear hw6 f6 z0 z2 zf R5 FP5 D5 B5
   refine wp_region_lit ?_
   refine wpList_load_mid (by rfl) 170 _ (by rfl) g 0 (by rfl) (Array.toList #[.bool true, .int .i64 o1, .bool (false)]) _ (blk_range b6) Tryz.underlying170 rfl Tryz.infoStep ?_
   go_wp2_with (refine wpList_storeW (vs:= #[.bool true, .int .i64 o1, .bool (false)]) R6.out (by rfl) 170 _ _ (by rfl) (by rfl) (by rfl) rfl Tryz.infoStep (by rw [←Array.all_toList];rfl) ?_)
   intro w7 f7 b7
   have FP7:=Lib.hid (fr_new FP6.out f7 (show W.heap.size≤W.heap.size+1 by omega))
   have R7:=Lib.hid b7
   have D7:=Lib.hid (D6.out.keepF f7 (fun k h=>by have:=HPB.out k h;omega))
   clear f7 b7 R6 FP6 D6 b6
   have L7:Hid ((loadVar 170 ⟨W.heap.size+1,0,none⟩).run Tryz.prog w7= .ok (.agg #[.bool true, .int .i64 o1, .bool (false)]) w7):=Lib.hid (run_loadVar_mid w7 (W.heap.size+1) 0 170 (Array.toList #[.bool true, .int .i64 o1, .bool (false)]) _ (blk_range R7.out) Tryz.underlying170 rfl Tryz.infoStep)
   have A7:Hid ((asAddr (.pointer (some ⟨W.heap.size+1,0,none⟩))).run Tryz.prog w7= .ok ⟨W.heap.size+1,0,none⟩ w7):=Lib.hid (by simp [go_sem])
   go_wp2_with fail
   refine bodyPost_ret (v:= .agg #[.bool true, .int .i64 o1, .bool (false)]) (by simp [results,Tryz.results85,Sem.run_bind,Result.andThen_ok,L7.out,A7.out]) rfl ?_
   exact ⟨rfl,D7.out,FP7.out⟩
  case true=>
   go_upto_region 5 with fail
   obtain ⟨w6,hw6⟩:∃ w6,w6=World.setCell w5 ⟨g,2,none⟩ (.bool (left==know)):=⟨_,rfl⟩
   rw [←hw6]
   have f6:Fr (fun k=>k=g) w5 w6:=by rw [hw6];exact (Fr.refl (fun k=>k=g) w5).setCell (p:=⟨g,2,none⟩) (.inl rfl) _
   have b6:w6.heap[g]?=some (.cells #[.bool false, .int .i64 o1, .bool (left==know)] 170 (0,0)):=by rw [hw6];exact blk_set1 B5.out 2 _
   have R6:=Lib.hid (blk_keep f6 R5.out (by omega))
   have FP6:=Lib.hid (fr_new FP5.out f6 (by omega))
   have D6:=Lib.hid (D5.out.keepF f6 (fun k h=>by have:=HPB.out k h;omega))
   clear hw6 f6 z0 z2 zf R5 FP5 D5 B5
   refine wp_region_lit ?_
   refine wpList_load_mid (by rfl) 170 _ (by rfl) g 0 (by rfl) (Array.toList #[.bool false, .int .i64 o1, .bool (left==know)]) _ (blk_range b6) Tryz.underlying170 rfl Tryz.infoStep ?_
   go_wp2_with (refine wpList_storeW (vs:= #[.bool false, .int .i64 o1, .bool (left==know)]) R6.out (by rfl) 170 _ _ (by rfl) (by rfl) (by rfl) rfl Tryz.infoStep (by rw [←Array.all_toList];rfl) ?_)
   intro w7 f7 b7
   have FP7:=Lib.hid (fr_new FP6.out f7 (show W.heap.size≤W.heap.size+1 by omega))
   have R7:=Lib.hid b7
   have D7:=Lib.hid (D6.out.keepF f7 (fun k h=>by have:=HPB.out k h;omega))
   clear f7 b7 R6 FP6 D6 b6
   have L7:Hid ((loadVar 170 ⟨W.heap.size+1,0,none⟩).run Tryz.prog w7= .ok (.agg #[.bool false, .int .i64 o1, .bool (left==know)]) w7):=Lib.hid (run_loadVar_mid w7 (W.heap.size+1) 0 170 (Array.toList #[.bool false, .int .i64 o1, .bool (left==know)]) _ (blk_range R7.out) Tryz.underlying170 rfl Tryz.infoStep)
   have A7:Hid ((asAddr (.pointer (some ⟨W.heap.size+1,0,none⟩))).run Tryz.prog w7= .ok ⟨W.heap.size+1,0,none⟩ w7):=Lib.hid (by simp [go_sem])
   go_wp2_with fail
   refine bodyPost_ret (v:= .agg #[.bool false, .int .i64 o1, .bool (left==know)]) (by simp [results,Tryz.results85,Sem.run_bind,Result.andThen_ok,L7.out,A7.out]) rfl ?_
   exact ⟨rfl,D7.out,FP7.out⟩
end Go.Proofs.YtelepohdfcjnfaaGreat
