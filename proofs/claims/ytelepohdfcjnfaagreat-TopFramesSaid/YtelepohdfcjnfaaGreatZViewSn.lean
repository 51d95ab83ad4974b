/-
  Package view: Leave, Evict, Sane (printed by gen_vops.py).
-/
import Derived.Test.YtelepohdfcjnfaaGreatZViewKnow
import Derived.Test.YtelepohdfcjnfaaGreatZViewFn
namespace Go.Proofs.YtelepohdfcjnfaaGreat
set_option maxHeartbeats 4000000
set_option maxRecDepth 100000
section
open Go.RowKit Go.Proofs
theorem viewLeave_any (v:Vw) (x:VwP) (n:Int) (keep:Bool) (p:Value) (ds:List Int) (W:World) (h:VwAt W v x) (hd:DrawV W p ds) (hsep:VwSep p v x):
  Calls Tryz.prog 82 #[v.val x, .int .i64 n, .bool keep,p] W (VEnd p v (vLeave v n keep ds).1 (vLeave v n keep ds).2.2 (fun l=> .tuple #[.agg l, .bool (vLeave v n keep ds).2.1]) W x):=by
 obtain ⟨iz,hz1,hz2,hzs⟩:=info_pair Tryz.zeroSet
 obtain ⟨w1,hw1⟩:∃ w1,w1=(W.alloc (.cells (v.arr x) 60)).alloc (.cells viewZ 60):=⟨_,rfl⟩
 have f1:Gr W w1:=by rw [hw1];exact ((Fr.refl _ _).alloc _).alloc _
 have V1:=Lib.hid (show w1.heap[W.heap.size]?=some (.cells (v.arr x) 60 (0,0)) by rw [hw1,heap_alloc_if,if_neg (by simp),heap_alloc_if,if_pos rfl])
 have R1:=Lib.hid (show w1.heap[W.heap.size+1]?=some (.cells viewZ 60 (0,0)) by rw [hw1,heap_alloc_if,if_pos (by simp)])
 have s1:W.heap.size+1<w1.heap.size:=by rw [hw1];simp
 have F1:=Lib.hid f1
 have HW1:=Lib.hid hw1
 have H1:=Lib.hid (h.gr f1)
 have H0:=Lib.hid h
 have SEP:=Lib.hid hsep
 have HPB:=Lib.hid hd.lt
 have D1:=Lib.hid (hd.keep f1)
 have e1:=h.act.le
 have e2:=h.act.max
 have e3:=h.pas.le
 have e4:=h.pas.max
 have CD:=Lib.hid (setDrop3_any x.aa x.ac v.act v.am n w1 H1.out.act h.good.act)
 unfold SetOut3 at CD
 obtain ⟨ok,hok⟩:∃ ok,ok=has v.act n:=⟨_,rfl⟩
 obtain ⟨l',hl'⟩:∃ l',l'=sDrop v.act n:=⟨_,rfl⟩
 have HG:=Lib.hid (h.good.act.drop n)
 rw [←hok, ←hl'] at CD
 rw [←hl'] at HG
 obtain ⟨v',dn,kb,hvl⟩:∃ v' dn kb,vLeave v n keep ds=(v',kb,dn):=⟨_,_,_,rfl⟩
 rw [hvl]
 unfold VEnd
 simp only
 have HVL:=Lib.hid hvl
 have HOK:=Lib.hid hok
 have HL:=Lib.hid hl'
 clear hw1 f1 hok hl' hvl h hd hsep
 have y1:=(Bx.of_block V1.out) 1 _ rfl
 have y2:=(Bx.of_block V1.out) 2 _ rfl
 go_enter Tryz.func82,Tryz.ntmps82
 go_upto_region 1 with fail
 rw [←HW1.out]
 clear HW1
 go_wp2_with fail
 refine CD.out.mono ?_
 rintro e w2 ⟨a',cap',rfl,hs',f2,hfr⟩
 have V2:=Lib.hid (blk_keep f2 V1.out (fun h=>h))
 have R2:=Lib.hid (blk_keep f2 R1.out (fun h=>h))
 have F2:=Lib.hid (Gr.trans F1.out f2)
 have D2:=Lib.hid (D1.out.keep f2)
 have H2:=Lib.hid (show VwAt w2 ⟨v.self,l',v.am,v.pas,v.pm⟩ ⟨a',cap',x.pa,x.pc⟩ from ⟨hs',(H1.out.gr f2).pas,⟨HG.out,H0.out.good.pas⟩⟩)
 have HF:=Lib.hid (show VwFrom w1 v x ⟨v.self,l',v.am,v.pas,v.pm⟩ ⟨a',cap',x.pa,x.pc⟩ from ⟨hfr,fun q h=> .inl ⟨h,rfl⟩⟩)
 have SEP2:=Lib.hid (SEP.out.of_from D1.out HF.out)
 have e5:=hs'.le
 have e6:=hs'.max
 have s2:=f2.size
 clear f2 V1 R1 F1 CD y1 y2 hs' H1 hfr HG D1
 go_wp2_with (refine wpList_fresh (vs:= #[.slice a' l'.length cap', .int .i64 v.am]) hz1 hz2 Tryz.infoSet2 (by rfl) (by rw [←Array.all_toList];rfl) (by rfl) (by rfl) ?_)
 intro w3 f3 b3 l3
 have V3:=Lib.hid (blk_keep f3 V2.out (fun h=>h))
 have R3:=Lib.hid (blk_keep f3 R2.out (fun h=>h))
 have F3:=Lib.hid (Gr.trans F2.out f3)
 have D3:=Lib.hid (D2.out.keep f3)
 have H3:=Lib.hid (H2.out.gr f3)
 have s3:=f3.size
 obtain ⟨z,hz⟩:∃ z,z=w2.heap.size:=⟨_,rfl⟩
 rw [←hz] at b3 l3 ⊢
 have Z3:=Lib.hid b3
 have hqz:W.heap.size+1<z:=by omega
 clear f3 b3 V2 R2 F2 H2 hz D2
 cases ok
 case false=>
  have hvl:=HVL.out
  unfold vLeave at hvl
  rw [←HOK.out,if_neg (by decide)] at hvl
  injection hvl with h1 h2
  injection h2 with h2 h3
  subst h1 h2 h3
  have FPX:=Lib.hid (gr_pblk (p:=p) F3.out)
  have DX:=D3
  clear HVL HOK HL HF SEP2 H3
  go_upto_region 3 with fail
  refine wp_region_lit ?_
  refine wpList_load_mid (by rfl) 60 _ (by rfl) W.heap.size 0 (by rfl) (Array.toList (v.arr x)) _ (blk_range V3.out) Tryz.underlying60 rfl Tryz.infoView ?_
  go_wp2_with (refine wpList_storeW (vs:=v.arr x) R3.out (by rfl) 60 _ _ (by rfl) (by rfl) (by rfl) rfl Tryz.infoView (by rw [←Array.all_toList];rfl) ?_)
  intro w8 f8 b8
  have F8:=Lib.hid (fr_new FPX.out f8 (show W.heap.size≤W.heap.size+1 by omega))
  have R8:=Lib.hid b8
  have D8:=Lib.hid (DX.out.keepF f8 (fun k h=>by have:=HPB.out k h;omega))
  have H8:=Lib.hid (H0.out.drawn SEP.out F8.out)
  clear f8 b8
  have L8:Hid ((loadVar 60 ⟨W.heap.size+1,0,none⟩).run Tryz.prog w8= .ok (.agg (v.arr x)) w8):=Lib.hid (run_loadVar_mid w8 (W.heap.size+1) 0 60 (Array.toList (v.arr x)) _ (blk_range R8.out) Tryz.underlying60 rfl Tryz.infoView)
  have A8:Hid ((asAddr (.pointer (some ⟨W.heap.size+1,0,none⟩))).run Tryz.prog w8= .ok ⟨W.heap.size+1,0,none⟩ w8):=Lib.hid (by simp [go_sem])
  go_wp2_with fail
  refine bodyPost_ret (v:= .tuple #[.agg (v.arr x), .bool false]) (by simp [results,Tryz.results82,Sem.run_bind,Result.andThen_ok,L8.out,A8.out]) rfl ?_
  exact ⟨x,rfl,H8.out,D8.out,F8.out,VwFrom.refl _ _ _⟩
 case true=>
  have z0:=(Bx.of_block Z3.out) 0 _ rfl
  have z1:=(Bx.of_block Z3.out) 1 _ rfl
  go_upto_region 4 with fail
  go_wp2_with (refine wpList_storeB (o:=1) (vs:= #[.slice a' l'.length cap', .int .i64 v.am]) V3.out (by rfl) 58 _ _ (by rfl) (by rfl) (by rfl) (Nat.le_of_ble_eq_true rfl) Tryz.infoSet2 (by rw [←Array.all_toList];rfl) ?_)
  intro w4 f4 b4
  have V4:=Lib.hid (show w4.heap[W.heap.size]?=some (.cells #[.int .i64 v.self, .slice a' l'.length cap', .int .i64 v.am, .slice x.pa v.pas.length x.pc, .int .i64 v.pm] 60 (0,0)) from b4)
  have R4:=Lib.hid (blk_keep f4 R3.out (by omega))
  have F4:=Lib.hid (fr_new F3.out f4 (Nat.le_refl _))
  have D4:=Lib.hid (D3.out.keepF f4 HPB.out)
  have H4:=Lib.hid (H3.out.moved f4 H0.out F4.out HF.out (fun k h=>by omega) nof)
  have K4:=Lib.hid (f4.mono (T:=fun k=>k≤W.heap.size+1) (fun k _ h=>by omega))
  have s4:=f4.size
  clear f4 b4 V3 R3 F3 D3 Z3 z0 z1
  cases keep
  case false=>
   have hvl:=HVL.out
   unfold vLeave at hvl
   rw [←HOK.out,if_pos rfl,if_neg (by decide), ←HL.out] at hvl
   injection hvl with h1 h2
   injection h2 with h2 h3
   subst h1 h2 h3
   clear HVL HOK HL
   go_upto_region 7 with fail
   refine wp_region_lit ?_
   refine wpList_load_mid (by rfl) 60 _ (by rfl) W.heap.size 0 (by rfl) (Array.toList #[.int .i64 v.self, .slice a' l'.length cap', .int .i64 v.am, .slice x.pa v.pas.length x.pc, .int .i64 v.pm]) _ (blk_range V4.out) Tryz.underlying60 rfl Tryz.infoView ?_
   go_wp2_with (refine wpList_storeW (vs:= #[.int .i64 v.self, .slice a' l'.length cap', .int .i64 v.am, .slice x.pa v.pas.length x.pc, .int .i64 v.pm]) R4.out (by rfl) 60 _ _ (by rfl) (by rfl) (by rfl) rfl Tryz.infoView (by rw [←Array.all_toList];rfl) ?_)
   intro w5 f5 b5
   have F5:=Lib.hid (fr_new F4.out f5 (show W.heap.size≤W.heap.size+1 by omega))
   have R5:=Lib.hid b5
   have D5:=Lib.hid (D4.out.keepF f5 (fun k h=>by have:=HPB.out k h;omega))
   have H5:=Lib.hid (H4.out.moved f5 H0.out F5.out HF.out (fun k h=>by omega) nof)
   clear f5 b5
   have L5:Hid ((loadVar 60 ⟨W.heap.size+1,0,none⟩).run Tryz.prog w5= .ok (.agg #[.int .i64 v.self, .slice a' l'.length cap', .int .i64 v.am, .slice x.pa v.pas.length x.pc, .int .i64 v.pm]) w5):=Lib.hid (run_loadVar_mid w5 (W.heap.size+1) 0 60 (Array.toList #[.int .i64 v.self, .slice a' l'.length cap', .int .i64 v.am, .slice x.pa v.pas.length x.pc, .int .i64 v.pm]) _ (blk_range R5.out) Tryz.underlying60 rfl Tryz.infoView)
   have A5:Hid ((asAddr (.pointer (some ⟨W.heap.size+1,0,none⟩))).run Tryz.prog w5= .ok ⟨W.heap.size+1,0,none⟩ w5):=Lib.hid (by simp [go_sem])
   go_wp2_with fail
   refine bodyPost_ret (v:= .tuple #[.agg #[.int .i64 v.self, .slice a' l'.length cap', .int .i64 v.am, .slice x.pa v.pas.length x.pc, .int .i64 v.pm], .bool true]) (by simp [results,Tryz.results82,Sem.run_bind,Result.andThen_ok,L5.out,A5.out]) rfl ?_
   exact ⟨⟨a',cap',x.pa,x.pc⟩,rfl,H5.out,D5.out,gr_pblk F5.out,HF.out.mono (by omega)⟩
  case true=>
   have hvl:=HVL.out
   unfold vLeave at hvl
   rw [←HOK.out,if_pos rfl,if_pos rfl, ←HL.out] at hvl
   injection hvl with h1 h2
   injection h2 with h2 h3
   have CK:=Lib.hid (viewKnow_any ⟨v.self,l',v.am,v.pas,v.pm⟩ ⟨a',cap',x.pa,x.pc⟩ n p ds w4 H4.out D4.out SEP2.out)
   rw [h1,h3] at CK
   subst h2
   unfold VEnd at CK
   clear HVL HOK HL h1 h3 H4 D4 SEP2
   go_upto_region 6 with fail
   refine wp_region_lit ?_
   refine wpList_load_mid (by rfl) 60 _ (by rfl) W.heap.size 0 (by rfl) (Array.toList #[.int .i64 v.self, .slice a' l'.length cap', .int .i64 v.am, .slice x.pa v.pas.length x.pc, .int .i64 v.pm]) _ (blk_range V4.out) Tryz.underlying60 rfl Tryz.infoView ?_
   go_wp2_with fail
   refine CK.out.mono ?_
   rintro e w5 ⟨y,rfl,h5,d5,f5,k5⟩
   have V5:=Lib.hid (blk_keep f5 V4.out (fun h=>by have:=HPB.out _ h;omega))
   have R5:=Lib.hid (blk_keep f5 R4.out (fun h=>by have:=HPB.out _ h;omega))
   have FP5:=Lib.hid (Fr.trans (gr_pblk (p:=p) F4.out) f5 (fun k h=> .inl h))
   have H5:=Lib.hid h5
   have D5:=Lib.hid d5
   have HF5:=Lib.hid (HF.out.trans (by omega) k5)
   have s5:=f5.size
   clear h5 d5 f5 k5 V4 R4 F4 CK HF K4
   go_wp2_with (refine wpList_storeW (vs:=v'.arr y) V5.out (by rfl) 60 _ _ (by rfl) (by rfl) (by rfl) rfl Tryz.infoView (by rw [←Array.all_toList];rfl) ?_)
   intro w6 f6 b6
   have V6:=Lib.hid b6
   have R6:=Lib.hid (blk_keep f6 R5.out (by omega))
   have FP6:=Lib.hid (fr_new FP5.out f6 (Nat.le_refl _))
   have D6:=Lib.hid (D5.out.keepF f6 HPB.out)
   have K6:=Lib.hid (f6.mono (T:=fun k=>k≤W.heap.size+1) (fun k _ h=>by omega))
   clear f6 b6 V5 R5 FP5 D5
   go_upto_region 7 with fail
   refine wp_region_lit ?_
   refine wpList_load_mid (by rfl) 60 _ (by rfl) W.heap.size 0 (by rfl) (Array.toList (v'.arr y)) _ (blk_range V6.out) Tryz.underlying60 rfl Tryz.infoView ?_
   go_wp2_with (refine wpList_storeW (vs:=v'.arr y) R6.out (by rfl) 60 _ _ (by rfl) (by rfl) (by rfl) rfl Tryz.infoView (by rw [←Array.all_toList];rfl) ?_)
   intro w7 f7 b7
   have FP7:=Lib.hid (fr_new FP6.out f7 (show W.heap.size≤W.heap.size+1 by omega))
   have R7:=Lib.hid b7
   have D7:=Lib.hid (D6.out.keepF f7 (fun k h=>by have:=HPB.out k h;omega))
   have H7:=Lib.hid (H5.out.moved (Fr.trans K6.out f7 (fun k h=> .inl (by omega))) H0.out FP7.out HF5.out (fun k h=>by omega) SEP.out)
   clear f7 b7 V6 R6 FP6 D6 K6
   have L7:Hid ((loadVar 60 ⟨W.heap.size+1,0,none⟩).run Tryz.prog w7= .ok (.agg (v'.arr y)) w7):=Lib.hid (run_loadVar_mid w7 (W.heap.size+1) 0 60 (Array.toList (v'.arr y)) _ (blk_range R7.out) Tryz.underlying60 rfl Tryz.infoView)
   have A7:Hid ((asAddr (.pointer (some ⟨W.heap.size+1,0,none⟩))).run Tryz.prog w7= .ok ⟨W.heap.size+1,0,none⟩ w7):=Lib.hid (by simp [go_sem])
   go_wp2_with fail
   refine bodyPost_ret (v:= .tuple #[.agg (v'.arr y), .bool true]) (by simp [results,Tryz.results82,Sem.run_bind,Result.andThen_ok,L7.out,A7.out]) rfl ?_
   exact ⟨y,rfl,H7.out,D7.out,FP7.out,HF5.out.mono (by omega)⟩
theorem viewEvict_any (v:Vw) (x:VwP) (p:Value) (ds:List Int) (W:World) (h:VwAt W v x) (hd:DrawV W p ds) (hsep:VwSep p v x):
  Calls Tryz.prog 119 #[v.val x,p] W (VEnd p v (vEvict v ds).1 (vEvict v ds).2.2.2 (fun l=> .tuple #[.agg l, .int .i64 (vEvict v ds).2.1, .bool (vEvict v ds).2.2.1]) W x):=by
 obtain ⟨w1,hw1⟩:∃ w1,w1=(W.alloc (.cells (v.arr x) 60)).alloc (.cells viewZ 60):=⟨_,rfl⟩
 have f1:Gr W w1:=by rw [hw1];exact ((Fr.refl _ _).alloc _).alloc _
 have V1:=Lib.hid (show w1.heap[W.heap.size]?=some (.cells (v.arr x) 60 (0,0)) by rw [hw1,heap_alloc_if,if_neg (by simp),heap_alloc_if,if_pos rfl])
 have R1:=Lib.hid (show w1.heap[W.heap.size+1]?=some (.cells viewZ 60 (0,0)) by rw [hw1,heap_alloc_if,if_pos (by simp)])
 have s1:W.heap.size+1<w1.heap.size:=by rw [hw1];simp
 have F1:=Lib.hid f1
 have HW1:=Lib.hid hw1
 have H1:=Lib.hid (h.gr f1)
 have H0:=Lib.hid h
 have SEP:=Lib.hid hsep
 have HPB:=Lib.hid hd.lt
 have D1:=Lib.hid (hd.keep f1)
 have e1:=h.act.le
 have e2:=h.act.max
 have e3:=h.pas.le
 have e4:=h.pas.max
 have CAll:=Lib.hid (setAll_any x.aa x.ac v.act v.am w1 H1.out.act h.good.act)
 obtain ⟨o1,ok1,d2,ho⟩:∃ o1 ok1 d2,oneV ds v.act=(o1,ok1,d2):=⟨_,_,_,rfl⟩
 obtain ⟨v',on,kb,dn,hve⟩:∃ v' on kb dn,vEvict v ds=(v',on,kb,dn):=⟨_,_,_,_,rfl⟩
 rw [hve]
 unfold VEnd
 simp only
 have HVE:=Lib.hid hve
 have HO:=Lib.hid ho
 clear hw1 f1 ho hve h hd hsep
 have y1:=(Bx.of_block V1.out) 1 _ rfl
 have y2:=(Bx.of_block V1.out) 2 _ rfl
 go_enter Tryz.func119,Tryz.ntmps119
 go_upto_region 1 with fail
 rw [←HW1.out]
 clear HW1
 go_wp2_with fail
 refine CAll.out.mono ?_
 rintro e w2 ⟨rv,rfl,own2,b2⟩
 have f2:=Gr.of_below b2
 obtain ⟨ra,rc,rfl,hs2,hlo2, -⟩:=SlA.of_own own2
 have CO:=Lib.hid (oneInt_any p ds ra rc v.act w2 (D1.out.keep f2) hs2 (fun q hq hk=>by have:=(hlo2 q hq).1;have:=HPB.out _ hk;omega))
 unfold OneEnd at CO
 rw [HO.out] at CO
 have V2:=Lib.hid (blk_keep f2 V1.out (fun h=>h))
 have R2:=Lib.hid (blk_keep f2 R1.out (fun h=>h))
 have F2:=Lib.hid (Gr.trans F1.out f2)
 have s2:=f2.size
 clear f2 b2 own2 hs2 hlo2 V1 R1 F1 D1 H1 CAll y1 y2
 go_wp2_with fail
 refine CO.out.mono ?_
 rintro e w3 ⟨rfl,d3,f3⟩
 have V3:=Lib.hid (blk_keep f3 V2.out (fun h=>by have:=HPB.out _ h;omega))
 have R3:=Lib.hid (blk_keep f3 R2.out (fun h=>by have:=HPB.out _ h;omega))
 have FPX:=Lib.hid (Fr.trans (gr_pblk (p:=p) F2.out) f3 (fun k h=> .inl h))
 have DX:=Lib.hid d3
 have s3:=f3.size
 clear f3 d3 V2 R2 F2 CO
 cases ok1
 case false=>
  have hnil:v.act=[]:=by
   apply Classical.byContradiction
   intro hne
   have:=HO.out
   unfold oneV at this
   rw [if_neg hne] at this
   injection this with _ h2
   injection h2 with h3 _
   cases h3
  have hve:=HVE.out
  unfold vEvict at hve
  rw [if_pos hnil] at hve
  have hd2:d2=ds:=by
   have:=HO.out
   unfold oneV at this
   rw [if_pos hnil] at this
   injection this with _ h2
   injection h2 with _ h3
   exact h3.symm
  injection hve with h1 h2
  injection h2 with h2 h3
  injection h3 with h3 h4
  subst h1 h2 h3 h4 hd2
  clear hnil HVE HO
  go_upto_region 3 with fail
  refine wp_region_lit ?_
  refine wpList_load_mid (by rfl) 60 _ (by rfl) W.heap.size 0 (by rfl) (Array.toList (v.arr x)) _ (blk_range V3.out) Tryz.underlying60 rfl Tryz.infoView ?_
  go_wp2_with (refine wpList_storeW (vs:=v.arr x) R3.out (by rfl) 60 _ _ (by rfl) (by rfl) (by rfl) rfl Tryz.infoView (by rw [←Array.all_toList];rfl) ?_)
  intro w8 f8 b8
  have F8:=Lib.hid (fr_new FPX.out f8 (show W.heap.size≤W.heap.size+1 by omega))
  have R8:=Lib.hid b8
  have D8:=Lib.hid (DX.out.keepF f8 (fun k h=>by have:=HPB.out k h;omega))
  have H8:=Lib.hid (H0.out.drawn SEP.out F8.out)
  clear f8 b8
  have L8:Hid ((loadVar 60 ⟨W.heap.size+1,0,none⟩).run Tryz.prog w8= .ok (.agg (v.arr x)) w8):=Lib.hid (run_loadVar_mid w8 (W.heap.size+1) 0 60 (Array.toList (v.arr x)) _ (blk_range R8.out) Tryz.underlying60 rfl Tryz.infoView)
  have A8:Hid ((asAddr (.pointer (some ⟨W.heap.size+1,0,none⟩))).run Tryz.prog w8= .ok ⟨W.heap.size+1,0,none⟩ w8):=Lib.hid (by simp [go_sem])
  go_wp2_with fail
  refine bodyPost_ret (v:= .tuple #[.agg (v.arr x), .int .i64 0, .bool false]) (by simp [results,Tryz.results119,Sem.run_bind,Result.andThen_ok,L8.out,A8.out]) rfl ?_
  exact ⟨x,rfl,H8.out,D8.out,F8.out,VwFrom.refl _ _ _⟩
 case true=>
  have hne:v.act≠[]:=by
   intro hnil
   have:=HO.out
   unfold oneV at this
   rw [if_pos hnil] at this
   injection this with _ h2
   injection h2 with h3 _
   cases h3
  have hve:=HVE.out
  unfold vEvict at hve
  rw [if_neg hne,HO.out] at hve
  injection hve with h1 h2
  injection h2 with h2 h3
  injection h3 with h3 h4
  simp only at h1 h2 h4
  subst h3
  subst h2
  have hok:(vLeave v o1 true d2).2.1=(vLeave v o1 true d2).2.1:=rfl
  have CL:=Lib.hid (viewLeave_any v x o1 true p d2 w3 (H0.out.drawn SEP.out FPX.out) DX.out SEP.out)
  unfold VEnd at CL
  obtain ⟨kl,hkl⟩:∃ kl,kl=(vLeave v o1 true d2).2.1:=⟨_,rfl⟩
  rw [h1,h4, ←hkl] at CL
  clear HVE HO hne h1 h4 hok hkl DX
  go_upto_region 4 with fail
  refine wp_region_lit ?_
  refine wpList_load_mid (by rfl) 60 _ (by rfl) W.heap.size 0 (by rfl) (Array.toList (v.arr x)) _ (blk_range V3.out) Tryz.underlying60 rfl Tryz.infoView ?_
  go_wp2_with fail
  refine CL.out.mono ?_
  rintro e w5 ⟨y,rfl,h5,d5,f5,k5⟩
  have V5:=Lib.hid (blk_keep f5 V3.out (fun h=>by have:=HPB.out _ h;omega))
  have R5:=Lib.hid (blk_keep f5 R3.out (fun h=>by have:=HPB.out _ h;omega))
  have FP5:=Lib.hid (Fr.trans FPX.out f5 (fun k h=> .inl h))
  have H5:=Lib.hid h5
  have D5:=Lib.hid d5
  have HF5:=Lib.hid (k5.mono (a:=w1) (by omega))
  have s5:=f5.size
  clear h5 d5 f5 k5 V3 R3 FPX CL
  go_wp2_with (refine wpList_storeW (vs:=v'.arr y) V5.out (by rfl) 60 _ _ (by rfl) (by rfl) (by rfl) rfl Tryz.infoView (by rw [←Array.all_toList];rfl) ?_)
  intro w6 f6 b6
  have V6:=Lib.hid b6
  have R6:=Lib.hid (blk_keep f6 R5.out (by omega))
  have FP6:=Lib.hid (fr_new FP5.out f6 (Nat.le_refl _))
  have D6:=Lib.hid (D5.out.keepF f6 HPB.out)
  have K6:=Lib.hid (f6.mono (T:=fun k=>k≤W.heap.size+1) (fun k _ h=>by omega))
  clear f6 b6 V5 R5 FP5 D5
  go_upto_region 5 with fail
  refine wp_region_lit ?_
  refine wpList_load_mid (by rfl) 60 _ (by rfl) W.heap.size 0 (by rfl) (Array.toList (v'.arr y)) _ (blk_range V6.out) Tryz.underlying60 rfl Tryz.infoView ?_
  refine wpList_move ?_
  refine wpList_storeW (vs:=v'.arr y) R6.out (by rfl) 60 _ _ (by rfl) (by rfl) (by rfl) rfl Tryz.infoView (by rw [←Array.all_toList];rfl) ?_
  intro w7 f7 b7
  have FP7:=Lib.hid (fr_new FP6.out f7 (show W.heap.size≤W.heap.size+1 by omega))
  have R7:=Lib.hid b7
  have D7:=Lib.hid (D6.out.keepF f7 (fun k h=>by have:=HPB.out k h;omega))
  have H7:=Lib.hid (H5.out.moved (Fr.trans K6.out f7 (fun k h=> .inl (by omega))) H0.out FP7.out HF5.out (fun k h=>by omega) SEP.out)
  clear f7 b7 V6 R6 FP6 D6 K6
  have L7:Hid ((loadVar 60 ⟨W.heap.size+1,0,none⟩).run Tryz.prog w7= .ok (.agg (v'.arr y)) w7):=Lib.hid (run_loadVar_mid w7 (W.heap.size+1) 0 60 (Array.toList (v'.arr y)) _ (blk_range R7.out) Tryz.underlying60 rfl Tryz.infoView)
  have A7:Hid ((asAddr (.pointer (some ⟨W.heap.size+1,0,none⟩))).run Tryz.prog w7= .ok ⟨W.heap.size+1,0,none⟩ w7):=Lib.hid (by simp [go_sem])
  go_wp2_with fail
  refine bodyPost_ret (v:= .tuple #[.agg (v'.arr y), .int .i64 o1, .bool true]) (by simp [results,Tryz.results119,Sem.run_bind,Result.andThen_ok,L7.out,A7.out]) rfl ?_
  exact ⟨y,rfl,H7.out,D7.out,FP7.out,HF5.out.mono (by omega)⟩
end
section
open Go.RowKit Go.Proofs
theorem viewSane_any (v:Vw) (x:VwP) (W:World) (h:VwAt W v x):Calls Tryz.prog 15 #[v.val x] W fun e w'=>e= .returned (.bool (vSane v))∧Gr W w':=by
 obtain ⟨w1,hw1⟩:∃ w1,w1=W.alloc (.cells (v.arr x) 60):=⟨_,rfl⟩
 have f1:Gr W w1:=by rw [hw1];exact (Fr.refl _ _).alloc _
 have V1:=Lib.hid (show w1.heap[W.heap.size]?=some (.cells (v.arr x) 60 (0,0)) by rw [hw1,heap_alloc_if,if_pos rfl])
 have F1:=Lib.hid f1
 have HW1:=Lib.hid hw1
 have H1:=Lib.hid (h.gr f1)
 have e1:=h.act.le
 have e2:=h.act.max
 have e3:=h.pas.le
 have e4:=h.pas.max
 obtain ⟨b1,hb1⟩:∃ b,b=has v.act v.self:=⟨_,rfl⟩
 obtain ⟨b2,hb2⟩:∃ b,b=has v.pas v.self:=⟨_,rfl⟩
 obtain ⟨b3,hb3⟩:∃ b,b=v.act.any (has v.pas):=⟨_,rfl⟩
 have CA:=Lib.hid (show ∀ w,Gr w1 w→_ from fun w f=>setHas_any x.aa x.ac v.act v.am v.self w (H1.out.gr f).act h.good.act)
 have CP:=Lib.hid (show ∀ w,Gr w1 w→_ from fun w f=>setHas_any x.pa x.pc v.pas v.pm v.self w (H1.out.gr f).pas h.good.pas)
 have CAll:=Lib.hid (show ∀ w,Gr w1 w→_ from fun w f=>setAll_any x.aa x.ac v.act v.am w (H1.out.gr f).act h.good.act)
 have CC:Hid (∀ w,Gr w1 w→∀ ra rc,SlA w ra v.act.length rc (ints v.act)→Calls Tryz.prog 42 #[.slice ra v.act.length rc, .func (.func 16) #[setV x.pa v.pas.length x.pc v.pm] #[]] w fun e w'=>e= .returned (.bool b3)∧Gr w w'):=Lib.hid (fun w f ra rc hs=>by
  rw [hb3]
  exact containsFuncB_any 16 _ (has v.pas) ra rc v.act w hs ⟨fun args w=>by rfl,fun y w' f'=>setHas_any x.pa x.pc v.pas v.pm y w' (H1.out.gr (Gr.trans f f')).pas h.good.pas⟩)
 unfold vSane
 rw [←hb1, ←hb2, ←hb3]
 rw [←hb1] at CA
 rw [←hb2] at CP
 clear hw1 f1 hb1 hb2 hb3 h
 haveI:Nonempty (WC (Gr w1)):=⟨⟨w1,Fr.refl _ _⟩⟩
 have y0:∀ q:WC (Gr w1),q.val.cell? ⟨W.heap.size,0,none⟩=some (.int .i64 v.self):=fun q=>q.ok.cell ((Bx.of_block V1.out) 0 _ rfl) (fun h=>h)
 have y1:∀ q:WC (Gr w1),q.val.cell? ⟨W.heap.size,1,none⟩=some (.slice x.aa v.act.length x.ac):=fun q=>q.ok.cell ((Bx.of_block V1.out) 1 _ rfl) (fun h=>h)
 have y2:∀ q:WC (Gr w1),q.val.cell? ⟨W.heap.size,2,none⟩=some (.int .i64 v.am):=fun q=>q.ok.cell ((Bx.of_block V1.out) 2 _ rfl) (fun h=>h)
 have y3:∀ q:WC (Gr w1),q.val.cell? ⟨W.heap.size,3,none⟩=some (.slice x.pa v.pas.length x.pc):=fun q=>q.ok.cell ((Bx.of_block V1.out) 3 _ rfl) (fun h=>h)
 have y4:∀ q:WC (Gr w1),q.val.cell? ⟨W.heap.size,4,none⟩=some (.int .i64 v.pm):=fun q=>q.ok.cell ((Bx.of_block V1.out) 4 _ rfl) (fun h=>h)
 go_enter Tryz.func15,Tryz.ntmps15
 go_upto_region 1 with fail
 rw [←HW1.out]
 clear HW1
 refine wp_region_plan [4,11,17,21] (Plan.seq (List.range 25) .done) (fun w'=>∃ q:WC (Gr w1),w'=q.val) (by kernel_rfl) (by kernel_rfl) (fun c a w d v h=>by cases d<;>exact h) (fun c a w d v h=>by cases d<;>exact h) ⟨⟨w1.drew,(Fr.refl _ _).drew⟩,rfl⟩ ?_
 simp only [Plan.seq,List.range,List.range.loop,List.foldr]
 refine wpV_q (by simp only [gtA,gtZ]<;>rfl) (by rfl) (by rfl) ?_
 go_big_quiet_step (fail)
 refine wpQuiet_nil ?_
 repeat (refine wpV_q (by simp only [gtA,gtS,gtZ]<;>rfl) (by rfl) (by rfl) ?_;go_big_quiet_step (fail);refine wpQuiet_nil ?_)
 refine wpV_e (by simp only [gtA,gtS,gtZ]<;>rfl) (by rfl) ?_
 go_wp2_with fail
 refine (CA.out _ ((Fr.refl _ _).drew)).mono ?_
 rintro e w2 ⟨rfl,f2⟩
 have G2:=Lib.hid (Gr.trans ((Fr.refl _ w1).drew) f2)
 clear f2 CA
 go_wp2_with fail
 refine ⟨⟨⟨w2,G2.out⟩,rfl⟩,?_⟩
 cases b1
 case true=>
  repeat (refine wpV_q (by simp only [gtA,gtS,gtZ]<;>rfl) (by rfl) (by rfl) ?_;go_big_quiet_step (fail);refine wpQuiet_nil ?_)
  refine wpV_e (by simp only [gtA,gtS,gtZ]<;>rfl) (by rfl) ?_
  go_wp2_with fail
  refine ⟨⟨⟨w2,G2.out⟩,rfl⟩,?_⟩
  repeat (refine wpV_q (by simp only [gtA,gtS,gtZ]<;>rfl) (by rfl) (by rfl) ?_;go_big_quiet_step (fail);refine wpQuiet_nil ?_)
  refine wpV_e (by simp only [gtA,gtS,gtZ]<;>rfl) (by rfl) ?_
  go_wp2_with fail
  refine ⟨⟨⟨w2,G2.out⟩,rfl⟩,?_⟩
  repeat (refine wpV_q (by simp only [gtA,gtS,gtZ]<;>rfl) (by rfl) (by rfl) ?_;go_big_quiet_step (fail);refine wpQuiet_nil ?_)
  refine wpV_e (by simp only [gtA,gtS,gtZ]<;>rfl) (by rfl) ?_
  go_wp2_with fail
  refine ⟨⟨⟨w2,G2.out⟩,rfl⟩,?_⟩
  repeat (refine wpV_q (by simp only [gtA,gtS,gtZ]<;>rfl) (by rfl) (by rfl) ?_;go_big_quiet_step (fail);refine wpQuiet_nil ?_)
  refine wpV_done ?_
  clear y0 y1 y2 y3 y4 this
  go_wp2_with fail
  go_ret
  exact ⟨by simp,Gr.trans F1.out G2.out⟩
 case false=>
  repeat (refine wpV_q (by simp only [gtA,gtS,gtZ]<;>rfl) (by rfl) (by rfl) ?_;go_big_quiet_step (fail);refine wpQuiet_nil ?_)
  refine wpV_e (by simp only [gtA,gtS,gtZ]<;>rfl) (by rfl) ?_
  go_wp2_with fail
  refine (CP.out _ G2.out).mono ?_
  rintro e w3 ⟨rfl,f3⟩
  have G3:=Lib.hid (Gr.trans G2.out f3)
  clear f3 CP G2
  go_wp2_with fail
  refine ⟨⟨⟨w3,G3.out⟩,rfl⟩,?_⟩
  cases b2
  case true=>
   repeat (refine wpV_q (by simp only [gtA,gtS,gtZ]<;>rfl) (by rfl) (by rfl) ?_;go_big_quiet_step (fail);refine wpQuiet_nil ?_)
   refine wpV_e (by simp only [gtA,gtS,gtZ]<;>rfl) (by rfl) ?_
   go_wp2_with fail
   refine ⟨⟨⟨w3,G3.out⟩,rfl⟩,?_⟩
   repeat (refine wpV_q (by simp only [gtA,gtS,gtZ]<;>rfl) (by rfl) (by rfl) ?_;go_big_quiet_step (fail);refine wpQuiet_nil ?_)
   refine wpV_e (by simp only [gtA,gtS,gtZ]<;>rfl) (by rfl) ?_
   go_wp2_with fail
   refine ⟨⟨⟨w3,G3.out⟩,rfl⟩,?_⟩
   repeat (refine wpV_q (by simp only [gtA,gtS,gtZ]<;>rfl) (by rfl) (by rfl) ?_;go_big_quiet_step (fail);refine wpQuiet_nil ?_)
   refine wpV_done ?_
   clear y0 y1 y2 y3 y4 this
   go_wp2_with fail
   go_ret
   exact ⟨by simp,Gr.trans F1.out G3.out⟩
  case false=>
   repeat (refine wpV_q (by simp only [gtA,gtS,gtZ]<;>rfl) (by rfl) (by rfl) ?_;go_big_quiet_step (fail);refine wpQuiet_nil ?_)
   refine wpV_e (by simp only [gtA,gtS,gtZ]<;>rfl) (by rfl) ?_
   go_wp2_with fail
   refine (CAll.out _ G3.out).mono ?_
   rintro e w4 ⟨rv,rfl,own4,b4⟩
   have G4:=Lib.hid (Gr.trans G3.out (Gr.of_below b4))
   obtain ⟨ra,rc,rfl,hs4,hlo4, -⟩:=SlA.of_own own4
   have HS4:=Lib.hid hs4
   clear own4 b4 hs4 hlo4 CAll G3
   go_wp2_with fail
   refine ⟨⟨⟨w4,G4.out⟩,rfl⟩,?_⟩
   repeat (refine wpV_q (by simp only [gtA,gtS,gtZ]<;>rfl) (by rfl) (by rfl) ?_;go_big_quiet_step (fail);refine wpQuiet_nil ?_)
   refine wpV_e (by simp only [gtA,gtS,gtZ]<;>rfl) (by rfl) ?_
   go_wp2_with fail
   refine (CC.out _ G4.out ra rc HS4.out).mono ?_
   rintro e w5 ⟨rfl,f5⟩
   have G5:=Lib.hid (Gr.trans G4.out f5)
   clear f5 CC HS4 G4
   go_wp2_with fail
   refine ⟨⟨⟨w5,G5.out⟩,rfl⟩,?_⟩
   repeat (refine wpV_q (by simp only [gtA,gtS,gtZ]<;>rfl) (by rfl) (by rfl) ?_;go_big_quiet_step (fail);refine wpQuiet_nil ?_)
   refine wpV_done ?_
   clear y0 y1 y2 y3 y4 this
   go_wp2_with fail
   go_ret
   exact ⟨by cases b3<;>rfl,Gr.trans F1.out G5.out⟩
end
end Go.Proofs.YtelepohdfcjnfaaGreat
