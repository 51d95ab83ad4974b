/-
  Package overlay: joins, forward, Take, Broke (printed by gen_ov3.py).
-/
import Derived.Test.YtelepohdfcjnfaaGreatZOverNew
import Derived.Test.YtelepohdfcjnfaaGreatZOvLaw
import Derived.Test.YtelepohdfcjnfaaGreatZSetBut
import Derived.Deep.CutRange
import Derived.Deep.CutBlock
namespace Go.Proofs.YtelepohdfcjnfaaGreat
set_option maxHeartbeats 4000000
set_option maxRecDepth 100000
open Go.RowKit Go.Proofs
theorem exec_bldFwd (ρ:Operand→Value) (w:World) (dst:Option Tmp) (ty:TypeId) (pos:String) (after:Array Edge) {x0 x1 x2:Operand} {i0 i1 i2:Int} (h0:ρ x0= .int .i64 i0) (h1:ρ x1= .int .i64 i1) (h2:ρ x2= .int .i64 i2):
  (execOp ρ ⟨dst, .build 76 #[(0,x0),(1,x1),(2,x2)],ty,pos,after,none⟩).run Tryz.prog w= .ok (.value (.agg #[.int .i64 i0, .int .i64 i1, .int .i64 i2, .bool false, .slice none 0 0, .slice none 0 0, .slice none 0 0])) w:=by simp [go_sem,h0,h1,h2]
theorem wpList_bldFwd {ops:Array Oper} {rest:List Oper} {dst:Option Tmp} {ty:TypeId} {pos:String} {after:Array Edge} {A:Act} {w:World} {Q:Exit→Act→World→Prop} {x0 x1 x2:Operand} {i0 i1 i2:Int} (h0:A.eval x0= .int .i64 i0) (h1:A.eval x1= .int .i64 i1) (h2:A.eval x2= .int .i64 i2)
  (h:wpList Tryz.prog ops Q rest (A.put dst (.agg #[.int .i64 i0, .int .i64 i1, .int .i64 i2, .bool false, .slice none 0 0, .slice none 0 0, .slice none 0 0])) w):
  wpList Tryz.prog ops Q (⟨dst, .build 76 #[(0,x0),(1,x1),(2,x2)],ty,pos,after,none⟩::rest) A w:=by
 refine wpList_plain rfl fun K hK=>?_
 unfold Oper.wp
 rw [exec_bldFwd A.eval w dst ty pos after h0 h1 h2]
 exact hK _ _ h
section
variable {W:World} {O:Ori} {p:Value} {D:List Int} {B:List Blk} {L:List Ow} {R:List Rw} {w w':World}
theorem Sta.callN (h:Sta W O p D B L R w) {l:List Int} {e:Ending} (k:RowNew l w e w'):∃ a cap,e= .returned (.slice a l.length cap)∧Sta W O p D B L (⟨a,l.length,cap,ints l⟩::R) w':=by
 obtain ⟨a,cap,rfl,hs,hn,hg⟩:=k
 refine ⟨a,cap,rfl,h.rows (R2:=[⟨a,l.length,cap,ints l⟩]) (gr_pblk hg) (h.dr.keep hg) fun r hr=>?_⟩
 rcases List.mem_cons.1 hr with rfl | hr
 ·exact ⟨hs,fun _ q hq=> .inr (hn q hq)⟩
 ·cases hr
end
theorem oms_houts (l:List Ho):houts l=oms (l.map Ho.om):=houts_oms l
def fwdO (far fr n:Int):Om:=⟨fwd far fr n,none,0⟩
theorem ovJoins_any (o:Ov) (x:OvP) (fr:Int) (p:Value) (ds:List Int) (Wb:World) (O:Ori) (B:List Blk) (L:List Ow) (R:List Rw) (bo:Nat) (w:World) (st:Sta Wb O p ds (⟨bo,o.arr x,103⟩::B) L (orows o x R) w) (g:o.Ok):
  Calls Tryz.prog 47 #[.pointer (some ⟨bo,0,none⟩), .int .i64 fr,p] w (OEndM Wb O p (oJoins o fr ds).2.2 B L R bo (oJoins o fr ds).1 (oJoins o fr ds).2.1):=by
 obtain ⟨ih,hh1,hh2,hh3⟩:=info_pair Tryz.zeroHand
 obtain ⟨o2,oM,dn,h0⟩:∃ a b c,oJoins o fr ds=(a,b,c):=⟨_,_,_,rfl⟩
 rw [h0]
 simp only
 have HH:=Lib.hid h0
 unfold oJoins at h0
 have CA:=Lib.hid (fun O w (h1:Sta w O p ds [] [] (hrows o.h x.x []) w)=>handOnAsk_any o.h x.x fr true p ds O w h1 g.h)
 have hfew:=few_onAsk o.h fr true ds
 have HFAR:=Lib.hid g.far
 obtain ⟨h',out,d',hh⟩:∃ a b c,hOnAsk o.h fr true ds=(a,b,c):=⟨_,_,_,rfl⟩
 rw [hh] at CA hfew h0
 simp only at CA hfew h0
 have HF:=Lib.hid hfew
 have HJ:=Lib.hid h0
 clear hh hfew g h0 HH
 have ST1:=Lib.hid st
 clear st
 go_enter Tryz.func47,Tryz.ntmps47
 go_upto_region 1 with fail
 go_wp2_with (refine wpList_load_mid (by rfl) 100 _ (by rfl) bo 8 (by rfl) (Array.toList (#[.int .i64 o.h.v.self, .slice x.x.x.aa o.h.v.act.length x.x.x.ac, .int .i64 o.h.v.am, .slice x.x.x.pa o.h.v.pas.length x.x.x.pc, .int .i64 o.h.v.pm, .slice x.x.ka o.h.asked.length x.x.kc, .int .i64 64])) _ (rangeIn (cs:=o.arr x) (ST1.out.blkAt 0 rfl) 8 (by rfl)) Tryz.underlying100 rfl Tryz.infoHand ?_)
 refine (CA.out _ _ (ST1.out.enter (hrows o.h x.x []) (inC (at_ 1 rfl) (inC (at_ 2 rfl) (inC (at_ 3 rfl) inN))))).mono ?_
 intro e w2 hst
 obtain ⟨x',ov,rfl,hst2,hgd⟩:=hst
 have HGD:=Lib.hid hgd
 clear hgd
 have ST2:=Lib.hid (show Sta Wb O p d' (⟨bo,o.arr x,103⟩::B) (⟨81,8,ov,out.length,houts out⟩::L) (hrows h' x' (orows o x R)) w2 from ST1.out.leave (inC (at_ 1 rfl) (inC (at_ 2 rfl) (inC (at_ 3 rfl) inN))) hst2)
 clear hst2 ST1
 clear CA
 go_wp2_with (refine wpList_fresh (vs:=h'.arr x') hh1 hh2 Tryz.infoHand (by rfl) (by rw [←Array.all_toList];rfl) (by rfl) (by rfl) ?_)
 intro w3 f_ b_ l_
 obtain ⟨z,hb_⟩:∃ b,b=w2.heap.size:=⟨_,rfl⟩
 rw [←hb_] at b_ l_ ⊢
 have ST3:=Lib.hid (show Sta Wb O p d' (⟨z,h'.arr x',100⟩::⟨bo,o.arr x,103⟩::B) (⟨81,8,ov,out.length,houts out⟩::L) (hrows h' x' (orows o x R)) w3 from ST2.out.var f_ b_ (Nat.le_of_eq hb_.symm))
 clear ST2 f_ b_ l_ hb_
 go_upto_region 2 with fail
 go_upto_region 3 with (first | refine wpList_load_mid (by rfl) 100 _ (by rfl) z 0 (by rfl) (Array.toList (h'.arr x')) _ (blk_range (ST3.out.blkAt 0 rfl)) Tryz.underlying100 rfl Tryz.infoHand ?_ | refine wpList_storeB (o:=8) (vs:=h'.arr x') (ST3.out.blkAt 1 rfl) (by rfl) 100 _ _ (by rfl) (by rfl) (by rfl) (Nat.le_of_ble_eq_true rfl) Tryz.infoHand (by rw [←Array.all_toList];rfl) ?_)
 intro w4 f_ b_
 have ST4:=Lib.hid (show Sta Wb O p d' (⟨z,h'.arr x',100⟩::⟨bo, #[.int .i64 o.c.active, .int .i64 o.c.passive, .int .i64 o.c.far, .int .i64 o.c.near, .int .i64 o.c.mixA, .int .i64 o.c.mixP, .int .i64 o.c.every, .slice x.sa o.c.seeds.length x.sc, .int .i64 h'.v.self, .slice x'.x.aa h'.v.act.length x'.x.ac, .int .i64 h'.v.am, .slice x'.x.pa h'.v.pas.length x'.x.pc, .int .i64 h'.v.pm, .slice x'.ka h'.asked.length x'.kc, .int .i64 64, .int .i64 o.ticks, .int .i64 o.seed],103⟩::B) (⟨81,8,ov,out.length,houts out⟩::L) (hrows h' x' (orows o x R)) w4 from ST3.out.store 1 rfl f_ b_)
 clear ST3 f_ b_
 go_upto_region 3 with fail
 have m1:=(ST4.out.rowAt 0 rfl).le
 have m2:=(ST4.out.rowAt 0 rfl).max
 have CH:=setHas_any x'.x.aa x'.x.ac h'.v.act h'.v.am fr w4 (ST4.out.rowAt 0 rfl) HGD.out.v.act
 obtain ⟨hb,hhb⟩:∃ b,b=has h'.v.act fr:=⟨_,rfl⟩
 rw [←hhb] at CH
 have HHB:=Lib.hid hhb
 clear hhb
 have c1:w4.cell? ⟨z,1,none⟩=some (.slice x'.x.aa h'.v.act.length x'.x.ac):=ST4.out.cell 0 1 rfl rfl
 have c2:w4.cell? ⟨z,2,none⟩=some (.int .i64 h'.v.am):=ST4.out.cell 0 2 rfl rfl
 go_wp2_with fail
 refine CH.mono ?_
 rintro e w5 ⟨rfl,f_⟩
 clear c1 c2 CH
 have ST5:=Lib.hid (show Sta Wb O p d' (⟨z,h'.arr x',100⟩::⟨bo, #[.int .i64 o.c.active, .int .i64 o.c.passive, .int .i64 o.c.far, .int .i64 o.c.near, .int .i64 o.c.mixA, .int .i64 o.c.mixP, .int .i64 o.c.every, .slice x.sa o.c.seeds.length x.sc, .int .i64 h'.v.self, .slice x'.x.aa h'.v.act.length x'.x.ac, .int .i64 h'.v.am, .slice x'.x.pa h'.v.pas.length x'.x.pc, .int .i64 h'.v.pm, .slice x'.ka h'.asked.length x'.kc, .int .i64 64, .int .i64 o.ticks, .int .i64 o.seed],103⟩::B) (⟨81,8,ov,out.length,houts out⟩::L) (hrows h' x' (orows o x R)) w5 from ST4.out.gr f_)
 clear ST4 f_
 cases hb
 case false=>
  obtain ⟨rfl,rfl,rfl⟩:{ o with h:=h' }=o2∧out.map Ho.ms=oM∧d'=dn:=by
   have hj:=HJ.out
   rw [←HHB.out,if_neg (by decide),List.append_nil] at hj
   injection hj with a b
   injection b with b c
   exact ⟨a,b,c⟩
  go_wp2_with fail
  go_ret
  refine ⟨⟨x.sa,x.sc,x'⟩,ov,out.map Ho.om,by rw [List.map_map];rfl,rfl,?_⟩
  rw [List.length_map]
  have hX:=((ST5.out.lessB (List.Sublist.cons _ (List.Sublist.refl _))).less (List.Sublist.refl _) (inC (at_ 3 rfl) (inC (at_ 0 rfl) (inC (at_ 1 rfl) (inC (at_ 2 rfl) (fun _ h=>List.mem_cons_of_mem _ (List.mem_cons_of_mem _ (List.mem_cons_of_mem _ (List.mem_cons_of_mem _ (List.mem_cons_of_mem _ (List.mem_cons_of_mem _ (List.mem_cons_of_mem _ (h))))))))))))).addNils (k:=(out.map Ho.om).map Om.row) (by
   intro r hr
   rw [List.map_map] at hr
   obtain ⟨a, -, rfl⟩:=List.mem_map.1 hr
   exact ⟨rfl,Nat.le_refl _,Nat.zero_le _⟩)
  rw [show oms (out.map Ho.om)=houts out from (houts_oms out).symm]
  exact hX
 case true=>
  go_upto_region 5 with fail
  have c1:w5.cell? ⟨z,1,none⟩=some (.slice x'.x.aa h'.v.act.length x'.x.ac):=ST5.out.cell 0 1 rfl rfl
  have c2:w5.cell? ⟨z,2,none⟩=some (.int .i64 h'.v.am):=ST5.out.cell 0 2 rfl rfl
  go_wp2_with fail
  clear c1 c2
  obtain ⟨w6,hw_⟩:∃ x,x=w5.alloc (.cells #[.int .i64 fr] 3):=⟨_,rfl⟩
  obtain ⟨gk,hob_⟩:∃ b,b=w5.heap.size:=⟨_,rfl⟩
  rw [←hw_, ←hob_]
  have ST6:=Lib.hid (show Sta Wb O p d' (⟨z,h'.arr x',100⟩::⟨bo, #[.int .i64 o.c.active, .int .i64 o.c.passive, .int .i64 o.c.far, .int .i64 o.c.near, .int .i64 o.c.mixA, .int .i64 o.c.mixP, .int .i64 o.c.every, .slice x.sa o.c.seeds.length x.sc, .int .i64 h'.v.self, .slice x'.x.aa h'.v.act.length x'.x.ac, .int .i64 h'.v.am, .slice x'.x.pa h'.v.pas.length x'.x.pc, .int .i64 h'.v.pm, .slice x'.ka h'.asked.length x'.kc, .int .i64 64, .int .i64 o.ticks, .int .i64 o.seed],103⟩::B) (⟨3,1, .slice (some ⟨gk,0,none⟩) 1 1,1,ints [fr]⟩::⟨81,8,ov,out.length,houts out⟩::L) (hrows h' x' (orows o x R)) w6 from hw_▸ST5.out.ownNew ((Fr.refl _ _).alloc _) (xs:=ints [fr]) (n:=1) (by rw [heap_alloc_if,if_pos hob_];rfl) (Nat.le_of_eq hob_.symm) rfl (by decide))
  clear ST5 hw_ hob_
  have hkr:SlA w6 (some ⟨gk,0,none⟩) ([fr]:List Int).length 1 (ints [fr]):=by
   obtain ⟨a,c,e,hs, -⟩:=SlA.of_own (ST6.out.ownAt 0 rfl)
   injection e with e1 e2 e3
   rw [e1,e3]
   exact hs
  have CB:=setButN_any x'.x.aa x'.x.ac h'.v.act h'.v.am (some ⟨gk,0,none⟩) 1 [fr] w6 (ST6.out.rowAt 0 rfl) hkr HGD.out.v.act
  refine CB.mono ?_
  intro e w7 hst
  obtain ⟨ba,bc,rfl,hst2⟩:=ST6.out.callN hst
  have ST7:=Lib.hid (show Sta Wb O p d' (⟨z,h'.arr x',100⟩::⟨bo, #[.int .i64 o.c.active, .int .i64 o.c.passive, .int .i64 o.c.far, .int .i64 o.c.near, .int .i64 o.c.mixA, .int .i64 o.c.mixP, .int .i64 o.c.every, .slice x.sa o.c.seeds.length x.sc, .int .i64 h'.v.self, .slice x'.x.aa h'.v.act.length x'.x.ac, .int .i64 h'.v.am, .slice x'.x.pa h'.v.pas.length x'.x.pc, .int .i64 h'.v.pm, .slice x'.ka h'.asked.length x'.kc, .int .i64 64, .int .i64 o.ticks, .int .i64 o.seed],103⟩::B) (⟨81,8,ov,out.length,houts out⟩::L) (⟨ba,(but h'.v.act [fr]).length,bc,ints (but h'.v.act [fr])⟩::hrows h' x' (orows o x R)) w7 from hst2.less (List.Sublist.cons _ (List.Sublist.refl _)) (fun _ h=>h))
  clear hst hst2 hkr CB ST6
  have HLB:=Lib.hid (show (but h'.v.act [fr]).length≤64 from Nat.le_trans (List.length_filter_le _ _) HGD.out.v.act.len)
  obtain ⟨bs,hbs⟩:∃ bs,bs=but h'.v.act [fr]:=⟨_,rfl⟩
  rw [←hbs] at ST7 HLB ⊢
  have HBS:=Lib.hid hbs
  clear hbs
  have m3:=(ST7.out.rowAt 0 rfl).le
  have m4:=(ST7.out.rowAt 0 rfl).max
  go_wp2_with fail
  go_loopw [8,39] (fun ov_ iv wr=>∃ k:Nat,iv= .int .i64 k∧k≤bs.length∧Sta Wb O p d' (⟨z,h'.arr x',100⟩::⟨bo, #[.int .i64 o.c.active, .int .i64 o.c.passive, .int .i64 o.c.far, .int .i64 o.c.near, .int .i64 o.c.mixA, .int .i64 o.c.mixP, .int .i64 o.c.every, .slice x.sa o.c.seeds.length x.sc, .int .i64 h'.v.self, .slice x'.x.aa h'.v.act.length x'.x.ac, .int .i64 h'.v.am, .slice x'.x.pa h'.v.pas.length x'.x.pc, .int .i64 h'.v.pm, .slice x'.ka h'.asked.length x'.kc, .int .i64 64, .int .i64 o.ticks, .int .i64 o.seed],103⟩::B) (⟨81,8,ov_,out.length+k,oms (out.map Ho.om++(bs.take k).map (fwdO o.c.far fr))⟩::L) (⟨ba,bs.length,bc,ints bs⟩::hrows h' x' (orows o x R)) wr) (fun _ iv _=>bs.length-(intOf iv).toNat)
  case atStart=>exact ⟨0,rfl,Nat.zero_le _,by rw [List.take_zero,List.map_nil,List.append_nil, ←oms_houts,Nat.add_zero];exact ST7.out⟩
  case round=>
   clear ST7
   obtain ⟨k,rfl,hk,hst⟩:=hrel
   have ST8:=Lib.hid hst
   clear hst
   by_cases hkl:k<bs.length
   ·obtain ⟨b9,o9,e9,hcl⟩:=(ST8.out.rowAt 0 rfl).int k hkl
    subst e9
    have HT:=Lib.hid (show bs.take (k+1)=bs.take k++[bs[k]] from List.take_succ_eq_append_getElem hkl)
    generalize bs[k]=n0 at hcl HT
    go_upto_region 8 with fail
    clear hcl
    have cf:wr.cell? ⟨bo,2,none⟩=some (.int .i64 o.c.far):=ST8.out.cell 1 2 rfl rfl
    refine wp_region_lit ?_
    iterate 24 go_step
    refine wpList_bldFwd (i0:=2) (i1:=fr) (i2:=o.c.far) (by rfl) (by rfl) (by rfl) ?_
    refine wpList_bldOutH (i0:=n0) (by rfl) (by rfl) ?_
    refine wpList_bldOutsH (by rfl) ?_
    clear cf
    obtain ⟨w9,hw_⟩:∃ x,x=wr.alloc (.cells #[.int .i64 n0, .int .i64 2, .int .i64 fr, .int .i64 o.c.far, .bool false, .slice none 0 0, .slice none 0 0, .slice none 0 0] 81):=⟨_,rfl⟩
    obtain ⟨nb,hob_⟩:∃ b,b=wr.heap.size:=⟨_,rfl⟩
    rw [←hw_, ←hob_]
    have ST9:=Lib.hid (show Sta Wb O p d' (⟨z,h'.arr x',100⟩::⟨bo, #[.int .i64 o.c.active, .int .i64 o.c.passive, .int .i64 o.c.far, .int .i64 o.c.near, .int .i64 o.c.mixA, .int .i64 o.c.mixP, .int .i64 o.c.every, .slice x.sa o.c.seeds.length x.sc, .int .i64 h'.v.self, .slice x'.x.aa h'.v.act.length x'.x.ac, .int .i64 h'.v.am, .slice x'.x.pa h'.v.pas.length x'.x.pc, .int .i64 h'.v.pm, .slice x'.ka h'.asked.length x'.kc, .int .i64 64, .int .i64 o.ticks, .int .i64 o.seed],103⟩::B) (⟨81,8, .slice (some ⟨nb,0,none⟩) 1 1,1,oms [fwdO o.c.far fr n0]⟩::⟨81,8,u8,out.length+k,oms (out.map Ho.om++(bs.take k).map (fwdO o.c.far fr))⟩::L) (⟨some ⟨b9,o9,none⟩,bs.length,bc,ints bs⟩::hrows h' x' (orows o x R)) w9 from hw_▸ST8.out.ownNew ((Fr.refl _ _).alloc _) (xs:=oms [fwdO o.c.far fr n0]) (n:=1) (by rw [heap_alloc_if,if_pos hob_];rfl) (Nat.le_of_eq hob_.symm) rfl (by decide))
    clear ST8 hw_ hob_
    refine wpList_growJ (by rfl) _ _ 53 81 8 112 (.agg outZ) Tryz.underlying53 Tryz.infoOutB rfl (by decide) (by decide) (by rfl) ST9.out 1 0 rfl rfl (by rfl) (by rfl) (oms_one _) (by have:=HF.out;have:=HLB.out;omega) ?_
    intro v7 w10 hst
    have ST10:=Lib.hid (show Sta Wb O p d' (⟨z,h'.arr x',100⟩::⟨bo, #[.int .i64 o.c.active, .int .i64 o.c.passive, .int .i64 o.c.far, .int .i64 o.c.near, .int .i64 o.c.mixA, .int .i64 o.c.mixP, .int .i64 o.c.every, .slice x.sa o.c.seeds.length x.sc, .int .i64 h'.v.self, .slice x'.x.aa h'.v.act.length x'.x.ac, .int .i64 h'.v.am, .slice x'.x.pa h'.v.pas.length x'.x.pc, .int .i64 h'.v.pm, .slice x'.ka h'.asked.length x'.kc, .int .i64 64, .int .i64 o.ticks, .int .i64 o.seed],103⟩::B) (⟨81,8,v7,out.length+(k+1),oms (out.map Ho.om++(bs.take (k+1)).map (fwdO o.c.far fr))⟩::L) (⟨some ⟨b9,o9,none⟩,bs.length,bc,ints bs⟩::hrows h' x' (orows o x R)) w10 by
     rw [HT.out,List.map_append, ←List.append_assoc, ←oms_app]
     exact hst.less (List.Sublist.cons _ (List.Sublist.refl _)) (fun _ h=>h))
    clear hst ST9 HT
    go_wp2_with fail
    go_roundw
    case rel=>exact ⟨k+1,by go_num,hkl,ST10.out⟩
    case measure=>simp [intOf];omega
   ·obtain rfl:k=bs.length:=by omega
    rw [List.take_length] at ST8
    obtain ⟨rfl,rfl,rfl⟩:{ o with h:=h' }=o2∧out.map Ho.ms++bs.map (fwd o.c.far fr)=oM∧d'=dn:=by
     have hj:=HJ.out
     rw [←HHB.out,if_pos rfl, ←HBS.out] at hj
     injection hj with a b
     injection b with b c
     exact ⟨a,b,c⟩
    go_wp2_with fail
    go_ret
    refine ⟨⟨x.sa,x.sc,x'⟩,_,out.map Ho.om++bs.map (fwdO o.c.far fr),by rw [List.map_append,List.map_map,List.map_map];rfl,rfl,?_⟩
    rw [List.length_append,List.length_map,List.length_map]
    exact ((ST8.out.lessB (List.Sublist.cons _ (List.Sublist.refl _))).less (List.Sublist.refl _) (inC (at_ 4 rfl) (inC (at_ 1 rfl) (inC (at_ 2 rfl) (inC (at_ 3 rfl) (fun _ h=>List.mem_cons_of_mem _ (List.mem_cons_of_mem _ (List.mem_cons_of_mem _ (List.mem_cons_of_mem _ (List.mem_cons_of_mem _ (List.mem_cons_of_mem _ (List.mem_cons_of_mem _ (List.mem_cons_of_mem _ (h)))))))))))))).addNils (by
     intro r hr
     simp only [List.map_map,List.map_append,List.mem_append] at hr
     rcases hr with hr | hr
     all_goals
      obtain ⟨a, -, rfl⟩:=List.mem_map.1 hr
      exact ⟨rfl,Nat.le_refl _,Nat.zero_le _⟩)
theorem ovForward_any (o:Ov) (x:OvP) (fr:Int) (m:Mq) (a:Option Addr) (c:Nat) (p:Value) (ds:List Int) (Wb:World) (O:Ori) (B:List Blk) (L:List Ow) (R:List Rw) (bo:Nat) (w:World) (st:Sta Wb O p ds (⟨bo,o.arr x,103⟩::B) L (orows o x R) w) (g:o.Ok) (hm:(⟨a,m.nodes.length,c,ints m.nodes⟩:Rw)∈R) (hwk:0≤m.walk∧m.walk≤1000):
  Calls Tryz.prog 48 #[.pointer (some ⟨bo,0,none⟩), .int .i64 fr, .agg (m.arr a c),p] w (OEndM Wb O p (oForward o fr m ds).2.2 B L R bo (oForward o fr m ds).1 (oForward o fr m ds).2.1):=by
 obtain ⟨o2,oM,dn,h0⟩:∃ a b c,oForward o fr m ds=(a,b,c):=⟨_,_,_,rfl⟩
 rw [h0]
 simp only
 unfold oForward at h0
 have CW:=Lib.hid (fun w (h1:VwAt w o.h.v x.x.x) (h2:DrawV w p ds)=>walkJoin_any o.h.v x.x.x fr m.node m.walk o.c.near p ds w h1 h2)
 obtain ⟨se,sn,sk,d1,hs⟩:∃ a b c d,wJoin o.h.v fr m.node m.walk o.c.near ds=(a,b,c,d):=⟨_,_,_,_,rfl⟩
 rw [hs] at CW h0
 unfold SEnd at CW
 simp only at CW h0
 have HJ:=Lib.hid h0
 have HG:=Lib.hid g
 have HM:=Lib.hid hm
 have CA:=Lib.hid (fun w (h1:Sta Wb O p d1 (⟨bo,o.arr x,103⟩::B) L (orows o x R) w)=>ovAsk_any o x m.node false p d1 Wb O B L R bo w h1 g.h)
 have CK:=Lib.hid (fun w (h1:VwAt w o.h.v x.x.x) (h2:DrawV w p d1) (h3:VwSep p o.h.v x.x.x)=>viewKnow_any o.h.v x.x.x m.node p d1 w h1 h2 h3)
 clear h0 hs g hm
 have ST1:=Lib.hid st
 clear st
 go_enter Tryz.func48,Tryz.ntmps48
 go_upto_region 1 with fail
 obtain ⟨w1,hw_⟩:∃ x,x=w.alloc (.cells (m.arr a c) 76):=⟨_,rfl⟩
 obtain ⟨q6,hb_⟩:∃ b,b=w.heap.size:=⟨_,rfl⟩
 rw [←hw_, ←hb_]
 have ST2:=Lib.hid (show Sta Wb O p ds (⟨q6,m.arr a c,76⟩::⟨bo,o.arr x,103⟩::B) L (orows o x R) w1 from hw_▸ST1.out.box _ _ hb_)
 clear ST1 hw_ hb_
 obtain ⟨w2,hwd⟩:∃ x,x=w1.drew:=⟨_,rfl⟩
 have HWD:=Lib.hid hwd
 have ST3:=Lib.hid (show Sta Wb O p ds (⟨q6,m.arr a c,76⟩::⟨bo,o.arr x,103⟩::B) L (orows o x R) w2 from hwd▸ST2.out.gr ((Fr.refl _ _).drew))
 clear ST2 hwd
 haveI:Nonempty (WC (fun w=>w.heap[bo]?=some (.cells (o.arr x) 103 (0,0))∧w.cell? ⟨q6,1,none⟩=some (.int .i64 m.node)∧w.cell? ⟨q6,2,none⟩=some (.int .i64 m.walk)∧w.cell? ⟨bo,3,none⟩=some (.int .i64 o.c.near))):=⟨⟨w2,⟨ST3.out.blkAt 1 rfl,ST3.out.cell 0 1 rfl rfl,ST3.out.cell 0 2 rfl rfl,ST3.out.cell 1 3 rfl rfl⟩⟩⟩
 have y1:∀ z:WC (fun w=>w.heap[bo]?=some (.cells (o.arr x) 103 (0,0))∧w.cell? ⟨q6,1,none⟩=some (.int .i64 m.node)∧w.cell? ⟨q6,2,none⟩=some (.int .i64 m.walk)∧w.cell? ⟨bo,3,none⟩=some (.int .i64 o.c.near)),z.val.cell? ⟨q6,1,none⟩=some (.int .i64 m.node):=fun z=>z.ok.2.1
 have y2:∀ z:WC (fun w=>w.heap[bo]?=some (.cells (o.arr x) 103 (0,0))∧w.cell? ⟨q6,1,none⟩=some (.int .i64 m.node)∧w.cell? ⟨q6,2,none⟩=some (.int .i64 m.walk)∧w.cell? ⟨bo,3,none⟩=some (.int .i64 o.c.near)),z.val.cell? ⟨q6,2,none⟩=some (.int .i64 m.walk):=fun z=>z.ok.2.2.1
 have y3:∀ z:WC (fun w=>w.heap[bo]?=some (.cells (o.arr x) 103 (0,0))∧w.cell? ⟨q6,1,none⟩=some (.int .i64 m.node)∧w.cell? ⟨q6,2,none⟩=some (.int .i64 m.walk)∧w.cell? ⟨bo,3,none⟩=some (.int .i64 o.c.near)),z.val.cell? ⟨bo,3,none⟩=some (.int .i64 o.c.near):=fun z=>z.ok.2.2.2
 refine wp_region_plan [16,17,18] (Plan.seq [0,1,2,3,4,5,6,7,8,9,10,11,12,13,14,15] (.fork 16 17 (.take 17 (.take 18 .done)) (.take 16 (.take 18 .done)))) (fun w'=>∃ z:WC (fun w=>w.heap[bo]?=some (.cells (o.arr x) 103 (0,0))∧w.cell? ⟨q6,1,none⟩=some (.int .i64 m.node)∧w.cell? ⟨q6,2,none⟩=some (.int .i64 m.walk)∧w.cell? ⟨bo,3,none⟩=some (.int .i64 o.c.near)),w'=z.val) (by kernel_rfl) (by kernel_rfl) (fun c a w d v h=>by cases d<;>exact h) (fun c a w d v h=>by cases d<;>exact h) (by rw [←HWD.out];exact ⟨⟨w2,⟨ST3.out.blkAt 1 rfl,ST3.out.cell 0 1 rfl rfl,ST3.out.cell 0 2 rfl rfl,ST3.out.cell 1 3 rfl rfl⟩⟩,rfl⟩) ?_
 rw [←HWD.out]
 clear HWD
 refine wpV_q (by simp only [gtA,gtZ]<;>rfl) (by rfl) (by rfl) ?_
 go_big_quiet_step (fail)
 refine wpQuiet_nil ?_
 refine wpV_q (by simp only [gtA,gtS,gtZ]<;>rfl) (by rfl) (by rfl) ?_
 go_big_quiet_step (fail)
 refine wpQuiet_nil ?_
 refine wpV_q (by simp only [gtA,gtS,gtZ]<;>rfl) (by rfl) (by rfl) ?_
 go_big_quiet_step (fail)
 refine wpQuiet_nil ?_
 refine wpV_q (by simp only [gtA,gtS,gtZ]<;>rfl) (by rfl) (by rfl) ?_
 go_big_quiet_step (fail)
 refine wpQuiet_nil ?_
 refine wpV_q (by simp only [gtA,gtS,gtZ]<;>rfl) (by rfl) (by rfl) ?_
 refine wpQuiet_loadH (by rfl) 60 _ (by rfl) bo 8 (by rfl) (Array.toList (o.h.v.arr x.x.x)) _ (fun w ⟨z,hz⟩=>hz▸rangeIn z.ok.1 8 (by rfl)) Tryz.underlying60 rfl Tryz.infoView ?_
 refine wpQuiet_nil ?_
 simp only [Act.put,List.setIfInBounds_toArray,List.set_cons_succ,List.set_cons_zero]
 refine wpV_q (by simp only [gtA,gtS,gtZ]<;>rfl) (by rfl) (by rfl) ?_
 go_big_quiet_step (fail)
 refine wpQuiet_nil ?_
 refine wpV_q (by simp only [gtA,gtS,gtZ]<;>rfl) (by rfl) (by rfl) ?_
 go_big_quiet_step (fail)
 refine wpQuiet_nil ?_
 refine wpV_q (by simp only [gtA,gtS,gtZ]<;>rfl) (by rfl) (by rfl) ?_
 go_big_quiet_step (fail)
 refine wpQuiet_nil ?_
 refine wpV_q (by simp only [gtA,gtS,gtZ]<;>rfl) (by rfl) (by rfl) ?_
 go_big_quiet_step (fail)
 refine wpQuiet_nil ?_
 refine wpV_q (by simp only [gtA,gtS,gtZ]<;>rfl) (by rfl) (by rfl) ?_
 go_big_quiet_step (fail)
 refine wpQuiet_nil ?_
 refine wpV_q (by simp only [gtA,gtS,gtZ]<;>rfl) (by rfl) (by rfl) ?_
 go_big_quiet_step (fail)
 refine wpQuiet_nil ?_
 refine wpV_q (by simp only [gtA,gtS,gtZ]<;>rfl) (by rfl) (by rfl) ?_
 go_big_quiet_step (fail)
 refine wpQuiet_nil ?_
 refine wpV_q (by simp only [gtA,gtS,gtZ]<;>rfl) (by rfl) (by rfl) ?_
 go_big_quiet_step (fail)
 refine wpQuiet_nil ?_
 refine wpV_q (by simp only [gtA,gtS,gtZ]<;>rfl) (by rfl) (by rfl) ?_
 go_big_quiet_step (fail)
 refine wpQuiet_nil ?_
 refine wpV_q (by simp only [gtA,gtS,gtZ]<;>rfl) (by rfl) (by rfl) ?_
 go_big_quiet_step (fail)
 refine wpQuiet_nil ?_
 refine wpV_q (by simp only [gtA,gtS,gtZ]<;>rfl) (by rfl) (by rfl) ?_
 go_big_quiet_step (fail)
 refine wpQuiet_nil ?_
 refine wpV_fork (by simp only [gtA,gtS,gtZ]<;>rfl) (by simp only [gtA,gtS,gtZ]<;>rfl) ?_ ?_
 ·go_wp2_with fail
  refine (CW.out _ (ST3.out.vw (v:=o.h.v) (y:=x.x.x) (at_ 1 rfl) (at_ 2 rfl) HG.out.h.v) ST3.out.dr).mono ?_
  rintro e w3 ⟨rfl,d_,f_⟩
  clear CW
  have ST4:=Lib.hid (show Sta Wb O p d1 (⟨q6,m.arr a c,76⟩::⟨bo,o.arr x,103⟩::B) L (orows o x R) w3 from ST3.out.call f_ d_)
  clear ST3 d_ f_
  go_wp2_with fail
  refine ⟨⟨⟨w3,⟨ST4.out.blkAt 1 rfl,ST4.out.cell 0 1 rfl rfl,ST4.out.cell 0 2 rfl rfl,ST4.out.cell 1 3 rfl rfl⟩⟩,rfl⟩,?_⟩
  refine wpV_e (by simp only [gtA,gtS,gtZ]<;>rfl) (by rfl) ?_
  go_wp2_with fail
  obtain ⟨w4,hw_⟩:∃ x,x=w3.alloc (.cells stepZ 170):=⟨_,rfl⟩
  obtain ⟨q9,hb_⟩:∃ b,b=w3.heap.size:=⟨_,rfl⟩
  rw [←hw_, ←hb_]
  have ST5:=Lib.hid (show Sta Wb O p d1 (⟨q9,stepZ,170⟩::⟨q6,m.arr a c,76⟩::⟨bo,o.arr x,103⟩::B) L (orows o x R) w4 from hw_▸ST4.out.box _ _ hb_)
  clear ST4 hw_ hb_
  refine ⟨⟨⟨w4,⟨ST5.out.blkAt 2 rfl,ST5.out.cell 1 1 rfl rfl,ST5.out.cell 1 2 rfl rfl,ST5.out.cell 2 3 rfl rfl⟩⟩,rfl⟩,?_⟩
  refine wpV_e (by simp only [gtA,gtS,gtZ]<;>rfl) (by rfl) ?_
  refine wpList_storeW (vs:= #[.bool se, .int .i64 sn, .bool sk]) (ST5.out.blkAt 0 rfl) (by rfl) 170 _ _ (by rfl) (by rfl) (by rfl) rfl Tryz.infoStep (by rw [←Array.all_toList];rfl) ?_
  intro w5 f_ b_
  have ST6:=Lib.hid (show Sta Wb O p d1 (⟨q9, #[.bool se, .int .i64 sn, .bool sk],170⟩::⟨q6,m.arr a c,76⟩::⟨bo,o.arr x,103⟩::B) L (orows o x R) w5 from ST5.out.store 0 rfl f_ b_)
  clear ST5 f_ b_
  refine wpList_nil ?_
  refine ⟨⟨⟨w5,⟨ST6.out.blkAt 2 rfl,ST6.out.cell 1 1 rfl rfl,ST6.out.cell 1 2 rfl rfl,ST6.out.cell 2 3 rfl rfl⟩⟩,rfl⟩,?_⟩
  simp only [Act.put]
  refine wpV_done ?_
  clear y1 y2 y3 this
  have c0:w5.cell? ⟨q9,0,none⟩=some (.bool se):=ST6.out.cell 0 0 rfl rfl
  cases se
  case true=>
   obtain ⟨o3,out,h3⟩:∃ a b,oAsk o m.node false=(a,b):=⟨_,_,rfl⟩
   rw [h3] at CA HJ
   simp only at CA HJ
   clear h3
   obtain ⟨rfl,rfl,rfl⟩:o3=o2∧out.map Ho.ms=oM∧d1=dn:=by
    have hj:=HJ.out
    simp only [if_true] at hj
    injection hj with a b
    injection b with b c
    exact ⟨a,b,c⟩
   clear HJ
   have c1:w5.cell? ⟨q6,1,none⟩=some (.int .i64 m.node):=ST6.out.cell 1 1 rfl rfl
   go_wp2_with fail
   refine (CA.out _ (ST6.out.lessB (List.Sublist.cons _ (List.Sublist.cons _ (List.Sublist.refl _))))).mono ?_
   rintro e w6 ⟨x',ov,rfl,hst⟩
   have ST20:=Lib.hid hst
   clear hst CA c0 c1 ST6
   go_wp2_with fail
   go_ret
   refine ⟨x',ov,out.map Ho.om,by rw [List.map_map];rfl,rfl,?_⟩
   rw [List.length_map]
   have hX:=ST20.out.addNils (k:=(out.map Ho.om).map Om.row) (by
    intro r hr
    rw [List.map_map] at hr
    obtain ⟨a, -, rfl⟩:=List.mem_map.1 hr
    exact ⟨rfl,Nat.le_refl _,Nat.zero_le _⟩)
   rw [show oms (out.map Ho.om)=houts out from (houts_oms out).symm]
   exact hX
  case false=>
   have c2:w5.cell? ⟨q9,2,none⟩=some (.bool sk):=ST6.out.cell 0 2 rfl rfl
   cases sk
   case false=>
    obtain ⟨rfl,rfl,rfl⟩:oSetV o o.h.v=o2∧[m.to sn]=oM∧d1=dn:=by
     have hj:=HJ.out
     rw [if_neg (by decide)] at hj
     unfold oFwdV at hj
     rw [if_neg (by decide)] at hj
     injection hj with a b
     injection b with b c
     exact ⟨a,b,c⟩
    clear HJ
    have c3:w5.cell? ⟨q6,2,none⟩=some (.int .i64 m.walk):=ST6.out.cell 1 2 rfl rfl
    have c4:w5.frozen? ⟨q6,2,none⟩=false:=ST6.out.froz 1 2 rfl
    go_upto_region 7 with fail
    obtain ⟨w8,hw_⟩:∃ x,x=w5.setCell ⟨q6,2,none⟩ (.int .i64 (m.walk-1)):=⟨_,rfl⟩
    rw [←hw_]
    have ST7:=Lib.hid (show Sta Wb O p d1 (⟨q9, #[.bool false, .int .i64 sn, .bool false],170⟩::⟨q6, #[.int .i64 m.kind, .int .i64 m.node, .int .i64 (m.walk-1), .bool m.high, .slice a m.nodes.length c, .slice none 0 0, .slice none 0 0],76⟩::⟨bo,o.arr x,103⟩::B) L (orows o x R) w8 from hw_▸ST6.out.setC 1 rfl 2 (.int .i64 (m.walk-1)) (Nat.le_of_ble_eq_true rfl))
    clear ST6 hw_
    clear c0 c2 c3 c4
    have c1:w8.cell? ⟨q9,1,none⟩=some (.int .i64 sn):=ST7.out.cell 0 1 rfl rfl
    refine wp_region_lit ?_
    iterate 6 go_step
    clear c1
    refine wpList_load_mid (by rfl) 76 _ (by rfl) q6 0 (by rfl) (Array.toList (#[.int .i64 m.kind, .int .i64 m.node, .int .i64 (m.walk-1), .bool m.high, .slice a m.nodes.length c, .slice none 0 0, .slice none 0 0])) _ (blk_range (ST7.out.blkAt 1 rfl)) Tryz.underlying76 rfl Tryz.infoMsg7 ?_
    refine wpList_bldOutH (i0:=sn) (by rfl) (by rfl) ?_
    refine wpList_bldOutsH (by rfl) ?_
    obtain ⟨w9,hw_⟩:∃ x,x=w8.alloc (.cells (outArr sn { m with walk:=m.walk-1 } a c) 81):=⟨_,rfl⟩
    obtain ⟨ob,hob_⟩:∃ b,b=w8.heap.size:=⟨_,rfl⟩
    rw [←hw_, ←hob_]
    have ST8:=Lib.hid (show Sta Wb O p d1 (⟨q9, #[.bool false, .int .i64 sn, .bool false],170⟩::⟨q6, #[.int .i64 m.kind, .int .i64 m.node, .int .i64 (m.walk-1), .bool m.high, .slice a m.nodes.length c, .slice none 0 0, .slice none 0 0],76⟩::⟨bo,o.arr x,103⟩::B) (⟨81,8, .slice (some ⟨ob,0,none⟩) 1 1,1,oms [⟨m.to sn,a,c⟩]⟩::L) (orows o x R) w9 from hw_▸ST7.out.ownNew ((Fr.refl _ _).alloc _) (xs:=oms [⟨m.to sn,a,c⟩]) (n:=1) (by rw [heap_alloc_if,if_pos hob_];rfl) (Nat.le_of_eq hob_.symm) rfl (by decide))
    clear ST7 hw_ hob_
    go_wp2_with fail
    go_ret
    refine ⟨x,_,[⟨m.to sn,a,c⟩],rfl,rfl,?_⟩
    exact (ST8.out.lessB (List.Sublist.cons _ (List.Sublist.cons _ (List.Sublist.refl _)))).less (List.Sublist.refl _) (inC (List.mem_cons_of_mem _ (List.mem_cons_of_mem _ (List.mem_cons_of_mem _ (List.mem_cons_of_mem _ (HM.out))))) (inC (at_ 0 rfl) (inC (at_ 1 rfl) (inC (at_ 2 rfl) (inC (at_ 3 rfl) (fun _ h=>List.mem_cons_of_mem _ (List.mem_cons_of_mem _ (List.mem_cons_of_mem _ (List.mem_cons_of_mem _ (h))))))))))
   case true=>
    obtain ⟨v',d2,hk⟩:∃ a b,vKnow o.h.v m.node d1=(a,b):=⟨_,_,rfl⟩
    rw [hk] at CK
    simp only at CK
    obtain ⟨rfl,rfl,rfl⟩:oSetV o v'=o2∧[m.to sn]=oM∧d2=dn:=by
     have hj:=HJ.out
     rw [if_neg (by decide)] at hj
     unfold oFwdV at hj
     rw [if_pos rfl,hk] at hj
     injection hj with a b
     injection b with b c
     exact ⟨a,b,c⟩
    clear HJ
    clear hk
    go_upto_region 5 with fail
    obtain ⟨w6,hwd⟩:∃ x,x=w5.drew:=⟨_,rfl⟩
    have HWD:=Lib.hid hwd
    have ST7:=Lib.hid (show Sta Wb O p d1 (⟨q9, #[.bool false, .int .i64 sn, .bool true],170⟩::⟨q6,m.arr a c,76⟩::⟨bo,o.arr x,103⟩::B) L (orows o x R) w6 from hwd▸ST6.out.gr ((Fr.refl _ _).drew))
    clear ST6 hwd
    haveI:Nonempty (WC (fun w=>w.heap[bo]?=some (.cells (o.arr x) 103 (0,0))∧w.cell? ⟨q6,1,none⟩=some (.int .i64 m.node))):=⟨⟨w6,⟨ST7.out.blkAt 2 rfl,ST7.out.cell 1 1 rfl rfl⟩⟩⟩
    have y1:∀ z:WC (fun w=>w.heap[bo]?=some (.cells (o.arr x) 103 (0,0))∧w.cell? ⟨q6,1,none⟩=some (.int .i64 m.node)),z.val.cell? ⟨q6,1,none⟩=some (.int .i64 m.node):=fun z=>z.ok.2
    refine wp_region_lastO 13 [9] [] [0,1,2,3,4,5,6,7,8,9,10,11,12] (fun w'=>∃ z:WC (fun w=>w.heap[bo]?=some (.cells (o.arr x) 103 (0,0))∧w.cell? ⟨q6,1,none⟩=some (.int .i64 m.node)),w'=z.val) (by kernel_rfl) (by kernel_rfl) (fun c a w d v h=>by cases d<;>exact h) (fun c a w d v h=>by cases d<;>exact h) (by rw [←HWD.out];exact ⟨⟨w6,⟨ST7.out.blkAt 2 rfl,ST7.out.cell 1 1 rfl rfl⟩⟩,rfl⟩) ?_
    rw [←HWD.out]
    clear HWD
    simp only [List.take]
    clear c0 c2
    refine wpT_q (by simp only [gtA,gtZ]<;>rfl) (by rfl) (by rfl) ?_
    go_big_quiet_step (fail)
    refine wpQuiet_nil ?_
    refine wpT_q (by simp only [gtA,gtS,gtZ]<;>rfl) (by rfl) (by rfl) ?_
    go_big_quiet_step (fail)
    refine wpQuiet_nil ?_
    refine wpT_q (by simp only [gtA,gtS,gtZ]<;>rfl) (by rfl) (by rfl) ?_
    go_big_quiet_step (fail)
    refine wpQuiet_nil ?_
    refine wpT_q (by simp only [gtA,gtS,gtZ]<;>rfl) (by rfl) (by rfl) ?_
    go_big_quiet_step (fail)
    refine wpQuiet_nil ?_
    refine wpT_q (by simp only [gtA,gtS,gtZ]<;>rfl) (by rfl) (by rfl) ?_
    go_big_quiet_step (fail)
    refine wpQuiet_nil ?_
    refine wpT_q (by simp only [gtA,gtS,gtZ]<;>rfl) (by rfl) (by rfl) ?_
    refine wpQuiet_loadH (by rfl) 60 _ (by rfl) bo 8 (by rfl) (Array.toList (o.h.v.arr x.x.x)) _ (fun w ⟨z,hz⟩=>hz▸rangeIn z.ok.1 8 (by rfl)) Tryz.underlying60 rfl Tryz.infoView ?_
    refine wpQuiet_nil ?_
    simp only [Act.put,List.setIfInBounds_toArray,List.set_cons_succ,List.set_cons_zero]
    refine wpT_q (by simp only [gtA,gtS,gtZ]<;>rfl) (by rfl) (by rfl) ?_
    go_big_quiet_step (fail)
    refine wpQuiet_nil ?_
    refine wpT_q (by simp only [gtA,gtS,gtZ]<;>rfl) (by rfl) (by rfl) ?_
    go_big_quiet_step (fail)
    refine wpQuiet_nil ?_
    refine wpT_q (by simp only [gtA,gtS,gtZ]<;>rfl) (by rfl) (by rfl) ?_
    go_big_quiet_step (fail)
    refine wpQuiet_nil ?_
    refine wpT_e (by simp only [gtA,gtS,gtZ]<;>rfl) (by rfl) ?_
    go_wp2_with fail
    refine (CK.out _ (ST7.out.vw (v:=o.h.v) (y:=x.x.x) (at_ 1 rfl) (at_ 2 rfl) HG.out.h.v) ST7.out.dr (ST7.out.sep (v:=o.h.v) (y:=x.x.x) (at_ 1 rfl) (at_ 2 rfl))).mono ?_
    intro e w7 hst
    obtain ⟨y',rfl,hst2, -⟩:=ST7.out.callV (v:=o.h.v) (y:=x.x.x) (at_ 1 rfl) (at_ 2 rfl) hst
    have ST8:=Lib.hid (show Sta Wb O p d2 (⟨q9, #[.bool false, .int .i64 sn, .bool true],170⟩::⟨q6,m.arr a c,76⟩::⟨bo,o.arr x,103⟩::B) L (vrows v' y' (orows o x R)) w7 from hst2)
    clear hst hst2 CK ST7
    go_wp2_with fail
    refine ⟨⟨⟨w7,⟨ST8.out.blkAt 2 rfl,ST8.out.cell 1 1 rfl rfl⟩⟩,rfl⟩,?_⟩
    refine wpT_q (by simp only [gtA,gtS,gtZ]<;>rfl) (by rfl) (by rfl) ?_
    go_big_quiet_step (fail)
    refine wpQuiet_nil ?_
    refine wpT_q (by simp only [gtA,gtS,gtZ]<;>rfl) (by rfl) (by rfl) ?_
    go_big_quiet_step (fail)
    refine wpQuiet_nil ?_
    refine wpT_q (by simp only [gtA,gtS,gtZ]<;>rfl) (by rfl) (by rfl) ?_
    go_big_quiet_step (fail)
    refine wpQuiet_nil ?_
    clear this y1
    refine wpT_nil ?_
    simp only [lastQ,List.drop]
    go_upto_region 6 with (refine wpList_storeB (o:=8) (vs:=v'.arr y') (ST8.out.blkAt 2 rfl) (by rfl) 60 _ _ (by rfl) (by rfl) (by rfl) (Nat.le_of_ble_eq_true rfl) Tryz.infoView (by rw [←Array.all_toList];rfl) ?_)
    intro w7b f_ b_
    have ST9:=Lib.hid (show Sta Wb O p d2 (⟨q9, #[.bool false, .int .i64 sn, .bool true],170⟩::⟨q6,m.arr a c,76⟩::⟨bo, #[.int .i64 o.c.active, .int .i64 o.c.passive, .int .i64 o.c.far, .int .i64 o.c.near, .int .i64 o.c.mixA, .int .i64 o.c.mixP, .int .i64 o.c.every, .slice x.sa o.c.seeds.length x.sc, .int .i64 v'.self, .slice y'.aa v'.act.length y'.ac, .int .i64 v'.am, .slice y'.pa v'.pas.length y'.pc, .int .i64 v'.pm, .slice x.x.ka o.h.asked.length x.x.kc, .int .i64 64, .int .i64 o.ticks, .int .i64 o.seed],103⟩::B) L (vrows v' y' (orows o x R)) w7b from ST8.out.store 2 rfl f_ b_)
    clear ST8 f_ b_
    have c0:w7b.cell? ⟨q9,0,none⟩=some (.bool false):=ST9.out.cell 0 0 rfl rfl
    have c2:w7b.cell? ⟨q9,2,none⟩=some (.bool true):=ST9.out.cell 0 2 rfl rfl
    have c3:w7b.cell? ⟨q6,2,none⟩=some (.int .i64 m.walk):=ST9.out.cell 1 2 rfl rfl
    have c4:w7b.frozen? ⟨q6,2,none⟩=false:=ST9.out.froz 1 2 rfl
    go_upto_region 7 with fail
    obtain ⟨w8,hw_⟩:∃ x,x=w7b.setCell ⟨q6,2,none⟩ (.int .i64 (m.walk-1)):=⟨_,rfl⟩
    rw [←hw_]
    have ST10:=Lib.hid (show Sta Wb O p d2 (⟨q9, #[.bool false, .int .i64 sn, .bool true],170⟩::⟨q6, #[.int .i64 m.kind, .int .i64 m.node, .int .i64 (m.walk-1), .bool m.high, .slice a m.nodes.length c, .slice none 0 0, .slice none 0 0],76⟩::⟨bo, #[.int .i64 o.c.active, .int .i64 o.c.passive, .int .i64 o.c.far, .int .i64 o.c.near, .int .i64 o.c.mixA, .int .i64 o.c.mixP, .int .i64 o.c.every, .slice x.sa o.c.seeds.length x.sc, .int .i64 v'.self, .slice y'.aa v'.act.length y'.ac, .int .i64 v'.am, .slice y'.pa v'.pas.length y'.pc, .int .i64 v'.pm, .slice x.x.ka o.h.asked.length x.x.kc, .int .i64 64, .int .i64 o.ticks, .int .i64 o.seed],103⟩::B) L (vrows v' y' (orows o x R)) w8 from hw_▸ST9.out.setC 1 rfl 2 (.int .i64 (m.walk-1)) (Nat.le_of_ble_eq_true rfl))
    clear ST9 hw_
    clear c0 c2 c3 c4
    have c1:w8.cell? ⟨q9,1,none⟩=some (.int .i64 sn):=ST10.out.cell 0 1 rfl rfl
    refine wp_region_lit ?_
    iterate 6 go_step
    clear c1
    refine wpList_load_mid (by rfl) 76 _ (by rfl) q6 0 (by rfl) (Array.toList (#[.int .i64 m.kind, .int .i64 m.node, .int .i64 (m.walk-1), .bool m.high, .slice a m.nodes.length c, .slice none 0 0, .slice none 0 0])) _ (blk_range (ST10.out.blkAt 1 rfl)) Tryz.underlying76 rfl Tryz.infoMsg7 ?_
    refine wpList_bldOutH (i0:=sn) (by rfl) (by rfl) ?_
    refine wpList_bldOutsH (by rfl) ?_
    obtain ⟨w9,hw_⟩:∃ x,x=w8.alloc (.cells (outArr sn { m with walk:=m.walk-1 } a c) 81):=⟨_,rfl⟩
    obtain ⟨ob,hob_⟩:∃ b,b=w8.heap.size:=⟨_,rfl⟩
    rw [←hw_, ←hob_]
    have ST11:=Lib.hid (show Sta Wb O p d2 (⟨q9, #[.bool false, .int .i64 sn, .bool true],170⟩::⟨q6, #[.int .i64 m.kind, .int .i64 m.node, .int .i64 (m.walk-1), .bool m.high, .slice a m.nodes.length c, .slice none 0 0, .slice none 0 0],76⟩::⟨bo, #[.int .i64 o.c.active, .int .i64 o.c.passive, .int .i64 o.c.far, .int .i64 o.c.near, .int .i64 o.c.mixA, .int .i64 o.c.mixP, .int .i64 o.c.every, .slice x.sa o.c.seeds.length x.sc, .int .i64 v'.self, .slice y'.aa v'.act.length y'.ac, .int .i64 v'.am, .slice y'.pa v'.pas.length y'.pc, .int .i64 v'.pm, .slice x.x.ka o.h.asked.length x.x.kc, .int .i64 64, .int .i64 o.ticks, .int .i64 o.seed],103⟩::B) (⟨81,8, .slice (some ⟨ob,0,none⟩) 1 1,1,oms [⟨m.to sn,a,c⟩]⟩::L) (vrows v' y' (orows o x R)) w9 from hw_▸ST10.out.ownNew ((Fr.refl _ _).alloc _) (xs:=oms [⟨m.to sn,a,c⟩]) (n:=1) (by rw [heap_alloc_if,if_pos hob_];rfl) (Nat.le_of_eq hob_.symm) rfl (by decide))
    clear ST10 hw_ hob_
    go_wp2_with fail
    go_ret
    refine ⟨⟨x.sa,x.sc,⟨y',x.x.ka,x.x.kc⟩⟩,_,[⟨m.to sn,a,c⟩],rfl,rfl,?_⟩
    exact (ST11.out.lessB (List.Sublist.cons _ (List.Sublist.cons _ (List.Sublist.refl _)))).less (List.Sublist.refl _) (inC (List.mem_cons_of_mem _ (List.mem_cons_of_mem _ (List.mem_cons_of_mem _ (List.mem_cons_of_mem _ (List.mem_cons_of_mem _ (List.mem_cons_of_mem _ (HM.out))))))) (inC (at_ 2 rfl) (inC (at_ 0 rfl) (inC (at_ 1 rfl) (inC (at_ 5 rfl) (fun _ h=>List.mem_cons_of_mem _ (List.mem_cons_of_mem _ (List.mem_cons_of_mem _ (List.mem_cons_of_mem _ (List.mem_cons_of_mem _ (List.mem_cons_of_mem _ (h))))))))))))
 ·go_wp2_with fail
  obtain ⟨w3,hw_⟩:∃ x,x=w2.alloc (.cells stepZ 170):=⟨_,rfl⟩
  obtain ⟨q9,hb_⟩:∃ b,b=w2.heap.size:=⟨_,rfl⟩
  rw [←hw_, ←hb_]
  have ST4:=Lib.hid (show Sta Wb O p ds (⟨q9,stepZ,170⟩::⟨q6,m.arr a c,76⟩::⟨bo,o.arr x,103⟩::B) L (orows o x R) w3 from hw_▸ST3.out.box _ _ hb_)
  clear ST3 hw_ hb_
  refine ⟨⟨⟨w3,⟨ST4.out.blkAt 2 rfl,ST4.out.cell 1 1 rfl rfl,ST4.out.cell 1 2 rfl rfl,ST4.out.cell 2 3 rfl rfl⟩⟩,rfl⟩,?_⟩
  refine wpV_e (by simp only [gtA,gtS,gtZ]<;>rfl) (by rfl) ?_
  go_wp2_with fail
  refine (CW.out _ (ST4.out.vw (v:=o.h.v) (y:=x.x.x) (at_ 1 rfl) (at_ 2 rfl) HG.out.h.v) ST4.out.dr).mono ?_
  rintro e w4 ⟨rfl,d_,f_⟩
  clear CW
  have ST5:=Lib.hid (show Sta Wb O p d1 (⟨q9,stepZ,170⟩::⟨q6,m.arr a c,76⟩::⟨bo,o.arr x,103⟩::B) L (orows o x R) w4 from ST4.out.call f_ d_)
  clear ST4 d_ f_
  go_wp2_with fail
  refine ⟨⟨⟨w4,⟨ST5.out.blkAt 2 rfl,ST5.out.cell 1 1 rfl rfl,ST5.out.cell 1 2 rfl rfl,ST5.out.cell 2 3 rfl rfl⟩⟩,rfl⟩,?_⟩
  refine wpV_e (by simp only [gtA,gtS,gtZ]<;>rfl) (by rfl) ?_
  refine wpList_storeW (vs:= #[.bool se, .int .i64 sn, .bool sk]) (ST5.out.blkAt 0 rfl) (by rfl) 170 _ _ (by rfl) (by rfl) (by rfl) rfl Tryz.infoStep (by rw [←Array.all_toList];rfl) ?_
  intro w5 f_ b_
  have ST6:=Lib.hid (show Sta Wb O p d1 (⟨q9, #[.bool se, .int .i64 sn, .bool sk],170⟩::⟨q6,m.arr a c,76⟩::⟨bo,o.arr x,103⟩::B) L (orows o x R) w5 from ST5.out.store 0 rfl f_ b_)
  clear ST5 f_ b_
  refine wpList_nil ?_
  refine ⟨⟨⟨w5,⟨ST6.out.blkAt 2 rfl,ST6.out.cell 1 1 rfl rfl,ST6.out.cell 1 2 rfl rfl,ST6.out.cell 2 3 rfl rfl⟩⟩,rfl⟩,?_⟩
  simp only [Act.put]
  refine wpV_done ?_
  clear y1 y2 y3 this
  have c0:w5.cell? ⟨q9,0,none⟩=some (.bool se):=ST6.out.cell 0 0 rfl rfl
  cases se
  case true=>
   obtain ⟨o3,out,h3⟩:∃ a b,oAsk o m.node false=(a,b):=⟨_,_,rfl⟩
   rw [h3] at CA HJ
   simp only at CA HJ
   clear h3
   obtain ⟨rfl,rfl,rfl⟩:o3=o2∧out.map Ho.ms=oM∧d1=dn:=by
    have hj:=HJ.out
    simp only [if_true] at hj
    injection hj with a b
    injection b with b c
    exact ⟨a,b,c⟩
   clear HJ
   have c1:w5.cell? ⟨q6,1,none⟩=some (.int .i64 m.node):=ST6.out.cell 1 1 rfl rfl
   go_wp2_with fail
   refine (CA.out _ (ST6.out.lessB (List.Sublist.cons _ (List.Sublist.cons _ (List.Sublist.refl _))))).mono ?_
   rintro e w6 ⟨x',ov,rfl,hst⟩
   have ST20:=Lib.hid hst
   clear hst CA c0 c1 ST6
   go_wp2_with fail
   go_ret
   refine ⟨x',ov,out.map Ho.om,by rw [List.map_map];rfl,rfl,?_⟩
   rw [List.length_map]
   have hX:=ST20.out.addNils (k:=(out.map Ho.om).map Om.row) (by
    intro r hr
    rw [List.map_map] at hr
    obtain ⟨a, -, rfl⟩:=List.mem_map.1 hr
    exact ⟨rfl,Nat.le_refl _,Nat.zero_le _⟩)
   rw [show oms (out.map Ho.om)=houts out from (houts_oms out).symm]
   exact hX
  case false=>
   have c2:w5.cell? ⟨q9,2,none⟩=some (.bool sk):=ST6.out.cell 0 2 rfl rfl
   cases sk
   case false=>
    obtain ⟨rfl,rfl,rfl⟩:oSetV o o.h.v=o2∧[m.to sn]=oM∧d1=dn:=by
     have hj:=HJ.out
     rw [if_neg (by decide)] at hj
     unfold oFwdV at hj
     rw [if_neg (by decide)] at hj
     injection hj with a b
     injection b with b c
     exact ⟨a,b,c⟩
    clear HJ
    have c3:w5.cell? ⟨q6,2,none⟩=some (.int .i64 m.walk):=ST6.out.cell 1 2 rfl rfl
    have c4:w5.frozen? ⟨q6,2,none⟩=false:=ST6.out.froz 1 2 rfl
    go_upto_region 7 with fail
    obtain ⟨w8,hw_⟩:∃ x,x=w5.setCell ⟨q6,2,none⟩ (.int .i64 (m.walk-1)):=⟨_,rfl⟩
    rw [←hw_]
    have ST7:=Lib.hid (show Sta Wb O p d1 (⟨q9, #[.bool false, .int .i64 sn, .bool false],170⟩::⟨q6, #[.int .i64 m.kind, .int .i64 m.node, .int .i64 (m.walk-1), .bool m.high, .slice a m.nodes.length c, .slice none 0 0, .slice none 0 0],76⟩::⟨bo,o.arr x,103⟩::B) L (orows o x R) w8 from hw_▸ST6.out.setC 1 rfl 2 (.int .i64 (m.walk-1)) (Nat.le_of_ble_eq_true rfl))
    clear ST6 hw_
    clear c0 c2 c3 c4
    have c1:w8.cell? ⟨q9,1,none⟩=some (.int .i64 sn):=ST7.out.cell 0 1 rfl rfl
    refine wp_region_lit ?_
    iterate 6 go_step
    clear c1
    refine wpList_load_mid (by rfl) 76 _ (by rfl) q6 0 (by rfl) (Array.toList (#[.int .i64 m.kind, .int .i64 m.node, .int .i64 (m.walk-1), .bool m.high, .slice a m.nodes.length c, .slice none 0 0, .slice none 0 0])) _ (blk_range (ST7.out.blkAt 1 rfl)) Tryz.underlying76 rfl Tryz.infoMsg7 ?_
    refine wpList_bldOutH (i0:=sn) (by rfl) (by rfl) ?_
    refine wpList_bldOutsH (by rfl) ?_
    obtain ⟨w9,hw_⟩:∃ x,x=w8.alloc (.cells (outArr sn { m with walk:=m.walk-1 } a c) 81):=⟨_,rfl⟩
    obtain ⟨ob,hob_⟩:∃ b,b=w8.heap.size:=⟨_,rfl⟩
    rw [←hw_, ←hob_]
    have ST8:=Lib.hid (show Sta Wb O p d1 (⟨q9, #[.bool false, .int .i64 sn, .bool false],170⟩::⟨q6, #[.int .i64 m.kind, .int .i64 m.node, .int .i64 (m.walk-1), .bool m.high, .slice a m.nodes.length c, .slice none 0 0, .slice none 0 0],76⟩::⟨bo,o.arr x,103⟩::B) (⟨81,8, .slice (some ⟨ob,0,none⟩) 1 1,1,oms [⟨m.to sn,a,c⟩]⟩::L) (orows o x R) w9 from hw_▸ST7.out.ownNew ((Fr.refl _ _).alloc _) (xs:=oms [⟨m.to sn,a,c⟩]) (n:=1) (by rw [heap_alloc_if,if_pos hob_];rfl) (Nat.le_of_eq hob_.symm) rfl (by decide))
    clear ST7 hw_ hob_
    go_wp2_with fail
    go_ret
    refine ⟨x,_,[⟨m.to sn,a,c⟩],rfl,rfl,?_⟩
    exact (ST8.out.lessB (List.Sublist.cons _ (List.Sublist.cons _ (List.Sublist.refl _)))).less (List.Sublist.refl _) (inC (List.mem_cons_of_mem _ (List.mem_cons_of_mem _ (List.mem_cons_of_mem _ (List.mem_cons_of_mem _ (HM.out))))) (inC (at_ 0 rfl) (inC (at_ 1 rfl) (inC (at_ 2 rfl) (inC (at_ 3 rfl) (fun _ h=>List.mem_cons_of_mem _ (List.mem_cons_of_mem _ (List.mem_cons_of_mem _ (List.mem_cons_of_mem _ (h))))))))))
   case true=>
    obtain ⟨v',d2,hk⟩:∃ a b,vKnow o.h.v m.node d1=(a,b):=⟨_,_,rfl⟩
    rw [hk] at CK
    simp only at CK
    obtain ⟨rfl,rfl,rfl⟩:oSetV o v'=o2∧[m.to sn]=oM∧d2=dn:=by
     have hj:=HJ.out
     rw [if_neg (by decide)] at hj
     unfold oFwdV at hj
     rw [if_pos rfl,hk] at hj
     injection hj with a b
     injection b with b c
     exact ⟨a,b,c⟩
    clear HJ
    clear hk
    go_upto_region 5 with fail
    obtain ⟨w6,hwd⟩:∃ x,x=w5.drew:=⟨_,rfl⟩
    have HWD:=Lib.hid hwd
    have ST7:=Lib.hid (show Sta Wb O p d1 (⟨q9, #[.bool false, .int .i64 sn, .bool true],170⟩::⟨q6,m.arr a c,76⟩::⟨bo,o.arr x,103⟩::B) L (orows o x R) w6 from hwd▸ST6.out.gr ((Fr.refl _ _).drew))
    clear ST6 hwd
    haveI:Nonempty (WC (fun w=>w.heap[bo]?=some (.cells (o.arr x) 103 (0,0))∧w.cell? ⟨q6,1,none⟩=some (.int .i64 m.node))):=⟨⟨w6,⟨ST7.out.blkAt 2 rfl,ST7.out.cell 1 1 rfl rfl⟩⟩⟩
    have y1:∀ z:WC (fun w=>w.heap[bo]?=some (.cells (o.arr x) 103 (0,0))∧w.cell? ⟨q6,1,none⟩=some (.int .i64 m.node)),z.val.cell? ⟨q6,1,none⟩=some (.int .i64 m.node):=fun z=>z.ok.2
    refine wp_region_lastO 13 [9] [] [0,1,2,3,4,5,6,7,8,9,10,11,12] (fun w'=>∃ z:WC (fun w=>w.heap[bo]?=some (.cells (o.arr x) 103 (0,0))∧w.cell? ⟨q6,1,none⟩=some (.int .i64 m.node)),w'=z.val) (by kernel_rfl) (by kernel_rfl) (fun c a w d v h=>by cases d<;>exact h) (fun c a w d v h=>by cases d<;>exact h) (by rw [←HWD.out];exact ⟨⟨w6,⟨ST7.out.blkAt 2 rfl,ST7.out.cell 1 1 rfl rfl⟩⟩,rfl⟩) ?_
    rw [←HWD.out]
    clear HWD
    simp only [List.take]
    clear c0 c2
    refine wpT_q (by simp only [gtA,gtZ]<;>rfl) (by rfl) (by rfl) ?_
    go_big_quiet_step (fail)
    refine wpQuiet_nil ?_
    refine wpT_q (by simp only [gtA,gtS,gtZ]<;>rfl) (by rfl) (by rfl) ?_
    go_big_quiet_step (fail)
    refine wpQuiet_nil ?_
    refine wpT_q (by simp only [gtA,gtS,gtZ]<;>rfl) (by rfl) (by rfl) ?_
    go_big_quiet_step (fail)
    refine wpQuiet_nil ?_
    refine wpT_q (by simp only [gtA,gtS,gtZ]<;>rfl) (by rfl) (by rfl) ?_
    go_big_quiet_step (fail)
    refine wpQuiet_nil ?_
    refine wpT_q (by simp only [gtA,gtS,gtZ]<;>rfl) (by rfl) (by rfl) ?_
    go_big_quiet_step (fail)
    refine wpQuiet_nil ?_
    refine wpT_q (by simp only [gtA,gtS,gtZ]<;>rfl) (by rfl) (by rfl) ?_
    refine wpQuiet_loadH (by rfl) 60 _ (by rfl) bo 8 (by rfl) (Array.toList (o.h.v.arr x.x.x)) _ (fun w ⟨z,hz⟩=>hz▸rangeIn z.ok.1 8 (by rfl)) Tryz.underlying60 rfl Tryz.infoView ?_
    refine wpQuiet_nil ?_
    simp only [Act.put,List.setIfInBounds_toArray,List.set_cons_succ,List.set_cons_zero]
    refine wpT_q (by simp only [gtA,gtS,gtZ]<;>rfl) (by rfl) (by rfl) ?_
    go_big_quiet_step (fail)
    refine wpQuiet_nil ?_
    refine wpT_q (by simp only [gtA,gtS,gtZ]<;>rfl) (by rfl) (by rfl) ?_
    go_big_quiet_step (fail)
    refine wpQuiet_nil ?_
    refine wpT_q (by simp only [gtA,gtS,gtZ]<;>rfl) (by rfl) (by rfl) ?_
    go_big_quiet_step (fail)
    refine wpQuiet_nil ?_
    refine wpT_e (by simp only [gtA,gtS,gtZ]<;>rfl) (by rfl) ?_
    go_wp2_with fail
    refine (CK.out _ (ST7.out.vw (v:=o.h.v) (y:=x.x.x) (at_ 1 rfl) (at_ 2 rfl) HG.out.h.v) ST7.out.dr (ST7.out.sep (v:=o.h.v) (y:=x.x.x) (at_ 1 rfl) (at_ 2 rfl))).mono ?_
    intro e w7 hst
    obtain ⟨y',rfl,hst2, -⟩:=ST7.out.callV (v:=o.h.v) (y:=x.x.x) (at_ 1 rfl) (at_ 2 rfl) hst
    have ST8:=Lib.hid (show Sta Wb O p d2 (⟨q9, #[.bool false, .int .i64 sn, .bool true],170⟩::⟨q6,m.arr a c,76⟩::⟨bo,o.arr x,103⟩::B) L (vrows v' y' (orows o x R)) w7 from hst2)
    clear hst hst2 CK ST7
    go_wp2_with fail
    refine ⟨⟨⟨w7,⟨ST8.out.blkAt 2 rfl,ST8.out.cell 1 1 rfl rfl⟩⟩,rfl⟩,?_⟩
    refine wpT_q (by simp only [gtA,gtS,gtZ]<;>rfl) (by rfl) (by rfl) ?_
    go_big_quiet_step (fail)
    refine wpQuiet_nil ?_
    refine wpT_q (by simp only [gtA,gtS,gtZ]<;>rfl) (by rfl) (by rfl) ?_
    go_big_quiet_step (fail)
    refine wpQuiet_nil ?_
    refine wpT_q (by simp only [gtA,gtS,gtZ]<;>rfl) (by rfl) (by rfl) ?_
    go_big_quiet_step (fail)
    refine wpQuiet_nil ?_
    clear this y1
    refine wpT_nil ?_
    simp only [lastQ,List.drop]
    go_upto_region 6 with (refine wpList_storeB (o:=8) (vs:=v'.arr y') (ST8.out.blkAt 2 rfl) (by rfl) 60 _ _ (by rfl) (by rfl) (by rfl) (Nat.le_of_ble_eq_true rfl) Tryz.infoView (by rw [←Array.all_toList];rfl) ?_)
    intro w7b f_ b_
    have ST9:=Lib.hid (show Sta Wb O p d2 (⟨q9, #[.bool false, .int .i64 sn, .bool true],170⟩::⟨q6,m.arr a c,76⟩::⟨bo, #[.int .i64 o.c.active, .int .i64 o.c.passive, .int .i64 o.c.far, .int .i64 o.c.near, .int .i64 o.c.mixA, .int .i64 o.c.mixP, .int .i64 o.c.every, .slice x.sa o.c.seeds.length x.sc, .int .i64 v'.self, .slice y'.aa v'.act.length y'.ac, .int .i64 v'.am, .slice y'.pa v'.pas.length y'.pc, .int .i64 v'.pm, .slice x.x.ka o.h.asked.length x.x.kc, .int .i64 64, .int .i64 o.ticks, .int .i64 o.seed],103⟩::B) L (vrows v' y' (orows o x R)) w7b from ST8.out.store 2 rfl f_ b_)
    clear ST8 f_ b_
    have c0:w7b.cell? ⟨q9,0,none⟩=some (.bool false):=ST9.out.cell 0 0 rfl rfl
    have c2:w7b.cell? ⟨q9,2,none⟩=some (.bool true):=ST9.out.cell 0 2 rfl rfl
    have c3:w7b.cell? ⟨q6,2,none⟩=some (.int .i64 m.walk):=ST9.out.cell 1 2 rfl rfl
    have c4:w7b.frozen? ⟨q6,2,none⟩=false:=ST9.out.froz 1 2 rfl
    go_upto_region 7 with fail
    obtain ⟨w8,hw_⟩:∃ x,x=w7b.setCell ⟨q6,2,none⟩ (.int .i64 (m.walk-1)):=⟨_,rfl⟩
    rw [←hw_]
    have ST10:=Lib.hid (show Sta Wb O p d2 (⟨q9, #[.bool false, .int .i64 sn, .bool true],170⟩::⟨q6, #[.int .i64 m.kind, .int .i64 m.node, .int .i64 (m.walk-1), .bool m.high, .slice a m.nodes.length c, .slice none 0 0, .slice none 0 0],76⟩::⟨bo, #[.int .i64 o.c.active, .int .i64 o.c.passive, .int .i64 o.c.far, .int .i64 o.c.near, .int .i64 o.c.mixA, .int .i64 o.c.mixP, .int .i64 o.c.every, .slice x.sa o.c.seeds.length x.sc, .int .i64 v'.self, .slice y'.aa v'.act.length y'.ac, .int .i64 v'.am, .slice y'.pa v'.pas.length y'.pc, .int .i64 v'.pm, .slice x.x.ka o.h.asked.length x.x.kc, .int .i64 64, .int .i64 o.ticks, .int .i64 o.seed],103⟩::B) L (vrows v' y' (orows o x R)) w8 from hw_▸ST9.out.setC 1 rfl 2 (.int .i64 (m.walk-1)) (Nat.le_of_ble_eq_true rfl))
    clear ST9 hw_
    clear c0 c2 c3 c4
    have c1:w8.cell? ⟨q9,1,none⟩=some (.int .i64 sn):=ST10.out.cell 0 1 rfl rfl
    refine wp_region_lit ?_
    iterate 6 go_step
    clear c1
    refine wpList_load_mid (by rfl) 76 _ (by rfl) q6 0 (by rfl) (Array.toList (#[.int .i64 m.kind, .int .i64 m.node, .int .i64 (m.walk-1), .bool m.high, .slice a m.nodes.length c, .slice none 0 0, .slice none 0 0])) _ (blk_range (ST10.out.blkAt 1 rfl)) Tryz.underlying76 rfl Tryz.infoMsg7 ?_
    refine wpList_bldOutH (i0:=sn) (by rfl) (by rfl) ?_
    refine wpList_bldOutsH (by rfl) ?_
    obtain ⟨w9,hw_⟩:∃ x,x=w8.alloc (.cells (outArr sn { m with walk:=m.walk-1 } a c) 81):=⟨_,rfl⟩
    obtain ⟨ob,hob_⟩:∃ b,b=w8.heap.size:=⟨_,rfl⟩
    rw [←hw_, ←hob_]
    have ST11:=Lib.hid (show Sta Wb O p d2 (⟨q9, #[.bool false, .int .i64 sn, .bool true],170⟩::⟨q6, #[.int .i64 m.kind, .int .i64 m.node, .int .i64 (m.walk-1), .bool m.high, .slice a m.nodes.length c, .slice none 0 0, .slice none 0 0],76⟩::⟨bo, #[.int .i64 o.c.active, .int .i64 o.c.passive, .int .i64 o.c.far, .int .i64 o.c.near, .int .i64 o.c.mixA, .int .i64 o.c.mixP, .int .i64 o.c.every, .slice x.sa o.c.seeds.length x.sc, .int .i64 v'.self, .slice y'.aa v'.act.length y'.ac, .int .i64 v'.am, .slice y'.pa v'.pas.length y'.pc, .int .i64 v'.pm, .slice x.x.ka o.h.asked.length x.x.kc, .int .i64 64, .int .i64 o.ticks, .int .i64 o.seed],103⟩::B) (⟨81,8, .slice (some ⟨ob,0,none⟩) 1 1,1,oms [⟨m.to sn,a,c⟩]⟩::L) (vrows v' y' (orows o x R)) w9 from hw_▸ST10.out.ownNew ((Fr.refl _ _).alloc _) (xs:=oms [⟨m.to sn,a,c⟩]) (n:=1) (by rw [heap_alloc_if,if_pos hob_];rfl) (Nat.le_of_eq hob_.symm) rfl (by decide))
    clear ST10 hw_ hob_
    go_wp2_with fail
    go_ret
    refine ⟨⟨x.sa,x.sc,⟨y',x.x.ka,x.x.kc⟩⟩,_,[⟨m.to sn,a,c⟩],rfl,rfl,?_⟩
    exact (ST11.out.lessB (List.Sublist.cons _ (List.Sublist.cons _ (List.Sublist.refl _)))).less (List.Sublist.refl _) (inC (List.mem_cons_of_mem _ (List.mem_cons_of_mem _ (List.mem_cons_of_mem _ (List.mem_cons_of_mem _ (List.mem_cons_of_mem _ (List.mem_cons_of_mem _ (HM.out))))))) (inC (at_ 2 rfl) (inC (at_ 0 rfl) (inC (at_ 1 rfl) (inC (at_ 5 rfl) (fun _ h=>List.mem_cons_of_mem _ (List.mem_cons_of_mem _ (List.mem_cons_of_mem _ (List.mem_cons_of_mem _ (List.mem_cons_of_mem _ (List.mem_cons_of_mem _ (h))))))))))))
theorem Sta.callShuf {W:World} {O:Ori} {p:Value} {ds:List Int} {B:List Blk} {L:List Ow} {R:List Rw} {w w':World} (h:Sta W O p ds B L R w) {v:Vw} {x:VwP} {fr:Int} {m:Mq} {a:Option Addr} {c:Nat} {e:Ending}
  (h1:(⟨x.aa,v.act.length,x.ac,ints v.act⟩:Rw)∈R) (h2:(⟨x.pa,v.pas.length,x.pc,ints v.pas⟩:Rw)∈R) (h3:(⟨a,m.nodes.length,c,ints m.nodes⟩:Rw)∈R) (k:ShufEnd p v x fr m a c ds w e w'):
  ∃ (y:VwP) (l:List Om) (ov:Value),l.map Om.m=(mShuf v fr m ds).2.1∧e= .returned (.tuple #[.agg ((mShuf v fr m ds).1.arr y),ov])∧Sta W O p (mShuf v fr m ds).2.2 B (⟨81,8,ov,l.length,oms l⟩::L) (l.map Om.row++vrows (mShuf v fr m ds).1 y R) w':=by
 unfold ShufEnd at k
 unfold mShuf
 by_cases hm:(wMix v fr m.node m.walk ds).1=false
 ·rw [if_pos hm] at k ⊢
  obtain ⟨g,rfl,hg,hb,hv,d,f⟩:=k
  refine ⟨x,[⟨m.to (wMix v fr m.node m.walk ds).2.1,a,c⟩],_,rfl,rfl,?_⟩
  refine (h.leave (L2:=[_]) (R2:=[]) (Rin:=[]) inN ⟨⟨f,Kp.of _ _⟩,⟨fun _ hx=>(by cases hx),fun o ho=>by rw [List.mem_singleton.1 ho];exact (show NoT 81 by decide)⟩,d,fun _ hx=>(by cases hx),by simp,?_,List.pairwise_singleton _ _,fun _ hx=>(by cases hx),fun _ hx=>(by cases hx),fun _ hx=>(by cases hx)⟩).less (List.Sublist.refl _) (inC h3 (inC h1 (inC h2 (fun _ h=>h))))
  intro o ho
  rw [List.mem_singleton.1 ho]
  exact ⟨rfl, .inr ⟨g,1,_,rfl,hg,hb,Nat.le_refl _,by decide,rfl,rfl⟩⟩
 ·rw [if_neg hm] at k ⊢
  obtain ⟨y,ov,rfl,hv,d,hf,f,hno,hyes⟩:=k
  have hrow:=Sta.from_ h1 h2 hv hf
  cases ha:osAns v m
  ·rw [hno ha]
   refine ⟨y,[],_,rfl,rfl,?_⟩
   exact (h.rows f d hrow).ownNil _ _
  ·obtain ⟨g,aw,cw,rfl,hg,hb,hs,hn,hp⟩:=hyes ha
   rw [if_pos rfl]
   refine ⟨y,[⟨⟨m.node,8,0,0,false,(osWant v m (wMix v fr m.node m.walk ds).2.2.2).1⟩,aw,cw⟩],_,rfl,rfl,?_⟩
   refine h.leave (L2:=[_]) (R2:=⟨aw,_,cw,ints (osWant v m (wMix v fr m.node m.walk ds).2.2.2).1⟩::vrows _ y []) (Rin:=R) (fun _ h=>h) ⟨⟨f,Kp.of _ _⟩,⟨fun _ hx=>(by cases hx),fun o ho=>by rw [List.mem_singleton.1 ho];exact (show NoT 81 by decide)⟩,d,fun _ hx=>(by cases hx),by simp,?_,List.pairwise_singleton _ _,fun _ hx=>(by cases hx),?_,?_⟩
   ·intro o ho
    rw [List.mem_singleton.1 ho]
    exact ⟨rfl, .inr ⟨g,1,_,rfl,hg,hb,Nat.le_refl _,by decide,rfl,rfl⟩⟩
   ·intro r hr
    rcases List.mem_cons.1 hr with rfl | hr
    ·exact hs
    ·exact (hrow r hr).1
   ·intro r hr hne q hq
    rcases List.mem_cons.1 hr with rfl | hr
    ·have hq':=hn q hq
     refine ⟨h.nb hq'.1,fun _ hx=>(by cases hx),fun o ho=>?_, .inr hq'.1⟩
     rw [List.mem_singleton.1 ho]
     intro e2
     injection e2 with e2
     simp only at e2
     omega
    ·have key:(∃ r0∈R,r0.cs≠[]∧r0.a=some q)∨g<q.block:=by
      rcases List.mem_cons.1 hr with rfl | hr
      ·rcases hp.1 q hq with ⟨e0,ev⟩ | hge
       ·exact .inl ⟨_,h1,by simp only at hne ⊢;rw [ev];exact hne,e0⟩
       ·exact .inr hge
      ·rcases List.mem_cons.1 hr with rfl | hr
       ·rcases hp.2 q hq with ⟨e0,ev⟩ | hge
        ·exact .inl ⟨_,h2,by simp only at hne ⊢;rw [ev];exact hne,e0⟩
        ·exact .inr hge
       ·cases hr
     rcases key with ⟨r0,hr0,hn0,e0⟩ | hge
     ·refine ⟨(h.far r0 hr0 hn0 q e0).1,fun _ hx=>(by cases hx),fun o ho=>?_, .inl ⟨r0,hr0,hn0,q,e0,rfl⟩⟩
      rw [List.mem_singleton.1 ho]
      intro e2
      injection e2 with e2
      simp only at e2
      have:=(h.row r0 hr0).ltC hn0 e0
      omega
     ·refine ⟨h.nb (by omega),fun _ hx=>(by cases hx),fun o ho=>?_, .inr (by omega)⟩
      rw [List.mem_singleton.1 ho]
      intro e2
      injection e2 with e2
      simp only at e2
      omega
theorem ovTake_any (o:Ov) (x:OvP) (fr:Int) (m:Mq) (a:Option Addr) (c:Nat) (p:Value) (ds:List Int) (Wb:World) (O:Ori) (B:List Blk) (L:List Ow) (R:List Rw) (bo:Nat) (w:World) (st:Sta Wb O p ds (⟨bo,o.arr x,103⟩::B) L (orows o x R) w) (g:o.Ok) (hm:(⟨a,m.nodes.length,c,ints m.nodes⟩:Rw)∈R) (hwk:0≤m.walk∧m.walk≤1000) (hnl:m.nodes.length≤1000):
  Calls Tryz.prog 21 #[.pointer (some ⟨bo,0,none⟩), .int .i64 fr, .agg (m.arr a c),p] w (OEndM Wb O p (oTake o fr m ds).2.2 B L R bo (oTake o fr m ds).1 (oTake o fr m ds).2.1):=by
 obtain ⟨o2,oM,dn,h0⟩:∃ a b c,oTake o fr m ds=(a,b,c):=⟨_,_,_,rfl⟩
 rw [h0]
 simp only
 have HJ:=Lib.hid h0
 have HG:=Lib.hid g
 have HM:=Lib.hid hm
 have CJ:=Lib.hid (fun w (h1:Sta Wb O p ds (⟨bo,o.arr x,103⟩::B) L (orows o x R) w)=>ovJoins_any o x fr p ds Wb O B L R bo w h1 g)
 have CF:=Lib.hid (fun w (h1:Sta Wb O p ds (⟨bo,o.arr x,103⟩::B) L (orows o x R) w)=>ovForward_any o x fr m a c p ds Wb O B L R bo w h1 g hm hwk)
 have C3:=Lib.hid (fun O w (h1:Sta w O p ds [] [] (hrows o.h x.x []) w)=>handOnAsk_any o.h x.x fr m.high p ds O w h1 g.h)
 have C4:=Lib.hid (fun O w (h1:Sta w O p ds [] [] (hrows o.h x.x []) w)=>handOnYes_any o.h x.x fr p ds O w h1 g.h)
 have C5:=Lib.hid (fun O w (h1:Sta w O p ds [] [] (hrows o.h x.x []) w)=>handOnNo_any o.h x.x fr p ds O w h1 g.h)
 have C6:=Lib.hid (fun O w (h1:Sta w O p ds [] [] (hrows o.h x.x []) w)=>handOnBye_any o.h x.x fr p ds O w h1 g.h)
 have C7:=Lib.hid (fun w (h1:VwAt w o.h.v x.x.x) (h2:DrawV w p ds) (h3:VwSep p o.h.v x.x.x) (h4:SlA w a m.nodes.length c (ints m.nodes)) (h5:m.nodes≠[]→∀ q,a=some q→¬ pblk p q.block)=>onShuffle_any o.h.v x.x.x fr m a c p ds w h1 h2 h3 h4 h5 (by omega) hnl)
 have C8:=Lib.hid (fun w (h1:VwAt w o.h.v x.x.x) (h2:DrawV w p ds) (h3:VwSep p o.h.v x.x.x) (h4:SlA w a m.nodes.length c (ints m.nodes)) (h5:m.nodes≠[]→∀ q,a=some q→¬ pblk p q.block)=>onMixed_any o.h.v x.x.x m a c p ds w h1 h2 h3 h4 h5)
 clear h0 g hm hwk hnl
 have ST1:=Lib.hid st
 clear st
 go_enter Tryz.func21,Tryz.ntmps21
 go_upto_region 3 with fail
 obtain ⟨w1,hw_⟩:∃ x,x=w.alloc (.cells (m.arr a c) 76):=⟨_,rfl⟩
 obtain ⟨q6,hb_⟩:∃ b,b=w.heap.size:=⟨_,rfl⟩
 rw [←hw_, ←hb_]
 have ST2:=Lib.hid (show Sta Wb O p ds (⟨q6,m.arr a c,76⟩::⟨bo,o.arr x,103⟩::B) L (orows o x R) w1 from hw_▸ST1.out.box _ _ hb_)
 clear ST1 hw_ hb_
 have y0:w1.cell? ⟨q6,0,none⟩=some (.int .i64 m.kind):=ST2.out.cell 0 0 rfl rfl
 cases e1:(m.kind==1)
 case true=>
  clear CF C3 C4 C5 C6 C7 C8
  obtain ⟨o3,oM3,d3,h3⟩:∃ a b c,oJoins o fr ds=(a,b,c):=⟨_,_,_,rfl⟩
  rw [h3] at CJ
  simp only at CJ
  obtain ⟨rfl,rfl,rfl⟩:o3=o2∧oM3=oM∧d3=dn:=by
   have hj:=HJ.out
   unfold oTake at hj
   rw [if_pos (show m.kind=1 by simpa using e1)] at hj
   rw [h3] at hj
   injection hj with a b
   injection b with b c
   exact ⟨a,b,c⟩
  clear HJ
  clear h3
  go_wp2_with fail
  refine (CJ.out _ (ST2.out.lessB (List.Sublist.cons _ (List.Sublist.refl _)))).mono ?_
  intro e w2 hst
  obtain ⟨x',ov,l,hl,rfl,hst2⟩:=hst
  have ST20:=Lib.hid hst2
  have HL:=Lib.hid hl
  clear hst2 hl CJ ST2
  go_wp2_with fail
  go_ret
  exact ⟨x',ov,l,HL.out,rfl,ST20.out⟩
 case false=>
  cases e2:(m.kind==2)
  case true=>
   clear CJ C3 C4 C5 C6 C7 C8
   obtain ⟨o3,oM3,d3,h3⟩:∃ a b c,oForward o fr m ds=(a,b,c):=⟨_,_,_,rfl⟩
   rw [h3] at CF
   simp only at CF
   obtain ⟨rfl,rfl,rfl⟩:o3=o2∧oM3=oM∧d3=dn:=by
    have hj:=HJ.out
    unfold oTake at hj
    rw [if_neg (show ¬ m.kind=1 by simpa using e1)] at hj
    rw [if_pos (show m.kind=2 by simpa using e2)] at hj
    rw [h3] at hj
    injection hj with a b
    injection b with b c
    exact ⟨a,b,c⟩
   clear HJ
   clear h3
   go_upto_region 8 with fail
   clear y0
   refine wp_region_lit ?_
   go_wp2_with (refine wpList_load_mid (by rfl) 76 _ (by rfl) q6 0 (by rfl) (Array.toList (m.arr a c)) _ (blk_range (ST2.out.blkAt 0 rfl)) Tryz.underlying76 rfl Tryz.infoMsg7 ?_)
   refine (CF.out _ (ST2.out.lessB (List.Sublist.cons _ (List.Sublist.refl _)))).mono ?_
   intro e w2 hst
   obtain ⟨x',ov,l,hl,rfl,hst2⟩:=hst
   have ST20:=Lib.hid hst2
   have HL:=Lib.hid hl
   clear hst2 hl CF ST2
   go_wp2_with fail
   go_ret
   exact ⟨x',ov,l,HL.out,rfl,ST20.out⟩
  case false=>
   cases e3:(m.kind==3)
   case true=>
    clear CJ CF C4 C5 C6 C7 C8
    obtain ⟨h',out,d',hh⟩:∃ a b c,hOnAsk o.h fr m.high ds=(a,b,c):=⟨_,_,_,rfl⟩
    rw [hh] at C3
    simp only at C3
    obtain ⟨rfl,rfl,rfl⟩:{ o with h:=h' }=o2∧out.map Ho.ms=oM∧d'=dn:=by
     have hj:=HJ.out
     unfold oTake at hj
     rw [if_neg (show ¬ m.kind=1 by simpa using e1)] at hj
     rw [if_neg (show ¬ m.kind=2 by simpa using e2)] at hj
     rw [if_pos (show m.kind=3 by simpa using e3)] at hj
     unfold oHand at hj
     rw [hh] at hj
     injection hj with a b
     injection b with b c
     exact ⟨a,b,c⟩
    clear HJ
    clear hh
    go_upto_region 10 with fail
    obtain ⟨w2,hwd⟩:∃ x,x=w1.drew:=⟨_,rfl⟩
    have HWD:=Lib.hid hwd
    have ST3:=Lib.hid (show Sta Wb O p ds (⟨q6,m.arr a c,76⟩::⟨bo,o.arr x,103⟩::B) L (orows o x R) w2 from hwd▸ST2.out.gr ((Fr.refl _ _).drew))
    clear ST2 hwd
    haveI:Nonempty (WC (fun w=>w.cell? ⟨q6,3,none⟩=some (.bool m.high))):=⟨⟨w2,ST3.out.cell 0 3 rfl rfl⟩⟩
    have zc:∀ z:WC (fun w=>w.cell? ⟨q6,3,none⟩=some (.bool m.high)),z.val.cell? ⟨q6,3,none⟩=some (.bool m.high):=fun z=>z.ok
    refine wp_region_plan [4,9,15,16] (Plan.seq [0,1,2,3,4,5,6,7,8,9,10,11,12,13,14,15,16] .done) (fun w'=>∃ z:WC (fun w=>w.cell? ⟨q6,3,none⟩=some (.bool m.high)),w'=z.val) (by kernel_rfl) (by kernel_rfl) (fun c a w d v h=>by cases d<;>exact h) (fun c a w d v h=>by cases d<;>exact h) (by rw [←HWD.out];exact ⟨⟨w2,ST3.out.cell 0 3 rfl rfl⟩,rfl⟩) ?_
    rw [←HWD.out]
    clear HWD
    clear y0
    refine wpV_q (by simp only [gtA,gtZ]<;>rfl) (by rfl) (by rfl) ?_
    go_big_quiet_step (fail)
    refine wpQuiet_nil ?_
    refine wpV_q (by simp only [gtA,gtS,gtZ]<;>rfl) (by rfl) (by rfl) ?_
    go_big_quiet_step (fail)
    refine wpQuiet_nil ?_
    refine wpV_q (by simp only [gtA,gtS,gtZ]<;>rfl) (by rfl) (by rfl) ?_
    go_big_quiet_step (fail)
    refine wpQuiet_nil ?_
    refine wpV_q (by simp only [gtA,gtS,gtZ]<;>rfl) (by rfl) (by rfl) ?_
    go_big_quiet_step (fail)
    refine wpQuiet_nil ?_
    refine wpV_e (by simp only [gtA,gtS,gtZ]<;>rfl) (by rfl) ?_
    refine wpList_load_mid (by rfl) 100 _ (by rfl) bo 8 (by rfl) (Array.toList (#[.int .i64 o.h.v.self, .slice x.x.x.aa o.h.v.act.length x.x.x.ac, .int .i64 o.h.v.am, .slice x.x.x.pa o.h.v.pas.length x.x.x.pc, .int .i64 o.h.v.pm, .slice x.x.ka o.h.asked.length x.x.kc, .int .i64 64])) _ (rangeIn (cs:=o.arr x) (ST3.out.blkAt 1 rfl) 8 (by rfl)) Tryz.underlying100 rfl Tryz.infoHand ?_
    refine wpList_nil ?_
    refine ⟨⟨⟨w2,ST3.out.cell 0 3 rfl rfl⟩,rfl⟩,?_⟩
    simp only [Act.put,List.setIfInBounds_toArray,List.set_cons_succ,List.set_cons_zero]
    refine wpV_q (by simp only [gtA,gtS,gtZ]<;>rfl) (by rfl) (by rfl) ?_
    go_big_quiet_step (fail)
    refine wpQuiet_nil ?_
    refine wpV_q (by simp only [gtA,gtS,gtZ]<;>rfl) (by rfl) (by rfl) ?_
    go_big_quiet_step (fail)
    refine wpQuiet_nil ?_
    refine wpV_q (by simp only [gtA,gtS,gtZ]<;>rfl) (by rfl) (by rfl) ?_
    go_big_quiet_step (fail)
    refine wpQuiet_nil ?_
    refine wpV_q (by simp only [gtA,gtS,gtZ]<;>rfl) (by rfl) (by rfl) ?_
    go_big_quiet_step (fail)
    refine wpQuiet_nil ?_
    refine wpV_e (by simp only [gtA,gtS,gtZ]<;>rfl) (by rfl) ?_
    go_wp2_with fail
    refine (C3.out _ _ (ST3.out.enter (hrows o.h x.x []) (inC (at_ 1 rfl) (inC (at_ 2 rfl) (inC (at_ 3 rfl) inN))))).mono ?_
    intro e w3 hst
    obtain ⟨x',ov,rfl,hst2, -⟩:=hst
    have ST4:=Lib.hid (show Sta Wb O p d' (⟨q6,m.arr a c,76⟩::⟨bo,o.arr x,103⟩::B) (⟨81,8,ov,out.length,houts out⟩::L) (hrows h' x' (orows o x R)) w3 from ST3.out.leave (inC (at_ 1 rfl) (inC (at_ 2 rfl) (inC (at_ 3 rfl) inN))) hst2)
    clear hst2 ST3
    clear C3
    go_wp2_with fail
    refine ⟨⟨⟨w3,ST4.out.cell 0 3 rfl rfl⟩,rfl⟩,?_⟩
    refine wpV_q (by simp only [gtA,gtS,gtZ]<;>rfl) (by rfl) (by rfl) ?_
    go_big_quiet_step (fail)
    refine wpQuiet_nil ?_
    refine wpV_q (by simp only [gtA,gtS,gtZ]<;>rfl) (by rfl) (by rfl) ?_
    go_big_quiet_step (fail)
    refine wpQuiet_nil ?_
    refine wpV_q (by simp only [gtA,gtS,gtZ]<;>rfl) (by rfl) (by rfl) ?_
    go_big_quiet_step (fail)
    refine wpQuiet_nil ?_
    refine wpV_q (by simp only [gtA,gtS,gtZ]<;>rfl) (by rfl) (by rfl) ?_
    go_big_quiet_step (fail)
    refine wpQuiet_nil ?_
    refine wpV_q (by simp only [gtA,gtS,gtZ]<;>rfl) (by rfl) (by rfl) ?_
    go_big_quiet_step (fail)
    refine wpQuiet_nil ?_
    refine wpV_e (by simp only [gtA,gtS,gtZ]<;>rfl) (by rfl) ?_
    refine wpList_storeB (o:=8) (vs:=h'.arr x') (ST4.out.blkAt 1 rfl) (by rfl) 100 _ _ (by rfl) (by rfl) (by rfl) (Nat.le_of_ble_eq_true rfl) Tryz.infoHand (by rw [←Array.all_toList];rfl) ?_
    intro w4 f_ b_
    have ST5:=Lib.hid (show Sta Wb O p d' (⟨q6,m.arr a c,76⟩::⟨bo, #[.int .i64 o.c.active, .int .i64 o.c.passive, .int .i64 o.c.far, .int .i64 o.c.near, .int .i64 o.c.mixA, .int .i64 o.c.mixP, .int .i64 o.c.every, .slice x.sa o.c.seeds.length x.sc, .int .i64 h'.v.self, .slice x'.x.aa h'.v.act.length x'.x.ac, .int .i64 h'.v.am, .slice x'.x.pa h'.v.pas.length x'.x.pc, .int .i64 h'.v.pm, .slice x'.ka h'.asked.length x'.kc, .int .i64 64, .int .i64 o.ticks, .int .i64 o.seed],103⟩::B) (⟨81,8,ov,out.length,houts out⟩::L) (hrows h' x' (orows o x R)) w4 from ST4.out.store 1 rfl f_ b_)
    clear ST4 f_ b_
    refine wpList_nil ?_
    refine ⟨⟨⟨w4,ST5.out.cell 0 3 rfl rfl⟩,rfl⟩,?_⟩
    simp only [Act.put]
    refine wpV_e (by simp only [gtA,gtS,gtZ]<;>rfl) (by rfl) ?_
    go_wp2_with fail
    refine ⟨⟨⟨w4,ST5.out.cell 0 3 rfl rfl⟩,rfl⟩,?_⟩
    refine wpV_done ?_
    clear zc this
    go_wp2_with fail
    go_ret
    refine ⟨⟨x.sa,x.sc,x'⟩,ov,out.map Ho.om,by rw [List.map_map];rfl,rfl,?_⟩
    rw [List.length_map]
    have hX:=((ST5.out.lessB (List.Sublist.cons _ (List.Sublist.refl _))).less (List.Sublist.refl _) (inC (at_ 3 rfl) (inC (at_ 0 rfl) (inC (at_ 1 rfl) (inC (at_ 2 rfl) (fun _ h=>List.mem_cons_of_mem _ (List.mem_cons_of_mem _ (List.mem_cons_of_mem _ (List.mem_cons_of_mem _ (List.mem_cons_of_mem _ (List.mem_cons_of_mem _ (List.mem_cons_of_mem _ (h))))))))))))).addNils (k:=(out.map Ho.om).map Om.row) (by
     intro r hr
     rw [List.map_map] at hr
     obtain ⟨a, -, rfl⟩:=List.mem_map.1 hr
     exact ⟨rfl,Nat.le_refl _,Nat.zero_le _⟩)
    rw [show oms (out.map Ho.om)=houts out from (houts_oms out).symm]
    exact hX
   case false=>
    cases e4:(m.kind==4)
    case true=>
     clear CJ CF C3 C5 C6 C7 C8
     obtain ⟨h',out,d',hh⟩:∃ a b c,hOnYes o.h fr ds=(a,b,c):=⟨_,_,_,rfl⟩
     rw [hh] at C4
     simp only at C4
     obtain ⟨rfl,rfl,rfl⟩:{ o with h:=h' }=o2∧out.map Ho.ms=oM∧d'=dn:=by
      have hj:=HJ.out
      unfold oTake at hj
      rw [if_neg (show ¬ m.kind=1 by simpa using e1)] at hj
      rw [if_neg (show ¬ m.kind=2 by simpa using e2)] at hj
      rw [if_neg (show ¬ m.kind=3 by simpa using e3)] at hj
      rw [if_pos (show m.kind=4 by simpa using e4)] at hj
      unfold oHand at hj
      rw [hh] at hj
      injection hj with a b
      injection b with b c
      exact ⟨a,b,c⟩
     clear HJ
     clear hh
     go_upto_region 12 with fail
     clear y0
     refine wp_region_lit ?_
     go_wp2_with (refine wpList_load_mid (by rfl) 100 _ (by rfl) bo 8 (by rfl) (Array.toList (#[.int .i64 o.h.v.self, .slice x.x.x.aa o.h.v.act.length x.x.x.ac, .int .i64 o.h.v.am, .slice x.x.x.pa o.h.v.pas.length x.x.x.pc, .int .i64 o.h.v.pm, .slice x.x.ka o.h.asked.length x.x.kc, .int .i64 64])) _ (rangeIn (cs:=o.arr x) (ST2.out.blkAt 1 rfl) 8 (by rfl)) Tryz.underlying100 rfl Tryz.infoHand ?_)
     refine (C4.out _ _ (ST2.out.enter (hrows o.h x.x []) (inC (at_ 1 rfl) (inC (at_ 2 rfl) (inC (at_ 3 rfl) inN))))).mono ?_
     intro e w3 hst
     obtain ⟨x',ov,rfl,hst2, -⟩:=hst
     have ST3:=Lib.hid (show Sta Wb O p d' (⟨q6,m.arr a c,76⟩::⟨bo,o.arr x,103⟩::B) (⟨81,8,ov,out.length,houts out⟩::L) (hrows h' x' (orows o x R)) w3 from ST2.out.leave (inC (at_ 1 rfl) (inC (at_ 2 rfl) (inC (at_ 3 rfl) inN))) hst2)
     clear hst2 ST2
     clear C4
     go_wp2_with (refine wpList_storeB (o:=8) (vs:=h'.arr x') (ST3.out.blkAt 1 rfl) (by rfl) 100 _ _ (by rfl) (by rfl) (by rfl) (Nat.le_of_ble_eq_true rfl) Tryz.infoHand (by rw [←Array.all_toList];rfl) ?_)
     intro w4 f_ b_
     have ST4:=Lib.hid (show Sta Wb O p d' (⟨q6,m.arr a c,76⟩::⟨bo, #[.int .i64 o.c.active, .int .i64 o.c.passive, .int .i64 o.c.far, .int .i64 o.c.near, .int .i64 o.c.mixA, .int .i64 o.c.mixP, .int .i64 o.c.every, .slice x.sa o.c.seeds.length x.sc, .int .i64 h'.v.self, .slice x'.x.aa h'.v.act.length x'.x.ac, .int .i64 h'.v.am, .slice x'.x.pa h'.v.pas.length x'.x.pc, .int .i64 h'.v.pm, .slice x'.ka h'.asked.length x'.kc, .int .i64 64, .int .i64 o.ticks, .int .i64 o.seed],103⟩::B) (⟨81,8,ov,out.length,houts out⟩::L) (hrows h' x' (orows o x R)) w4 from ST3.out.store 1 rfl f_ b_)
     clear ST3 f_ b_
     go_wp2_with fail
     go_ret
     refine ⟨⟨x.sa,x.sc,x'⟩,ov,out.map Ho.om,by rw [List.map_map];rfl,rfl,?_⟩
     rw [List.length_map]
     have hX:=((ST4.out.lessB (List.Sublist.cons _ (List.Sublist.refl _))).less (List.Sublist.refl _) (inC (at_ 3 rfl) (inC (at_ 0 rfl) (inC (at_ 1 rfl) (inC (at_ 2 rfl) (fun _ h=>List.mem_cons_of_mem _ (List.mem_cons_of_mem _ (List.mem_cons_of_mem _ (List.mem_cons_of_mem _ (List.mem_cons_of_mem _ (List.mem_cons_of_mem _ (List.mem_cons_of_mem _ (h))))))))))))).addNils (k:=(out.map Ho.om).map Om.row) (by
      intro r hr
      rw [List.map_map] at hr
      obtain ⟨a, -, rfl⟩:=List.mem_map.1 hr
      exact ⟨rfl,Nat.le_refl _,Nat.zero_le _⟩)
     rw [show oms (out.map Ho.om)=houts out from (houts_oms out).symm]
     exact hX
    case false=>
     cases e5:(m.kind==5)
     case true=>
      clear CJ CF C3 C4 C6 C7 C8
      obtain ⟨h',out,d',hh⟩:∃ a b c,hOnNo o.h fr ds=(a,b,c):=⟨_,_,_,rfl⟩
      rw [hh] at C5
      simp only at C5
      obtain ⟨rfl,rfl,rfl⟩:{ o with h:=h' }=o2∧out.map Ho.ms=oM∧d'=dn:=by
       have hj:=HJ.out
       unfold oTake at hj
       rw [if_neg (show ¬ m.kind=1 by simpa using e1)] at hj
       rw [if_neg (show ¬ m.kind=2 by simpa using e2)] at hj
       rw [if_neg (show ¬ m.kind=3 by simpa using e3)] at hj
       rw [if_neg (show ¬ m.kind=4 by simpa using e4)] at hj
       rw [if_pos (show m.kind=5 by simpa using e5)] at hj
       unfold oHand at hj
       rw [hh] at hj
       injection hj with a b
       injection b with b c
       exact ⟨a,b,c⟩
      clear HJ
      clear hh
      go_upto_region 14 with fail
      clear y0
      refine wp_region_lit ?_
      go_wp2_with (refine wpList_load_mid (by rfl) 100 _ (by rfl) bo 8 (by rfl) (Array.toList (#[.int .i64 o.h.v.self, .slice x.x.x.aa o.h.v.act.length x.x.x.ac, .int .i64 o.h.v.am, .slice x.x.x.pa o.h.v.pas.length x.x.x.pc, .int .i64 o.h.v.pm, .slice x.x.ka o.h.asked.length x.x.kc, .int .i64 64])) _ (rangeIn (cs:=o.arr x) (ST2.out.blkAt 1 rfl) 8 (by rfl)) Tryz.underlying100 rfl Tryz.infoHand ?_)
      refine (C5.out _ _ (ST2.out.enter (hrows o.h x.x []) (inC (at_ 1 rfl) (inC (at_ 2 rfl) (inC (at_ 3 rfl) inN))))).mono ?_
      intro e w3 hst
      obtain ⟨x',ov,rfl,hst2, -⟩:=hst
      have ST3:=Lib.hid (show Sta Wb O p d' (⟨q6,m.arr a c,76⟩::⟨bo,o.arr x,103⟩::B) (⟨81,8,ov,out.length,houts out⟩::L) (hrows h' x' (orows o x R)) w3 from ST2.out.leave (inC (at_ 1 rfl) (inC (at_ 2 rfl) (inC (at_ 3 rfl) inN))) hst2)
      clear hst2 ST2
      clear C5
      go_wp2_with (refine wpList_storeB (o:=8) (vs:=h'.arr x') (ST3.out.blkAt 1 rfl) (by rfl) 100 _ _ (by rfl) (by rfl) (by rfl) (Nat.le_of_ble_eq_true rfl) Tryz.infoHand (by rw [←Array.all_toList];rfl) ?_)
      intro w4 f_ b_
      have ST4:=Lib.hid (show Sta Wb O p d' (⟨q6,m.arr a c,76⟩::⟨bo, #[.int .i64 o.c.active, .int .i64 o.c.passive, .int .i64 o.c.far, .int .i64 o.c.near, .int .i64 o.c.mixA, .int .i64 o.c.mixP, .int .i64 o.c.every, .slice x.sa o.c.seeds.length x.sc, .int .i64 h'.v.self, .slice x'.x.aa h'.v.act.length x'.x.ac, .int .i64 h'.v.am, .slice x'.x.pa h'.v.pas.length x'.x.pc, .int .i64 h'.v.pm, .slice x'.ka h'.asked.length x'.kc, .int .i64 64, .int .i64 o.ticks, .int .i64 o.seed],103⟩::B) (⟨81,8,ov,out.length,houts out⟩::L) (hrows h' x' (orows o x R)) w4 from ST3.out.store 1 rfl f_ b_)
      clear ST3 f_ b_
      go_wp2_with fail
      go_ret
      refine ⟨⟨x.sa,x.sc,x'⟩,ov,out.map Ho.om,by rw [List.map_map];rfl,rfl,?_⟩
      rw [List.length_map]
      have hX:=((ST4.out.lessB (List.Sublist.cons _ (List.Sublist.refl _))).less (List.Sublist.refl _) (inC (at_ 3 rfl) (inC (at_ 0 rfl) (inC (at_ 1 rfl) (inC (at_ 2 rfl) (fun _ h=>List.mem_cons_of_mem _ (List.mem_cons_of_mem _ (List.mem_cons_of_mem _ (List.mem_cons_of_mem _ (List.mem_cons_of_mem _ (List.mem_cons_of_mem _ (List.mem_cons_of_mem _ (h))))))))))))).addNils (k:=(out.map Ho.om).map Om.row) (by
       intro r hr
       rw [List.map_map] at hr
       obtain ⟨a, -, rfl⟩:=List.mem_map.1 hr
       exact ⟨rfl,Nat.le_refl _,Nat.zero_le _⟩)
      rw [show oms (out.map Ho.om)=houts out from (houts_oms out).symm]
      exact hX
     case false=>
      cases e6:(m.kind==6)
      case true=>
       clear CJ CF C3 C4 C5 C7 C8
       obtain ⟨h',d',hh⟩:∃ a b,hOnBye o.h fr ds=(a,b):=⟨_,_,rfl⟩
       rw [hh] at C6
       simp only at C6
       obtain ⟨rfl,rfl,rfl⟩:{ o with h:=h' }=o2∧([]:List Ms)=oM∧d'=dn:=by
        have hj:=HJ.out
        unfold oTake at hj
        rw [if_neg (show ¬ m.kind=1 by simpa using e1)] at hj
        rw [if_neg (show ¬ m.kind=2 by simpa using e2)] at hj
        rw [if_neg (show ¬ m.kind=3 by simpa using e3)] at hj
        rw [if_neg (show ¬ m.kind=4 by simpa using e4)] at hj
        rw [if_neg (show ¬ m.kind=5 by simpa using e5)] at hj
        rw [if_pos (show m.kind=6 by simpa using e6)] at hj
        rw [hh] at hj
        injection hj with a b
        injection b with b c
        exact ⟨a,b,c⟩
       clear HJ
       clear hh
       go_upto_region 16 with fail
       clear y0
       refine wp_region_lit ?_
       go_wp2_with (refine wpList_load_mid (by rfl) 100 _ (by rfl) bo 8 (by rfl) (Array.toList (#[.int .i64 o.h.v.self, .slice x.x.x.aa o.h.v.act.length x.x.x.ac, .int .i64 o.h.v.am, .slice x.x.x.pa o.h.v.pas.length x.x.x.pc, .int .i64 o.h.v.pm, .slice x.x.ka o.h.asked.length x.x.kc, .int .i64 64])) _ (rangeIn (cs:=o.arr x) (ST2.out.blkAt 1 rfl) 8 (by rfl)) Tryz.underlying100 rfl Tryz.infoHand ?_)
       refine (C6.out _ _ (ST2.out.enter (hrows o.h x.x []) (inC (at_ 1 rfl) (inC (at_ 2 rfl) (inC (at_ 3 rfl) inN))))).mono ?_
       intro e w3 hst
       obtain ⟨x',rfl,hst2, -⟩:=hst
       have ST3:=Lib.hid (show Sta Wb O p d' (⟨q6,m.arr a c,76⟩::⟨bo,o.arr x,103⟩::B) L (hrows h' x' (orows o x R)) w3 from ST2.out.leave (inC (at_ 1 rfl) (inC (at_ 2 rfl) (inC (at_ 3 rfl) inN))) hst2)
       clear hst2 ST2
       clear C6
       go_wp2_with (refine wpList_storeB (o:=8) (vs:=h'.arr x') (ST3.out.blkAt 1 rfl) (by rfl) 100 _ _ (by rfl) (by rfl) (by rfl) (Nat.le_of_ble_eq_true rfl) Tryz.infoHand (by rw [←Array.all_toList];rfl) ?_)
       intro w4 f_ b_
       have ST4:=Lib.hid (show Sta Wb O p d' (⟨q6,m.arr a c,76⟩::⟨bo, #[.int .i64 o.c.active, .int .i64 o.c.passive, .int .i64 o.c.far, .int .i64 o.c.near, .int .i64 o.c.mixA, .int .i64 o.c.mixP, .int .i64 o.c.every, .slice x.sa o.c.seeds.length x.sc, .int .i64 h'.v.self, .slice x'.x.aa h'.v.act.length x'.x.ac, .int .i64 h'.v.am, .slice x'.x.pa h'.v.pas.length x'.x.pc, .int .i64 h'.v.pm, .slice x'.ka h'.asked.length x'.kc, .int .i64 64, .int .i64 o.ticks, .int .i64 o.seed],103⟩::B) L (hrows h' x' (orows o x R)) w4 from ST3.out.store 1 rfl f_ b_)
       clear ST3 f_ b_
       go_wp2_with fail
       go_ret
       exact ⟨⟨x.sa,x.sc,x'⟩,_,[],rfl,rfl,((ST4.out.lessB (List.Sublist.cons _ (List.Sublist.refl _))).less (List.Sublist.refl _) (inC (at_ 3 rfl) (inC (at_ 0 rfl) (inC (at_ 1 rfl) (inC (at_ 2 rfl) (fun _ h=>List.mem_cons_of_mem _ (List.mem_cons_of_mem _ (List.mem_cons_of_mem _ (List.mem_cons_of_mem _ (List.mem_cons_of_mem _ (List.mem_cons_of_mem _ (List.mem_cons_of_mem _ (h))))))))))))).ownNil _ _⟩
      case false=>
       cases e7:(m.kind==7)
       case true=>
        clear CJ CF C3 C4 C5 C6 C8
        obtain ⟨sv,sl,sd,hsh⟩:∃ a b c,mShuf o.h.v fr m ds=(a,b,c):=⟨_,_,_,rfl⟩
        obtain ⟨rfl,rfl,rfl⟩:oSetV o sv=o2∧sl=oM∧sd=dn:=by
         have hj:=HJ.out
         unfold oTake at hj
         rw [if_neg (show ¬ m.kind=1 by simpa using e1)] at hj
         rw [if_neg (show ¬ m.kind=2 by simpa using e2)] at hj
         rw [if_neg (show ¬ m.kind=3 by simpa using e3)] at hj
         rw [if_neg (show ¬ m.kind=4 by simpa using e4)] at hj
         rw [if_neg (show ¬ m.kind=5 by simpa using e5)] at hj
         rw [if_neg (show ¬ m.kind=6 by simpa using e6)] at hj
         rw [if_pos (show m.kind=7 by simpa using e7)] at hj
         rw [hsh] at hj
         injection hj with a b
         injection b with b c
         exact ⟨a,b,c⟩
        clear HJ
        have HSH:=Lib.hid hsh
        clear hsh
        go_upto_region 18 with fail
        obtain ⟨w2,hwd⟩:∃ x,x=w1.drew:=⟨_,rfl⟩
        have HWD:=Lib.hid hwd
        have ST3:=Lib.hid (show Sta Wb O p ds (⟨q6,m.arr a c,76⟩::⟨bo,o.arr x,103⟩::B) L (orows o x R) w2 from hwd▸ST2.out.gr ((Fr.refl _ _).drew))
        clear ST2 hwd
        haveI:Nonempty (WC (fun w=>w.heap[q6]?=some (.cells (m.arr a c) 76 (0,0)))):=⟨⟨w2,ST3.out.blkAt 0 rfl⟩⟩
        refine wp_region_plan [5,9,16,17] (Plan.seq [0,1,2,3,4,5,6,7,8,9,10,11,12,13,14,15,16,17] .done) (fun w'=>∃ z:WC (fun w=>w.heap[q6]?=some (.cells (m.arr a c) 76 (0,0))),w'=z.val) (by kernel_rfl) (by kernel_rfl) (fun c a w d v h=>by cases d<;>exact h) (fun c a w d v h=>by cases d<;>exact h) (by rw [←HWD.out];exact ⟨⟨w2,ST3.out.blkAt 0 rfl⟩,rfl⟩) ?_
        rw [←HWD.out]
        clear HWD
        clear y0
        refine wpV_q (by simp only [gtA,gtZ]<;>rfl) (by rfl) (by rfl) ?_
        go_big_quiet_step (fail)
        refine wpQuiet_nil ?_
        refine wpV_q (by simp only [gtA,gtS,gtZ]<;>rfl) (by rfl) (by rfl) ?_
        go_big_quiet_step (fail)
        refine wpQuiet_nil ?_
        refine wpV_q (by simp only [gtA,gtS,gtZ]<;>rfl) (by rfl) (by rfl) ?_
        go_big_quiet_step (fail)
        refine wpQuiet_nil ?_
        refine wpV_q (by simp only [gtA,gtS,gtZ]<;>rfl) (by rfl) (by rfl) ?_
        go_big_quiet_step (fail)
        refine wpQuiet_nil ?_
        refine wpV_q (by simp only [gtA,gtS,gtZ]<;>rfl) (by rfl) (by rfl) ?_
        go_big_quiet_step (fail)
        refine wpQuiet_nil ?_
        refine wpV_e (by simp only [gtA,gtS,gtZ]<;>rfl) (by rfl) ?_
        refine wpList_load_mid (by rfl) 60 _ (by rfl) bo 8 (by rfl) (Array.toList (#[.int .i64 o.h.v.self, .slice x.x.x.aa o.h.v.act.length x.x.x.ac, .int .i64 o.h.v.am, .slice x.x.x.pa o.h.v.pas.length x.x.x.pc, .int .i64 o.h.v.pm])) _ (rangeIn (cs:=o.arr x) (ST3.out.blkAt 1 rfl) 8 (by rfl)) Tryz.underlying60 rfl Tryz.infoView ?_
        refine wpList_nil ?_
        refine ⟨⟨⟨w2,ST3.out.blkAt 0 rfl⟩,rfl⟩,?_⟩
        simp only [Act.put,List.setIfInBounds_toArray,List.set_cons_succ,List.set_cons_zero]
        refine wpV_q (by simp only [gtA,gtS,gtZ]<;>rfl) (by rfl) (by rfl) ?_
        go_big_quiet_step (fail)
        refine wpQuiet_nil ?_
        refine wpV_q (by simp only [gtA,gtS,gtZ]<;>rfl) (by rfl) (by rfl) ?_
        refine wpQuiet_loadH (by rfl) 76 _ (by rfl) q6 0 (by rfl) (Array.toList (m.arr a c)) _ (fun w ⟨z,hz⟩=>hz▸blk_range z.ok) Tryz.underlying76 rfl Tryz.infoMsg7 ?_
        refine wpQuiet_nil ?_
        simp only [Act.put,List.setIfInBounds_toArray,List.set_cons_succ,List.set_cons_zero]
        refine wpV_q (by simp only [gtA,gtS,gtZ]<;>rfl) (by rfl) (by rfl) ?_
        go_big_quiet_step (fail)
        refine wpQuiet_nil ?_
        refine wpV_e (by simp only [gtA,gtS,gtZ]<;>rfl) (by rfl) ?_
        go_wp2_with fail
        refine (C7.out _ (ST3.out.vw (v:=o.h.v) (y:=x.x.x) (at_ 1 rfl) (at_ 2 rfl) HG.out.h.v) ST3.out.dr (ST3.out.sep (v:=o.h.v) (y:=x.x.x) (at_ 1 rfl) (at_ 2 rfl)) (ST3.out.row _ (List.mem_cons_of_mem _ (List.mem_cons_of_mem _ (List.mem_cons_of_mem _ (List.mem_cons_of_mem _ HM.out))))) (fun hn q hq=>(ST3.out.far _ (List.mem_cons_of_mem _ (List.mem_cons_of_mem _ (List.mem_cons_of_mem _ (List.mem_cons_of_mem _ HM.out)))) (ints_ne hn) q hq).1)).mono ?_
        intro e w3 hst
        obtain ⟨y',l,ov,hl,rfl,hst2⟩:=ST3.out.callShuf (v:=o.h.v) (x:=x.x.x) (at_ 1 rfl) (at_ 2 rfl) (List.mem_cons_of_mem _ (List.mem_cons_of_mem _ (List.mem_cons_of_mem _ (List.mem_cons_of_mem _ HM.out)))) hst
        simp only [HSH.out] at hst2 hl ⊢
        have ST4:=Lib.hid (show Sta Wb O p sd (⟨q6,m.arr a c,76⟩::⟨bo,o.arr x,103⟩::B) (⟨81,8,ov,l.length,oms l⟩::L) (l.map Om.row++vrows sv y' (orows o x R)) w3 from hst2)
        have HL:=Lib.hid hl
        clear hst hst2 hl HSH C7 ST3
        go_wp2_with fail
        refine ⟨⟨⟨w3,ST4.out.blkAt 0 rfl⟩,rfl⟩,?_⟩
        refine wpV_q (by simp only [gtA,gtS,gtZ]<;>rfl) (by rfl) (by rfl) ?_
        go_big_quiet_step (fail)
        refine wpQuiet_nil ?_
        refine wpV_q (by simp only [gtA,gtS,gtZ]<;>rfl) (by rfl) (by rfl) ?_
        go_big_quiet_step (fail)
        refine wpQuiet_nil ?_
        refine wpV_q (by simp only [gtA,gtS,gtZ]<;>rfl) (by rfl) (by rfl) ?_
        go_big_quiet_step (fail)
        refine wpQuiet_nil ?_
        refine wpV_q (by simp only [gtA,gtS,gtZ]<;>rfl) (by rfl) (by rfl) ?_
        go_big_quiet_step (fail)
        refine wpQuiet_nil ?_
        refine wpV_q (by simp only [gtA,gtS,gtZ]<;>rfl) (by rfl) (by rfl) ?_
        go_big_quiet_step (fail)
        refine wpQuiet_nil ?_
        refine wpV_q (by simp only [gtA,gtS,gtZ]<;>rfl) (by rfl) (by rfl) ?_
        go_big_quiet_step (fail)
        refine wpQuiet_nil ?_
        refine wpV_e (by simp only [gtA,gtS,gtZ]<;>rfl) (by rfl) ?_
        refine wpList_storeB (o:=8) (vs:=sv.arr y') (ST4.out.blkAt 1 rfl) (by rfl) 60 _ _ (by rfl) (by rfl) (by rfl) (Nat.le_of_ble_eq_true rfl) Tryz.infoView (by rw [←Array.all_toList];rfl) ?_
        intro w4 f_ b_
        have ST5:=Lib.hid (show Sta Wb O p sd (⟨q6,m.arr a c,76⟩::⟨bo, #[.int .i64 o.c.active, .int .i64 o.c.passive, .int .i64 o.c.far, .int .i64 o.c.near, .int .i64 o.c.mixA, .int .i64 o.c.mixP, .int .i64 o.c.every, .slice x.sa o.c.seeds.length x.sc, .int .i64 sv.self, .slice y'.aa sv.act.length y'.ac, .int .i64 sv.am, .slice y'.pa sv.pas.length y'.pc, .int .i64 sv.pm, .slice x.x.ka o.h.asked.length x.x.kc, .int .i64 64, .int .i64 o.ticks, .int .i64 o.seed],103⟩::B) (⟨81,8,ov,l.length,oms l⟩::L) (l.map Om.row++vrows sv y' (orows o x R)) w4 from ST4.out.store 1 rfl f_ b_)
        clear ST4 f_ b_
        refine wpList_nil ?_
        refine ⟨⟨⟨w4,ST5.out.blkAt 0 rfl⟩,rfl⟩,?_⟩
        simp only [Act.put]
        refine wpV_e (by simp only [gtA,gtS,gtZ]<;>rfl) (by rfl) ?_
        go_wp2_with fail
        refine ⟨⟨⟨w4,ST5.out.blkAt 0 rfl⟩,rfl⟩,?_⟩
        refine wpV_done ?_
        clear this
        go_wp2_with fail
        go_ret
        exact ⟨⟨x.sa,x.sc,⟨y',x.x.ka,x.x.kc⟩⟩,ov,l,HL.out,rfl,(ST5.out.lessB (List.Sublist.cons _ (List.Sublist.refl _))).less (List.Sublist.refl _) (fun r hr=>(List.mem_append.1 hr).elim (fun h=>List.mem_append_left _ h) (fun h=>List.mem_append_right _ ((show ∀ r∈orows (oSetV o sv) ⟨x.sa,x.sc,⟨y',x.x.ka,x.x.kc⟩⟩ R,r∈vrows sv y' (orows o x R) from (inC (at_ 2 rfl) (inC (at_ 0 rfl) (inC (at_ 1 rfl) (inC (at_ 5 rfl) (fun _ h=>List.mem_cons_of_mem _ (List.mem_cons_of_mem _ (List.mem_cons_of_mem _ (List.mem_cons_of_mem _ (List.mem_cons_of_mem _ (List.mem_cons_of_mem _ (h)))))))))))) r h)))⟩
       case false=>
        cases e8:(m.kind==8)
        case true=>
         clear CJ CF C3 C4 C5 C6 C7
         obtain ⟨v',d',hh⟩:∃ a b,kAll o.h.v m.nodes ds=(a,b):=⟨_,_,rfl⟩
         rw [hh] at C8
         simp only at C8
         obtain ⟨rfl,rfl,rfl⟩:oSetV o v'=o2∧([]:List Ms)=oM∧d'=dn:=by
          have hj:=HJ.out
          unfold oTake at hj
          rw [if_neg (show ¬ m.kind=1 by simpa using e1)] at hj
          rw [if_neg (show ¬ m.kind=2 by simpa using e2)] at hj
          rw [if_neg (show ¬ m.kind=3 by simpa using e3)] at hj
          rw [if_neg (show ¬ m.kind=4 by simpa using e4)] at hj
          rw [if_neg (show ¬ m.kind=5 by simpa using e5)] at hj
          rw [if_neg (show ¬ m.kind=6 by simpa using e6)] at hj
          rw [if_neg (show ¬ m.kind=7 by simpa using e7)] at hj
          rw [if_pos (show m.kind=8 by simpa using e8)] at hj
          rw [hh] at hj
          injection hj with a b
          injection b with b c
          exact ⟨a,b,c⟩
         clear HJ
         clear hh
         go_upto_region 20 with fail
         obtain ⟨w2,hwd⟩:∃ x,x=w1.drew:=⟨_,rfl⟩
         have HWD:=Lib.hid hwd
         have ST3:=Lib.hid (show Sta Wb O p ds (⟨q6,m.arr a c,76⟩::⟨bo,o.arr x,103⟩::B) L (orows o x R) w2 from hwd▸ST2.out.gr ((Fr.refl _ _).drew))
         clear ST2 hwd
         haveI:Nonempty (WC (fun w=>w.heap[bo]?=some (.cells (o.arr x) 103 (0,0))∧w.heap[q6]?=some (.cells (m.arr a c) 76 (0,0)))):=⟨⟨w2,⟨ST3.out.blkAt 1 rfl,ST3.out.blkAt 0 rfl⟩⟩⟩
         refine wp_region_lastO 12 [8] [] [0,1,2,3,4,5,6,7,8,9,10,11] (fun w'=>∃ z:WC (fun w=>w.heap[bo]?=some (.cells (o.arr x) 103 (0,0))∧w.heap[q6]?=some (.cells (m.arr a c) 76 (0,0))),w'=z.val) (by kernel_rfl) (by kernel_rfl) (fun c a w d v h=>by cases d<;>exact h) (fun c a w d v h=>by cases d<;>exact h) (by rw [←HWD.out];exact ⟨⟨w2,⟨ST3.out.blkAt 1 rfl,ST3.out.blkAt 0 rfl⟩⟩,rfl⟩) ?_
         rw [←HWD.out]
         clear HWD
         simp only [List.take]
         clear y0
         refine wpT_q (by simp only [gtA,gtZ]<;>rfl) (by rfl) (by rfl) ?_
         go_big_quiet_step (fail)
         refine wpQuiet_nil ?_
         refine wpT_q (by simp only [gtA,gtS,gtZ]<;>rfl) (by rfl) (by rfl) ?_
         go_big_quiet_step (fail)
         refine wpQuiet_nil ?_
         refine wpT_q (by simp only [gtA,gtS,gtZ]<;>rfl) (by rfl) (by rfl) ?_
         go_big_quiet_step (fail)
         refine wpQuiet_nil ?_
         refine wpT_q (by simp only [gtA,gtS,gtZ]<;>rfl) (by rfl) (by rfl) ?_
         go_big_quiet_step (fail)
         refine wpQuiet_nil ?_
         refine wpT_q (by simp only [gtA,gtS,gtZ]<;>rfl) (by rfl) (by rfl) ?_
         go_big_quiet_step (fail)
         refine wpQuiet_nil ?_
         refine wpT_q (by simp only [gtA,gtS,gtZ]<;>rfl) (by rfl) (by rfl) ?_
         refine wpQuiet_loadH (by rfl) 60 _ (by rfl) bo 8 (by rfl) (Array.toList (o.h.v.arr x.x.x)) _ (fun w ⟨z,hz⟩=>hz▸rangeIn z.ok.1 8 (by rfl)) Tryz.underlying60 rfl Tryz.infoView ?_
         refine wpQuiet_nil ?_
         simp only [Act.put,List.setIfInBounds_toArray,List.set_cons_succ,List.set_cons_zero]
         refine wpT_q (by simp only [gtA,gtS,gtZ]<;>rfl) (by rfl) (by rfl) ?_
         refine wpQuiet_loadH (by rfl) 76 _ (by rfl) q6 0 (by rfl) (Array.toList (m.arr a c)) _ (fun w ⟨z,hz⟩=>hz▸blk_range z.ok.2) Tryz.underlying76 rfl Tryz.infoMsg7 ?_
         refine wpQuiet_nil ?_
         simp only [Act.put,List.setIfInBounds_toArray,List.set_cons_succ,List.set_cons_zero]
         refine wpT_q (by simp only [gtA,gtS,gtZ]<;>rfl) (by rfl) (by rfl) ?_
         go_big_quiet_step (fail)
         refine wpQuiet_nil ?_
         refine wpT_e (by simp only [gtA,gtS,gtZ]<;>rfl) (by rfl) ?_
         go_wp2_with fail
         refine (C8.out _ (ST3.out.vw (v:=o.h.v) (y:=x.x.x) (at_ 1 rfl) (at_ 2 rfl) HG.out.h.v) ST3.out.dr (ST3.out.sep (v:=o.h.v) (y:=x.x.x) (at_ 1 rfl) (at_ 2 rfl)) (ST3.out.row _ (List.mem_cons_of_mem _ (List.mem_cons_of_mem _ (List.mem_cons_of_mem _ (List.mem_cons_of_mem _ HM.out))))) (fun hn q hq=>(ST3.out.far _ (List.mem_cons_of_mem _ (List.mem_cons_of_mem _ (List.mem_cons_of_mem _ (List.mem_cons_of_mem _ HM.out)))) (ints_ne hn) q hq).1)).mono ?_
         intro e w3 hst
         obtain ⟨y',rfl,hst2, -⟩:=ST3.out.callV (v:=o.h.v) (y:=x.x.x) (at_ 1 rfl) (at_ 2 rfl) hst
         have ST4:=Lib.hid (show Sta Wb O p d' (⟨q6,m.arr a c,76⟩::⟨bo,o.arr x,103⟩::B) L (vrows v' y' (orows o x R)) w3 from hst2)
         clear hst hst2 C8 ST3
         go_wp2_with fail
         refine ⟨⟨⟨w3,⟨ST4.out.blkAt 1 rfl,ST4.out.blkAt 0 rfl⟩⟩,rfl⟩,?_⟩
         refine wpT_q (by simp only [gtA,gtS,gtZ]<;>rfl) (by rfl) (by rfl) ?_
         go_big_quiet_step (fail)
         refine wpQuiet_nil ?_
         refine wpT_q (by simp only [gtA,gtS,gtZ]<;>rfl) (by rfl) (by rfl) ?_
         go_big_quiet_step (fail)
         refine wpQuiet_nil ?_
         refine wpT_q (by simp only [gtA,gtS,gtZ]<;>rfl) (by rfl) (by rfl) ?_
         go_big_quiet_step (fail)
         refine wpQuiet_nil ?_
         clear this
         refine wpT_nil ?_
         simp only [lastQ,List.drop]
         go_wp2_with (refine wpList_storeB (o:=8) (vs:=v'.arr y') (ST4.out.blkAt 1 rfl) (by rfl) 60 _ _ (by rfl) (by rfl) (by rfl) (Nat.le_of_ble_eq_true rfl) Tryz.infoView (by rw [←Array.all_toList];rfl) ?_)
         intro w4 f_ b_
         have ST5:=Lib.hid (show Sta Wb O p d' (⟨q6,m.arr a c,76⟩::⟨bo, #[.int .i64 o.c.active, .int .i64 o.c.passive, .int .i64 o.c.far, .int .i64 o.c.near, .int .i64 o.c.mixA, .int .i64 o.c.mixP, .int .i64 o.c.every, .slice x.sa o.c.seeds.length x.sc, .int .i64 v'.self, .slice y'.aa v'.act.length y'.ac, .int .i64 v'.am, .slice y'.pa v'.pas.length y'.pc, .int .i64 v'.pm, .slice x.x.ka o.h.asked.length x.x.kc, .int .i64 64, .int .i64 o.ticks, .int .i64 o.seed],103⟩::B) L (vrows v' y' (orows o x R)) w4 from ST4.out.store 1 rfl f_ b_)
         clear ST4 f_ b_
         go_wp2_with fail
         go_ret
         exact ⟨⟨x.sa,x.sc,⟨y',x.x.ka,x.x.kc⟩⟩,_,[],rfl,rfl,((ST5.out.lessB (List.Sublist.cons _ (List.Sublist.refl _))).less (List.Sublist.refl _) (inC (at_ 2 rfl) (inC (at_ 0 rfl) (inC (at_ 1 rfl) (inC (at_ 5 rfl) (fun _ h=>List.mem_cons_of_mem _ (List.mem_cons_of_mem _ (List.mem_cons_of_mem _ (List.mem_cons_of_mem _ (List.mem_cons_of_mem _ (List.mem_cons_of_mem _ (h)))))))))))).ownNil _ _⟩
        case false=>
         clear CJ CF C3 C4 C5 C6 C7 C8
         obtain ⟨rfl,rfl,rfl⟩:o=o2∧([]:List Ms)=oM∧ds=dn:=by
          have hj:=HJ.out
          unfold oTake at hj
          rw [if_neg (show ¬ m.kind=1 by simpa using e1)] at hj
          rw [if_neg (show ¬ m.kind=2 by simpa using e2)] at hj
          rw [if_neg (show ¬ m.kind=3 by simpa using e3)] at hj
          rw [if_neg (show ¬ m.kind=4 by simpa using e4)] at hj
          rw [if_neg (show ¬ m.kind=5 by simpa using e5)] at hj
          rw [if_neg (show ¬ m.kind=6 by simpa using e6)] at hj
          rw [if_neg (show ¬ m.kind=7 by simpa using e7)] at hj
          rw [if_neg (show ¬ m.kind=8 by simpa using e8)] at hj
          injection hj with a b
          injection b with b c
          exact ⟨a,b,c⟩
         clear HJ
         go_wp2_with fail
         go_ret
         exact ⟨x,_,[],rfl,rfl,(ST2.out.lessB (List.Sublist.cons _ (List.Sublist.refl _))).ownNil _ _⟩
end Go.Proofs.YtelepohdfcjnfaaGreat
