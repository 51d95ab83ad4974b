/-
  Package view: Know (printed by gen_know.py).
-/
import Derived.Test.YtelepohdfcjnfaaGreatZView
import Derived.Test.YtelepohdfcjnfaaGreatZPairLaw
namespace Go.Proofs.YtelepohdfcjnfaaGreat
set_option maxHeartbeats 4000000
set_option maxRecDepth 100000
open Go.RowKit Go.Proofs
theorem viewEmptied_any (p:Value) (a:Option Addr) (n cap:Nat) (m:Int) (W:World):Calls Tryz.prog 117 #[p,setV a n cap m] W fun e w'=>e= .returned (if m≤(n:Int) then p else .pointer none)∧Gr W w':=by
 obtain ⟨w1,hw1⟩:∃ w1,w1=W.alloc (.cells #[.slice a n cap, .int .i64 m] 58):=⟨_,rfl⟩
 have f1:Gr W w1:=by rw [hw1];exact (Fr.refl _ _).alloc _
 have B1:=Lib.hid (Bx.of_block (show w1.heap[W.heap.size]?=some (.cells #[.slice a n cap, .int .i64 m] 58 (0,0)) by rw [hw1,heap_alloc_if,if_pos rfl]))
 have F1:=Lib.hid f1
 have HW1:=Lib.hid hw1
 have CF:=Lib.hid (setFull_any a n cap m w1)
 clear hw1 f1
 have y0:=B1.out 0 _ rfl
 have y1:=B1.out 1 _ rfl
 unfold setV
 by_cases hm:m≤(n:Int)
 ·rw [if_pos hm]
  rw [decide_eq_true hm] at CF
  clear hm
  go_enter Tryz.func117,Tryz.ntmps117
  go_upto_region 1 with fail
  rw [←HW1.out]
  clear HW1
  go_wp2_with fail
  refine CF.out.mono ?_
  rintro e w2 ⟨rfl,f2⟩
  have F2:=Lib.hid (Gr.trans F1.out f2)
  clear f2
  go_wp2_with fail
  go_ret
  exact ⟨rfl,F2.out⟩
 ·rw [if_neg hm]
  rw [decide_eq_false hm] at CF
  clear hm
  go_enter Tryz.func117,Tryz.ntmps117
  go_upto_region 1 with fail
  rw [←HW1.out]
  clear HW1
  go_wp2_with fail
  refine CF.out.mono ?_
  rintro e w2 ⟨rfl,f2⟩
  have F2:=Lib.hid (Gr.trans F1.out f2)
  clear f2
  go_wp2_with fail
  go_ret
  exact ⟨rfl,F2.out⟩
def RowFrom (w:World) (a0:Option Addr) (l0:List Int) (a:Option Addr) (l:List Int):Prop:=∀ q,a=some q→(a0=some q∧l=l0)∨w.heap.size≤q.block
theorem DrawV.keepF {w w':World} {p:Value} {ds:List Int} {b:Nat} (h:DrawV w p ds) (f:Fr (fun k=>k=b) w w') (hb:∀ k,pblk p k→k<b):DrawV w' p ds:=by
 rcases h with h | ⟨d,h1,h2⟩
 ·exact .inl h
 ·exact .inr ⟨d,h1,h2.keep f (fun k hk e=>by have:=hb d h1;omega)⟩
theorem viewKnow_any (v:Vw) (x:VwP) (n:Int) (p:Value) (ds:List Int) (W:World) (h:VwAt W v x) (hd:DrawV W p ds) (hsep:VwSep p v x):
  Calls Tryz.prog 86 #[v.val x, .int .i64 n,p] W (VEnd p v (vKnow v n ds).1 (vKnow v n ds).2 (fun l=> .agg l) W x):=by
 obtain ⟨iz,hz1,hz2,hzs⟩:=info_pair Tryz.zeroSet
 obtain ⟨w1,hw1⟩:∃ w1,w1=(W.alloc (.cells (v.arr x) 60)).alloc (.cells viewZ 60):=⟨_,rfl⟩
 have f1:Gr W w1:=by rw [hw1];exact ((Fr.refl _ _).alloc _).alloc _
 have V1:=Lib.hid (show w1.heap[W.heap.size]?=some (.cells (v.arr x) 60 (0,0)) by rw [hw1,heap_alloc_if,if_neg (by simp),heap_alloc_if,if_pos rfl])
 have R1:=Lib.hid (show w1.heap[W.heap.size+1]?=some (.cells viewZ 60 (0,0)) by rw [hw1,heap_alloc_if,if_pos (by simp)])
 have s1:W.heap.size+1<w1.heap.size:=by rw [hw1];simp
 have F1:=Lib.hid f1
 have HW1:=Lib.hid hw1
 have H1:=Lib.hid (h.gr f1)
 have H0:=Lib.hid h
 have SEP:=Lib.hid hsep
 have HPB:=Lib.hid hd.lt
 have e1:=h.act.le
 have e2:=h.act.max
 have e3:=h.pas.le
 have e4:=h.pas.max
 have D1:=Lib.hid (hd.keep f1)
 obtain ⟨v',hv'⟩:∃ v',v'=(vKnow v n ds).1:=⟨_,rfl⟩
 obtain ⟨dn,hdn⟩:∃ dn,dn=(vKnow v n ds).2:=⟨_,rfl⟩
 unfold VEnd
 rw [←hv', ←hdn]
 have HV:=Lib.hid hv'
 have HD:=Lib.hid hdn
 clear hw1 f1 hv' hdn h hd hsep
 have y0:=(Bx.of_block V1.out) 0 _ rfl
 have y1:=(Bx.of_block V1.out) 1 _ rfl
 have y2:=(Bx.of_block V1.out) 2 _ rfl
 have y3:=(Bx.of_block V1.out) 3 _ rfl
 have y4:=(Bx.of_block V1.out) 4 _ rfl
 go_enter Tryz.func86,Tryz.ntmps86
 go_upto_region 1 with fail
 rw [←HW1.out]
 clear HW1
 go_cut [35] from 12 to 35 (fun c wx=>c= .bool (!vNew v n)∧Gr w1 wx)
 case first=>
  by_cases c1:n<1
  ·have hn:Hid (vNew v n=false):=Lib.hid (by unfold vNew;rw [decide_eq_false (by omega)];simp)
   go_wp2_with fail
   go_meet
   exact ⟨by rw [hn.out];rfl,Fr.refl _ _⟩
  by_cases c2:65535<n
  ·have hn:Hid (vNew v n=false):=Lib.hid (by unfold vNew;rw [decide_eq_false (show ¬ n≤65535 by omega)];simp)
   go_wp2_with fail
   go_meet
   exact ⟨by rw [hn.out];rfl,Fr.refl _ _⟩
  by_cases c3:n=v.self
  ·have hb:(n==v.self)=true:=by simpa using c3
   have hn:Hid (vNew v n=false):=Lib.hid (by unfold vNew;rw [hb];simp)
   clear c3
   go_wp2_with fail
   go_meet
   exact ⟨by rw [hn.out];rfl,Fr.refl _ _⟩
  have hb:(n==v.self)=false:=by simpa using c3
  have CA:=Lib.hid (setHas_any x.aa x.ac v.act v.am n w1 H1.out.act H1.out.good.act)
  clear c3
  by_cases c4:has v.act n=true
  ·have hn:Hid (vNew v n=false):=Lib.hid (by unfold vNew;rw [c4];simp)
   rw [c4] at CA
   clear c4
   go_wp2_with fail
   refine CA.out.mono ?_
   rintro e w2 ⟨rfl,f2⟩
   have F2:=Lib.hid f2
   clear f2
   go_wp2_with fail
   go_meet
   exact ⟨by rw [hn.out];rfl,F2.out⟩
  have c4:=eq_false_of_ne_true c4
  rw [c4] at CA
  obtain ⟨bp,hbp⟩:∃ b,b=has v.pas n:=⟨_,rfl⟩
  have hn:Hid (vNew v n= !bp):=Lib.hid (by unfold vNew;rw [c4,hb,decide_eq_true (show 1≤n by omega),decide_eq_true (show n≤65535 by omega),hbp];simp)
  have HBP:=Lib.hid hbp
  clear c4 hbp
  go_wp2_with fail
  refine CA.out.mono ?_
  rintro e w2 ⟨rfl,f2⟩
  have CP:=Lib.hid (setHas_any x.pa x.pc v.pas v.pm n w2 (H1.out.gr f2).pas H1.out.good.pas)
  rw [←HBP.out] at CP
  have F2:=Lib.hid f2
  have y3:=f2.cell y3 (fun h=>h)
  have y4:=f2.cell y4 (fun h=>h)
  clear f2 CA
  go_wp2_with fail
  refine CP.out.mono ?_
  rintro e w3 ⟨rfl,f3⟩
  have F3:=Lib.hid (Gr.trans F2.out f3)
  clear f3 CP F2
  go_wp2_with fail
  go_meet
  exact ⟨by rw [hn.out];cases bp<;>rfl,F3.out⟩
 case rest=>
  obtain ⟨rfl,f2⟩:=hcut
  have V2:=Lib.hid (blk_keep f2 V1.out (fun h=>h))
  have R2:=Lib.hid (blk_keep f2 R1.out (fun h=>h))
  have F2:=Lib.hid (Gr.trans F1.out f2)
  have D2:=Lib.hid (D1.out.keep f2)
  have y3:=f2.cell y3 (fun h=>h)
  have y4:=f2.cell y4 (fun h=>h)
  have s2:=f2.size
  obtain ⟨nw,hnw⟩:∃ b,b=vNew v n:=⟨_,rfl⟩
  rw [←hnw]
  have HNW:=Lib.hid hnw
  clear f2 V1 R1 F1 D1 y0 y1 y2 hnw H1
  cases nw
  case false=>
   obtain rfl:v'=v:=by have:=HV.out;unfold vKnow at this;rw [←HNW.out] at this;simpa using this
   obtain rfl:dn=ds:=by have:=HD.out;unfold vKnow at this;rw [←HNW.out] at this;simpa using this
   go_upto_region 2 with fail
   refine wp_region_lit ?_
   refine wpList_load_mid (by rfl) 60 _ (by rfl) W.heap.size 0 (by rfl) (Array.toList (v'.arr x)) _ (blk_range V2.out) Tryz.underlying60 rfl Tryz.infoView ?_
   go_wp2_with (refine wpList_storeW (vs:=v'.arr x) R2.out (by rfl) 60 _ _ (by rfl) (by rfl) (by rfl) rfl Tryz.infoView (by rw [←Array.all_toList];rfl) ?_)
   intro w8 f8 b8
   have F8:=Lib.hid (fr_new F2.out f8 (show W.heap.size≤W.heap.size+1 by omega))
   have R8:=Lib.hid b8
   have D8:=Lib.hid (D2.out.keepF f8 (fun k h=>by have:=HPB.out k h;omega))
   have H8:=Lib.hid (H0.out.gr F8.out)
   clear f8 b8
   have L8:Hid ((loadVar 60 ⟨W.heap.size+1,0,none⟩).run Tryz.prog w8= .ok (.agg (v'.arr x)) w8):=Lib.hid (run_loadVar_mid w8 (W.heap.size+1) 0 60 (Array.toList (v'.arr x)) _ (blk_range R8.out) Tryz.underlying60 rfl Tryz.infoView)
   have A8:Hid ((asAddr (.pointer (some ⟨W.heap.size+1,0,none⟩))).run Tryz.prog w8= .ok ⟨W.heap.size+1,0,none⟩ w8):=Lib.hid (by simp [go_sem])
   go_wp2_with fail
   refine bodyPost_ret (v:= .agg (v'.arr x)) (by simp [results,Tryz.results86,Sem.run_bind,Result.andThen_ok,L8.out,A8.out]) rfl ?_
   exact ⟨x,rfl,H8.out,D8.out,gr_pblk F8.out,VwFrom.refl _ _ _⟩
  case true=>
   have HV2:=Lib.hid (show v'={ v with pas:=if sAddOk (vRoom v ds).1 v.pm n=true then sAdd (vRoom v ds).1 v.pm n else v.pas } by have:=HV.out;unfold vKnow at this;rw [←HNW.out,if_pos rfl] at this;exact this)
   have HD2:=Lib.hid (show dn=(vRoom v ds).2 by have:=HD.out;unfold vKnow at this;rw [←HNW.out,if_pos rfl] at this;exact this)
   clear HV HD
   go_upto_region 3 with fail
   go_wp2_with (refine wpList_fresh (vs:= #[.slice x.pa v.pas.length x.pc, .int .i64 v.pm]) hz1 hz2 Tryz.infoSet2 (by rfl) (by rw [←Array.all_toList];rfl) (by rfl) (by rfl) ?_)
   intro w3 f3 b3 l3
   have V3:=Lib.hid (blk_keep f3 V2.out (fun h=>h))
   have R3:=Lib.hid (blk_keep f3 R2.out (fun h=>h))
   have F3:=Lib.hid (Gr.trans F2.out f3)
   have D3:=Lib.hid (D2.out.keep f3)
   have s3:=f3.size
   obtain ⟨z,hz⟩:∃ z,z=wc.heap.size:=⟨_,rfl⟩
   rw [←hz] at b3 l3 ⊢
   have Z3:=Lib.hid b3
   have hqz:W.heap.size+1<z:=by omega
   have hzw:z<w3.heap.size:=l3
   clear f3 V2 R2 F2 D2 y3 y4 b3 hz l3
   obtain ⟨P',d',hP,DP,hsub,hf1,hf2⟩:∃ P' d',(if v.pm≤(v.pas.length:Int) then p else .pointer none)=P'∧DrawV w3 P' d'∧(∀ k,pblk P' k→pblk p k)∧(vFull v=true→P'=p∧d'=ds)∧(vFull v=false→P'= .pointer none):=by
    by_cases hm:v.pm≤(v.pas.length:Int)
    ·rw [if_pos hm]
     refine ⟨_,_,rfl,D3.out,fun _ h=>h,fun _=>⟨rfl,rfl⟩,?_⟩
     intro h;unfold vFull at h;rw [decide_eq_true hm] at h;cases h
    ·rw [if_neg hm]
     refine ⟨_,_,rfl,DrawV.nil w3,?_,?_,fun _=>rfl⟩
     ·intro k h;unfold pblk at h;cases h
     ·intro h;unfold vFull at h;rw [decide_eq_false hm] at h;cases h
   have HP1:=Lib.hid hf1
   have HP2:=Lib.hid hf2
   have HSUB:=Lib.hid hsub
   have DP3:=Lib.hid DP
   have CE:=Lib.hid (fun w=>viewEmptied_any p x.pa v.pas.length x.pc v.pm w)
   rw [hP] at CE
   obtain ⟨o1,ok1,d2,ho⟩:∃ o1 ok1 d2,oneV d' v.pas=(o1,ok1,d2):=⟨_,_,_,rfl⟩
   have HO:=Lib.hid ho
   have hzp:¬ pblk P' z:=fun hk=>by have:=HPB.out _ (hsub _ hk);omega
   have HZP:=Lib.hid hzp
   clear hf1 hf2 hsub DP hP ho hzp
   haveI:Nonempty (WC (Fr (pblk P') w3)):=⟨⟨w3,Fr.refl _ _⟩⟩
   have c0:∀ q:WC (Fr (pblk P') w3),q.val.cell? ⟨z,0,none⟩=some (.slice x.pa v.pas.length x.pc):=fun q=>q.ok.cell ((Bx.of_block Z3.out) 0 _ rfl) HZP.out
   have c1:∀ q:WC (Fr (pblk P') w3),q.val.cell? ⟨z,1,none⟩=some (.int .i64 v.pm):=fun q=>q.ok.cell ((Bx.of_block Z3.out) 1 _ rfl) HZP.out
   go_upto_region 4 with fail
   simp only [Act.put,List.setIfInBounds_toArray,List.set_cons_succ,List.set_cons_zero]
   refine wp_region_plan [2,4,5] (Plan.seq (List.range 11) .done) (fun w'=>∃ q:WC (Fr (pblk P') w3),w'=q.val) (by kernel_rfl) (by kernel_rfl) (fun c a w d v h=>by cases d<;>exact h) (fun c a w d v h=>by cases d<;>exact h) ⟨⟨w3.drew,(Fr.refl _ _).drew⟩,rfl⟩ ?_
   simp only [Plan.seq,List.range,List.range.loop,List.foldr]
   refine wpV_q (by simp only [gtA,gtZ]<;>rfl) (by rfl) (by rfl) ?_
   go_big_quiet_step (fail)
   refine wpQuiet_nil ?_
   refine wpV_q (by simp only [gtA,gtS,gtZ]<;>rfl) (by rfl) (by rfl) ?_
   go_big_quiet_step (fail)
   refine wpQuiet_nil ?_
   refine wpV_e (by simp only [gtA,gtS,gtZ]<;>rfl) (by rfl) ?_
   go_wp2_with fail
   refine (CE.out _).mono ?_
   rintro e w4 ⟨rfl,f4⟩
   have f34:Gr w3 w4:=Gr.trans ((Fr.refl _ _).drew) f4
   go_wp2_with fail
   refine ⟨⟨⟨w4,gr_pblk f34⟩,rfl⟩,?_⟩
   refine wpV_q (by simp only [gtA,gtS,gtZ]<;>rfl) (by rfl) (by rfl) ?_
   go_big_quiet_step (fail)
   refine wpQuiet_nil ?_
   refine wpV_e (by simp only [gtA,gtS,gtZ]<;>rfl) (by rfl) ?_
   have CAll:=Lib.hid (setAll_any x.pa x.pc v.pas v.pm w4 ((H0.out.gr (Gr.trans F3.out f34)).pas) H0.out.good.pas)
   have F34:=Lib.hid f34
   have s4:=f34.size
   clear f34 f4 CE
   go_wp2_with fail
   refine CAll.out.mono ?_
   rintro e w5 ⟨rv,rfl,own5,b5⟩
   have f45:=Gr.of_below b5
   obtain ⟨ra,rc,rfl,hs5,hlo5, -⟩:=SlA.of_own own5
   have f35:=Gr.trans F34.out f45
   have CO:=Lib.hid (oneInt_any P' d' ra rc v.pas w5 (DP3.out.keep f35) hs5 (fun q hq hk=>by have:=(hlo5 q hq).1;have:=HPB.out _ (HSUB.out _ hk);omega))
   unfold OneEnd at CO
   rw [HO.out] at CO
   have F35:=Lib.hid f35
   clear own5 b5 f45 hs5 hlo5 f35 CAll F34
   go_wp2_with fail
   refine ⟨⟨⟨w5,gr_pblk F35.out⟩,rfl⟩,?_⟩
   refine wpV_e (by simp only [gtA,gtS,gtZ]<;>rfl) (by rfl) ?_
   go_wp2_with fail
   refine CO.out.mono ?_
   rintro e w6 ⟨rfl,d6,f6⟩
   have f36:Fr (pblk P') w3 w6:=Fr.trans (gr_pblk F35.out) f6 (fun k h=> .inl h)
   have D6:=Lib.hid d6
   have F36:=Lib.hid f36
   clear f6 d6 CO F35
   go_wp2_with fail
   refine ⟨⟨⟨w6,f36⟩,rfl⟩,?_⟩
   clear f36
   repeat (refine wpV_q (by simp only [gtA,gtS,gtZ]<;>rfl) (by rfl) (by rfl) ?_;go_big_quiet_step (fail);refine wpQuiet_nil ?_)
   refine wpV_done ?_
   have V6:=Lib.hid (blk_keep F36.out V3.out (fun h=>by have:=HPB.out _ (HSUB.out _ h);omega))
   have R6:=Lib.hid (blk_keep F36.out R3.out (fun h=>by have:=HPB.out _ (HSUB.out _ h);omega))
   have Z6:=Lib.hid (blk_keep F36.out Z3.out HZP.out)
   have FP6:=Lib.hid (show Fr (pblk p) W w6 from Fr.trans (gr_pblk F3.out) (F36.out.mono (fun k _ h=>HSUB.out k h)) (fun k h=> .inl h))
   clear c0 c1 this V3 R3 Z3 F3 DP3
   have s6:=F36.out.size
   have CFu:=Lib.hid (fun w=>setFull_any x.pa v.pas.length x.pc v.pm w)
   obtain ⟨fu,hfu⟩:∃ fu,fu=vFull v:=⟨_,rfl⟩
   rw [show decide (v.pm≤(v.pas.length:Int))=fu from hfu.symm] at CFu
   have HFU:=Lib.hid hfu
   have HNI:=Lib.hid ((vNew_iff v n).1 HNW.out.symm)
   have z60:=(Bx.of_block Z6.out) 0 _ rfl
   have z61:=(Bx.of_block Z6.out) 1 _ rfl
   clear hfu
   cases fu
   case false=>
    have hP:P'= .pointer none:=HP2.out HFU.out.symm
    have D6':=Lib.hid (D3.out.keep (show Gr w3 w6 from F36.out.mono (fun k _ h=>by rw [hP] at h;unfold pblk at h;cases h)))
    have hroom:vRoom v ds=(v.pas,ds):=by unfold vRoom;rw [←HFU.out];simp
    have hplen:(v.pas.length:Int)<v.pm:=by
     have:=HFU.out
     unfold vFull at this
     have:=of_decide_eq_false this.symm
     omega
    have HOK:=Lib.hid (show sAddOk v.pas v.pm n=true by
     have hni:=HNI.out
     unfold sAddOk
     rw [decide_eq_true hni.1.1,decide_eq_true hni.1.2,decide_eq_true hplen];simp)
    have HVF:=Lib.hid (show v'=⟨v.self,v.act,v.am,sAdd v.pas v.pm n,v.pm⟩ by rw [HV2.out,hroom,if_pos HOK.out])
    obtain rfl:dn=ds:=by rw [HD2.out,hroom]
    clear hP hroom hplen HV2 HD2 D6 HP1 HP2 HSUB HZP HO HFU D3 F36
    go_wp2_with fail
    refine (CFu.out _).mono ?_
    rintro e t5 ⟨rfl,f5⟩
    have V5:=Lib.hid (blk_keep f5 V6.out (fun h=>h))
    have R5:=Lib.hid (blk_keep f5 R6.out (fun h=>h))
    have Z5:=Lib.hid (blk_keep f5 Z6.out (fun h=>h))
    have FP5:=Lib.hid (Fr.trans FP6.out f5 (fun k h=>h.elim))
    have D5:=Lib.hid (D6'.out.keep f5)
    have SR5:=Lib.hid (H0.out.drawn SEP.out FP5.out).pas
    have OR5:=Lib.hid (show RowFrom w1 x.pa v.pas x.pa v.pas from fun q h=> .inl ⟨h,rfl⟩)
    have GR:=Lib.hid H0.out.good.pas
    have s5:=f5.size
    clear f5 V6 R6 Z6 FP6 D6' CFu z60 z61
    go_upto_region 7 with fail
    have SR5le:=SR5.out.le
    have SR5mx:=SR5.out.max
    have CA:=Lib.hid (setAdd3_any x.pa x.pc v.pas v.pm n t5 SR5.out GR.out)
    rw [HOK.out] at CA
    unfold SetOut3 at CA
    obtain ⟨R2,hR2⟩:∃ R2,R2=sAdd v.pas v.pm n:=⟨_,rfl⟩
    rw [←hR2] at CA
    have HR2:=Lib.hid hR2
    have GR2:=Lib.hid (show Good R2 v.pm by rw [hR2];exact GR.out.add n)
    clear hR2
    have z0:=(Bx.of_block Z5.out) 0 _ rfl
    have z1:=(Bx.of_block Z5.out) 1 _ rfl
    go_upto_region 7 with fail
    go_wp2_with fail
    refine CA.out.mono ?_
    rintro e t6 ⟨a2,c2,rfl,hs6,f6,hfr6⟩
    have V6:=Lib.hid (blk_keep f6 V5.out (fun h=>h))
    have R6:=Lib.hid (blk_keep f6 R5.out (fun h=>h))
    have FP6:=Lib.hid (Fr.trans FP5.out f6 (fun k h=>h.elim))
    have D6:=Lib.hid (D5.out.keep f6)
    have e7:=hs6.le
    have e8:=hs6.max
    have HF6:=Lib.hid (show VwFrom w1 v x ⟨v.self,v.act,v.am,R2,v.pm⟩ ⟨x.aa,x.ac,a2,c2⟩ from ⟨fun q h=> .inl ⟨h,rfl⟩,fun q h=>by
     rcases hfr6 q h with ⟨h1,h2⟩ | h1
     ·rcases OR5.out q h1 with ⟨h3,h4⟩ | h3
      ·exact .inl ⟨h3,h2.trans h4⟩
      ·exact .inr h3
     ·exact .inr (by omega)⟩)
    have H6:=Lib.hid (show VwAt t6 ⟨v.self,v.act,v.am,R2,v.pm⟩ ⟨x.aa,x.ac,a2,c2⟩ from ⟨(H0.out.drawn SEP.out FP6.out).act,hs6,⟨H0.out.good.act,GR2.out⟩⟩)
    have s6:=f6.size
    clear f6 hs6 hfr6 V5 R5 Z5 SR5 FP5 D5 OR5 GR CA z0 z1 SR5le SR5mx
    go_wp2_with (refine wpList_fresh (vs:= #[.slice a2 R2.length c2, .int .i64 v.pm]) hz1 hz2 Tryz.infoSet2 (by rfl) (by rw [←Array.all_toList];rfl) (by rfl) (by rfl) ?_)
    intro t7 f7 b7 l7
    have V7:=Lib.hid (blk_keep f7 V6.out (fun h=>h))
    have R7:=Lib.hid (blk_keep f7 R6.out (fun h=>h))
    have FP7:=Lib.hid (Fr.trans FP6.out f7 (fun k h=>h.elim))
    have D7:=Lib.hid (D6.out.keep f7)
    have H7:=Lib.hid (H6.out.gr f7)
    have s7:=f7.size
    obtain ⟨z3,hz3⟩:∃ z3,z3=t6.heap.size:=⟨_,rfl⟩
    rw [←hz3] at b7 l7 ⊢
    have Z7:=Lib.hid b7
    have hqz3:W.heap.size+1<z3:=by omega
    clear f7 b7 V6 R6 FP6 D6 H6 hz3
    obtain rfl:v'=⟨v.self,v.act,v.am,R2,v.pm⟩:=by rw [HVF.out,HR2.out]
    clear HVF HR2
    have z0:=(Bx.of_block Z7.out) 0 _ rfl
    have z1:=(Bx.of_block Z7.out) 1 _ rfl
    go_upto_region 9 with fail
    go_wp2_with (refine wpList_storeB (o:=3) (vs:= #[.slice a2 R2.length c2, .int .i64 v.pm]) V7.out (by rfl) 58 _ _ (by rfl) (by rfl) (by rfl) (Nat.le_of_ble_eq_true rfl) Tryz.infoSet2 (by rw [←Array.all_toList];rfl) ?_)
    intro t8 f8 b8
    have V8:=Lib.hid (show t8.heap[W.heap.size]?=some (.cells #[.int .i64 v.self, .slice x.aa v.act.length x.ac, .int .i64 v.am, .slice a2 R2.length c2, .int .i64 v.pm] 60 (0,0)) from b8)
    have R8:=Lib.hid (blk_keep f8 R7.out (by omega))
    have FP8:=Lib.hid (fr_new FP7.out f8 (Nat.le_refl _))
    have K8:=Lib.hid (f8.mono (T:=fun k=>k≤W.heap.size+1) (fun k _ h=>by omega))
    have D8:=Lib.hid (D7.out.keepF f8 HPB.out)
    clear f8 b8 V7 R7 FP7 Z7 z0 z1
    go_upto_region 10 with fail
    refine wp_region_lit ?_
    refine wpList_load_mid (by rfl) 60 _ (by rfl) W.heap.size 0 (by rfl) (Array.toList #[.int .i64 v.self, .slice x.aa v.act.length x.ac, .int .i64 v.am, .slice a2 R2.length c2, .int .i64 v.pm]) _ (blk_range V8.out) Tryz.underlying60 rfl Tryz.infoView ?_
    go_wp2_with (refine wpList_storeW (vs:= #[.int .i64 v.self, .slice x.aa v.act.length x.ac, .int .i64 v.am, .slice a2 R2.length c2, .int .i64 v.pm]) R8.out (by rfl) 60 _ _ (by rfl) (by rfl) (by rfl) rfl Tryz.infoView (by rw [←Array.all_toList];rfl) ?_)
    intro t9 f9 b9
    have FP9:=Lib.hid (fr_new FP8.out f9 (show W.heap.size≤W.heap.size+1 by omega))
    have R9:=Lib.hid b9
    have D9:=Lib.hid (D8.out.keepF f9 (fun k h=>by have:=HPB.out k h;omega))
    have H9:=Lib.hid (H7.out.moved (Fr.trans K8.out f9 (fun k h=> .inl (by omega))) H0.out FP9.out HF6.out (fun k h=>by omega) SEP.out)
    clear f9 b9 V8 R8 FP8 K8 D8
    have L9:Hid ((loadVar 60 ⟨W.heap.size+1,0,none⟩).run Tryz.prog t9= .ok (.agg #[.int .i64 v.self, .slice x.aa v.act.length x.ac, .int .i64 v.am, .slice a2 R2.length c2, .int .i64 v.pm]) t9):=Lib.hid (run_loadVar_mid t9 (W.heap.size+1) 0 60 (Array.toList #[.int .i64 v.self, .slice x.aa v.act.length x.ac, .int .i64 v.am, .slice a2 R2.length c2, .int .i64 v.pm]) _ (blk_range R9.out) Tryz.underlying60 rfl Tryz.infoView)
    have A9:Hid ((asAddr (.pointer (some ⟨W.heap.size+1,0,none⟩))).run Tryz.prog t9= .ok ⟨W.heap.size+1,0,none⟩ t9):=Lib.hid (by simp [go_sem])
    go_wp2_with fail
    refine bodyPost_ret (v:= .agg #[.int .i64 v.self, .slice x.aa v.act.length x.ac, .int .i64 v.am, .slice a2 R2.length c2, .int .i64 v.pm]) (by simp [results,Tryz.results86,Sem.run_bind,Result.andThen_ok,L9.out,A9.out]) rfl ?_
    exact ⟨⟨x.aa,x.ac,a2,c2⟩,rfl,H9.out,D9.out,FP9.out,HF6.out.mono (by omega)⟩
   case true=>
    obtain ⟨hPp,hdd⟩:=HP1.out HFU.out.symm
    subst hPp
    subst hdd
    cases ok1
    case false=>
     have hnil:v.pas=[]:=by
      apply Classical.byContradiction
      intro hne
      have:=HO.out
      unfold oneV at this
      rw [if_neg hne] at this
      injection this with _ h2
      injection h2 with h3 _
      cases h3
     have hd2:d2=d':=by
      have:=HO.out
      unfold oneV at this
      rw [if_pos hnil] at this
      injection this with _ h2
      injection h2 with _ h3
      exact h3.symm
     subst hd2
     have hroom:vRoom v d2=(v.pas,d2):=by unfold vRoom;rw [if_neg (fun h=>h.2 hnil)]
     have HOK:=Lib.hid (show sAddOk v.pas v.pm n=false by
      have h0:=HFU.out
      unfold vFull at h0
      have h1:=of_decide_eq_true h0.symm
      unfold sAddOk
      rw [(has_no _ _).2 HNI.out.2.2.2,decide_eq_false (show ¬ (v.pas.length:Int)<v.pm by omega)];simp)
     obtain rfl:v'=v:=by rw [HV2.out,hroom,if_neg (by rw [HOK.out];decide)]
     obtain rfl:dn=d2:=by rw [HD2.out,hroom]
     clear hroom HV2 HD2 HP1 HP2 HSUB HZP HO HFU D3 F36 hnil
     go_wp2_with fail
     refine (CFu.out _).mono ?_
     rintro e t5 ⟨rfl,f5⟩
     have V5:=Lib.hid (blk_keep f5 V6.out (fun h=>h))
     have R5:=Lib.hid (blk_keep f5 R6.out (fun h=>h))
     have Z5:=Lib.hid (blk_keep f5 Z6.out (fun h=>h))
     have FP5:=Lib.hid (Fr.trans FP6.out f5 (fun k h=>h.elim))
     have D5:=Lib.hid (D6.out.keep f5)
     have CA:=Lib.hid (setAdd3_any x.pa x.pc v'.pas v'.pm n t5 (H0.out.drawn SEP.out FP5.out).pas H0.out.good.pas)
     rw [HOK.out] at CA
     unfold SetOut3 at CA
     have y0:=(Bx.of_block Z5.out) 0 _ rfl
     have y1:=(Bx.of_block Z5.out) 1 _ rfl
     have s5:=f5.size
     clear f5 V6 R6 Z6 FP6 D6 CFu z60 z61 HOK
     obtain ⟨R2,hR2⟩:∃ R2,R2=sAdd v'.pas v'.pm n:=⟨_,rfl⟩
     rw [←hR2] at CA
     clear hR2
     go_upto_region 7 with fail
     go_wp2_with fail
     refine CA.out.mono ?_
     rintro e t6 ⟨a2,c2,rfl,hs6,f6, -⟩
     have V6:=Lib.hid (blk_keep f6 V5.out (fun h=>h))
     have R6:=Lib.hid (blk_keep f6 R5.out (fun h=>h))
     have FP6:=Lib.hid (Fr.trans FP5.out f6 (fun k h=>h.elim))
     have D6:=Lib.hid (D5.out.keep f6)
     have e7:=hs6.le
     have e8:=hs6.max
     clear f6 hs6 V5 R5 Z5 FP5 D5 CA y0 y1
     go_wp2_with (refine wpList_fresh (vs:= #[.slice a2 R2.length c2, .int .i64 v'.pm]) hz1 hz2 Tryz.infoSet2 (by rfl) (by rw [←Array.all_toList];rfl) (by rfl) (by rfl) ?_)
     intro t7 f7 b7 l7
     have V7:=Lib.hid (blk_keep f7 V6.out (fun h=>h))
     have R7:=Lib.hid (blk_keep f7 R6.out (fun h=>h))
     have FP7:=Lib.hid (Fr.trans FP6.out f7 (fun k h=>h.elim))
     have D7:=Lib.hid (D6.out.keep f7)
     clear f7 b7 V6 R6 FP6 D6 l7
     go_upto_region 10 with fail
     refine wp_region_lit ?_
     refine wpList_load_mid (by rfl) 60 _ (by rfl) W.heap.size 0 (by rfl) (Array.toList (v'.arr x)) _ (blk_range V7.out) Tryz.underlying60 rfl Tryz.infoView ?_
     go_wp2_with (refine wpList_storeW (vs:=v'.arr x) R7.out (by rfl) 60 _ _ (by rfl) (by rfl) (by rfl) rfl Tryz.infoView (by rw [←Array.all_toList];rfl) ?_)
     intro t8 f8 b8
     have FP8:=Lib.hid (fr_new FP7.out f8 (show W.heap.size≤W.heap.size+1 by omega))
     have R8:=Lib.hid b8
     have D8:=Lib.hid (D7.out.keepF f8 (fun k h=>by have:=HPB.out k h;omega))
     have H8:=Lib.hid (H0.out.drawn SEP.out FP8.out)
     clear f8 b8
     have L8:Hid ((loadVar 60 ⟨W.heap.size+1,0,none⟩).run Tryz.prog t8= .ok (.agg (v'.arr x)) t8):=Lib.hid (run_loadVar_mid t8 (W.heap.size+1) 0 60 (Array.toList (v'.arr x)) _ (blk_range R8.out) Tryz.underlying60 rfl Tryz.infoView)
     have A8:Hid ((asAddr (.pointer (some ⟨W.heap.size+1,0,none⟩))).run Tryz.prog t8= .ok ⟨W.heap.size+1,0,none⟩ t8):=Lib.hid (by simp [go_sem])
     go_wp2_with fail
     refine bodyPost_ret (v:= .agg (v'.arr x)) (by simp [results,Tryz.results86,Sem.run_bind,Result.andThen_ok,L8.out,A8.out]) rfl ?_
     exact ⟨x,rfl,H8.out,D8.out,FP8.out,VwFrom.refl _ _ _⟩
    case true=>
     have hne:v.pas≠[]:=by
      intro hnil
      have:=HO.out
      unfold oneV at this
      rw [if_pos hnil] at this
      injection this with _ h2
      injection h2 with h3 _
      cases h3
     have hroom:vRoom v d'=(sDrop v.pas o1,d2):=by unfold vRoom;rw [if_pos ⟨HFU.out.symm,hne⟩,HO.out]
     have hrl:=vRoom_len H0.out.good D3.out.range
     have hpz:v.pm≠0:=by
      intro h
      have:=H0.out.good.pas.fit
      cases hp:v.pas with
      | nil=>exact hne hp
      | cons y r=>rw [hp] at this;simp at this;omega
     rw [hroom] at hrl
     obtain ⟨R,hR⟩:∃ R,R=sDrop v.pas o1:=⟨_,rfl⟩
     rw [←hR] at hroom hrl
     have HOK:=Lib.hid (show sAddOk R v.pm n=true by
      have hni:=HNI.out
      unfold sAddOk
      rw [decide_eq_true hni.1.1,decide_eq_true hni.1.2,decide_eq_true (show (R.length:Int)<v.pm from hrl.resolve_right hpz)];simp)
     have HVF:=Lib.hid (show v'=⟨v.self,v.act,v.am,sAdd R v.pm n,v.pm⟩ by rw [HV2.out,hroom,if_pos HOK.out])
     obtain rfl:dn=d2:=by rw [HD2.out,hroom]
     have GR:=Lib.hid (show Good R v.pm by rw [hR];exact H0.out.good.pas.drop o1)
     have HR:=Lib.hid hR
     clear hroom HV2 HD2 HP1 HP2 HSUB HZP HO HFU D3 F36 hne hrl hpz hR
     go_wp2_with fail
     refine (CFu.out _).mono ?_
     rintro e t1 ⟨rfl,f1⟩
     have V1:=Lib.hid (blk_keep f1 V6.out (fun h=>h))
     have R1:=Lib.hid (blk_keep f1 R6.out (fun h=>h))
     have Z1:=Lib.hid (blk_keep f1 Z6.out (fun h=>h))
     have FP1:=Lib.hid (Fr.trans FP6.out f1 (fun k h=>h.elim))
     have D1:=Lib.hid (D6.out.keep f1)
     have CD:=Lib.hid (setDrop3_any x.pa x.pc v.pas v.pm o1 t1 (H0.out.drawn SEP.out FP1.out).pas H0.out.good.pas)
     unfold SetOut3 at CD
     rw [←HR.out] at CD
     have y0:=(Bx.of_block Z1.out) 0 _ rfl
     have y1:=(Bx.of_block Z1.out) 1 _ rfl
     have s7:=f1.size
     clear f1 V6 R6 Z6 FP6 D6 CFu z60 z61
     go_upto_region 6 with fail
     go_wp2_with fail
     refine CD.out.mono ?_
     rintro e t2 ⟨a3,c3,rfl,hs2,f2,hfr2⟩
     have V2:=Lib.hid (blk_keep f2 V1.out (fun h=>h))
     have R2:=Lib.hid (blk_keep f2 R1.out (fun h=>h))
     have Z2:=Lib.hid (blk_keep f2 Z1.out (fun h=>h))
     have FP2:=Lib.hid (Fr.trans FP1.out f2 (fun k h=>h.elim))
     have D2:=Lib.hid (D1.out.keep f2)
     have HS2:=Lib.hid hs2
     have OR2:=Lib.hid (show RowFrom t1 x.pa v.pas a3 R from hfr2)
     have s8:=f2.size
     have e9:=hs2.le
     have e10:=hs2.max
     clear f2 hs2 hfr2 V1 R1 Z1 FP1 D1 CD y0 y1
     go_wp2_with (refine wpList_storeW (vs:= #[.slice a3 R.length c3, .int .i64 v.pm]) Z2.out (by rfl) 58 _ _ (by rfl) (by rfl) (by rfl) rfl Tryz.infoSet2 (by rw [←Array.all_toList];rfl) ?_)
     intro t5 f5 b5
     have V5:=Lib.hid (blk_keep f5 V2.out (by omega))
     have R5:=Lib.hid (blk_keep f5 R2.out (by omega))
     have Z5:=Lib.hid b5
     have FP5:=Lib.hid (fr_new FP2.out f5 (by omega))
     have D5:=Lib.hid (D2.out.keepF f5 (fun k h=>by have:=HPB.out k h;omega))
     have SR5:=Lib.hid (HS2.out.moved f5 H0.out.pas FP5.out (fun q hq=>(OR2.out q hq).imp (fun ⟨a,b⟩=>⟨a,by rw [b]⟩) id) (fun k h=>by omega) (fun hn=>SEP.out.2 (fun e=>hn (by rw [e];rfl))))
     have OR5:=Lib.hid (show RowFrom w1 x.pa v.pas a3 R from fun q hq=>(OR2.out q hq).imp id (fun h=>by omega))
     have s5:=f5.size
     clear f5 b5 V2 R2 Z2 FP2 D2 HS2 OR2
     go_upto_region 7 with fail
     have SR5le:=SR5.out.le
     have SR5mx:=SR5.out.max
     have CA:=Lib.hid (setAdd3_any a3 c3 R v.pm n t5 SR5.out GR.out)
     rw [HOK.out] at CA
     unfold SetOut3 at CA
     obtain ⟨R2,hR2⟩:∃ R2,R2=sAdd R v.pm n:=⟨_,rfl⟩
     rw [←hR2] at CA
     have HR2:=Lib.hid hR2
     have GR2:=Lib.hid (show Good R2 v.pm by rw [hR2];exact GR.out.add n)
     clear hR2
     have z0:=(Bx.of_block Z5.out) 0 _ rfl
     have z1:=(Bx.of_block Z5.out) 1 _ rfl
     go_upto_region 7 with fail
     go_wp2_with fail
     refine CA.out.mono ?_
     rintro e t6 ⟨a2,c2,rfl,hs6,f6,hfr6⟩
     have V6:=Lib.hid (blk_keep f6 V5.out (fun h=>h))
     have R6:=Lib.hid (blk_keep f6 R5.out (fun h=>h))
     have FP6:=Lib.hid (Fr.trans FP5.out f6 (fun k h=>h.elim))
     have D6:=Lib.hid (D5.out.keep f6)
     have e7:=hs6.le
     have e8:=hs6.max
     have HF6:=Lib.hid (show VwFrom w1 v x ⟨v.self,v.act,v.am,R2,v.pm⟩ ⟨x.aa,x.ac,a2,c2⟩ from ⟨fun q h=> .inl ⟨h,rfl⟩,fun q h=>by
      rcases hfr6 q h with ⟨h1,h2⟩ | h1
      ·rcases OR5.out q h1 with ⟨h3,h4⟩ | h3
       ·exact .inl ⟨h3,h2.trans h4⟩
       ·exact .inr h3
      ·exact .inr (by omega)⟩)
     have H6:=Lib.hid (show VwAt t6 ⟨v.self,v.act,v.am,R2,v.pm⟩ ⟨x.aa,x.ac,a2,c2⟩ from ⟨(H0.out.drawn SEP.out FP6.out).act,hs6,⟨H0.out.good.act,GR2.out⟩⟩)
     have s6:=f6.size
     clear f6 hs6 hfr6 V5 R5 Z5 SR5 FP5 D5 OR5 GR CA z0 z1 SR5le SR5mx
     go_wp2_with (refine wpList_fresh (vs:= #[.slice a2 R2.length c2, .int .i64 v.pm]) hz1 hz2 Tryz.infoSet2 (by rfl) (by rw [←Array.all_toList];rfl) (by rfl) (by rfl) ?_)
     intro t7 f7 b7 l7
     have V7:=Lib.hid (blk_keep f7 V6.out (fun h=>h))
     have R7:=Lib.hid (blk_keep f7 R6.out (fun h=>h))
     have FP7:=Lib.hid (Fr.trans FP6.out f7 (fun k h=>h.elim))
     have D7:=Lib.hid (D6.out.keep f7)
     have H7:=Lib.hid (H6.out.gr f7)
     have s7:=f7.size
     obtain ⟨z3,hz3⟩:∃ z3,z3=t6.heap.size:=⟨_,rfl⟩
     rw [←hz3] at b7 l7 ⊢
     have Z7:=Lib.hid b7
     have hqz3:W.heap.size+1<z3:=by omega
     clear f7 b7 V6 R6 FP6 D6 H6 hz3
     obtain rfl:v'=⟨v.self,v.act,v.am,R2,v.pm⟩:=by rw [HVF.out,HR2.out]
     clear HVF HR2
     have z0:=(Bx.of_block Z7.out) 0 _ rfl
     have z1:=(Bx.of_block Z7.out) 1 _ rfl
     go_upto_region 9 with fail
     go_wp2_with (refine wpList_storeB (o:=3) (vs:= #[.slice a2 R2.length c2, .int .i64 v.pm]) V7.out (by rfl) 58 _ _ (by rfl) (by rfl) (by rfl) (Nat.le_of_ble_eq_true rfl) Tryz.infoSet2 (by rw [←Array.all_toList];rfl) ?_)
     intro t8 f8 b8
     have V8:=Lib.hid (show t8.heap[W.heap.size]?=some (.cells #[.int .i64 v.self, .slice x.aa v.act.length x.ac, .int .i64 v.am, .slice a2 R2.length c2, .int .i64 v.pm] 60 (0,0)) from b8)
     have R8:=Lib.hid (blk_keep f8 R7.out (by omega))
     have FP8:=Lib.hid (fr_new FP7.out f8 (Nat.le_refl _))
     have K8:=Lib.hid (f8.mono (T:=fun k=>k≤W.heap.size+1) (fun k _ h=>by omega))
     have D8:=Lib.hid (D7.out.keepF f8 HPB.out)
     clear f8 b8 V7 R7 FP7 Z7 z0 z1
     go_upto_region 10 with fail
     refine wp_region_lit ?_
     refine wpList_load_mid (by rfl) 60 _ (by rfl) W.heap.size 0 (by rfl) (Array.toList #[.int .i64 v.self, .slice x.aa v.act.length x.ac, .int .i64 v.am, .slice a2 R2.length c2, .int .i64 v.pm]) _ (blk_range V8.out) Tryz.underlying60 rfl Tryz.infoView ?_
     go_wp2_with (refine wpList_storeW (vs:= #[.int .i64 v.self, .slice x.aa v.act.length x.ac, .int .i64 v.am, .slice a2 R2.length c2, .int .i64 v.pm]) R8.out (by rfl) 60 _ _ (by rfl) (by rfl) (by rfl) rfl Tryz.infoView (by rw [←Array.all_toList];rfl) ?_)
     intro t9 f9 b9
     have FP9:=Lib.hid (fr_new FP8.out f9 (show W.heap.size≤W.heap.size+1 by omega))
     have R9:=Lib.hid b9
     have D9:=Lib.hid (D8.out.keepF f9 (fun k h=>by have:=HPB.out k h;omega))
     have H9:=Lib.hid (H7.out.moved (Fr.trans K8.out f9 (fun k h=> .inl (by omega))) H0.out FP9.out HF6.out (fun k h=>by omega) SEP.out)
     clear f9 b9 V8 R8 FP8 K8 D8
     have L9:Hid ((loadVar 60 ⟨W.heap.size+1,0,none⟩).run Tryz.prog t9= .ok (.agg #[.int .i64 v.self, .slice x.aa v.act.length x.ac, .int .i64 v.am, .slice a2 R2.length c2, .int .i64 v.pm]) t9):=Lib.hid (run_loadVar_mid t9 (W.heap.size+1) 0 60 (Array.toList #[.int .i64 v.self, .slice x.aa v.act.length x.ac, .int .i64 v.am, .slice a2 R2.length c2, .int .i64 v.pm]) _ (blk_range R9.out) Tryz.underlying60 rfl Tryz.infoView)
     have A9:Hid ((asAddr (.pointer (some ⟨W.heap.size+1,0,none⟩))).run Tryz.prog t9= .ok ⟨W.heap.size+1,0,none⟩ t9):=Lib.hid (by simp [go_sem])
     go_wp2_with fail
     refine bodyPost_ret (v:= .agg #[.int .i64 v.self, .slice x.aa v.act.length x.ac, .int .i64 v.am, .slice a2 R2.length c2, .int .i64 v.pm]) (by simp [results,Tryz.results86,Sem.run_bind,Result.andThen_ok,L9.out,A9.out]) rfl ?_
     exact ⟨⟨x.aa,x.ac,a2,c2⟩,rfl,H9.out,D9.out,FP9.out,HF6.out.mono (by omega)⟩
end Go.Proofs.YtelepohdfcjnfaaGreat
