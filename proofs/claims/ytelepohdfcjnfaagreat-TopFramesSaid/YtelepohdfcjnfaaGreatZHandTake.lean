/-
  Package hand: take (printed by gen_hand2.py).
-/
import Derived.Test.YtelepohdfcjnfaaGreatZHand
import Derived.Deep.CutRange
import Derived.Maps.AppendAt
namespace Go.Proofs.YtelepohdfcjnfaaGreat
set_option maxHeartbeats 4000000
set_option maxRecDepth 100000
section
open Go.RowKit Go.Proofs
theorem handTake_any (h:Hd) (x:HdP) (n:Int) (p:Value) (ds:List Int) (O:Ori) (W:World) (hs:Sta W O p ds [] [] (hrows h x []) W) (hg:h.Good):
  Calls Tryz.prog 88 #[.agg (h.arr x), .int .i64 n,p] W (HEnd W O p (hTake h n ds).2.2.2 (hTake h n ds).1 (hTake h n ds).2.1 (fun a ov=> .tuple #[.agg a,ov, .bool (hTake h n ds).2.2.1])):=by
 obtain ⟨h',o,ko,dn,hh⟩:∃ h' o ko dn,hTake h n ds=(h',o,ko,dn):=⟨_,_,_,_,rfl⟩
 rw [hh]
 simp only
 have HH:=Lib.hid hh
 have HG:=Lib.hid hg
 obtain ⟨v2,old,ok,D,hE⟩:∃ v2 old ok D,hEv h ds=(v2,old,ok,D):=⟨_,_,_,_,rfl⟩
 have HE:=Lib.hid hE
 obtain ⟨pe,hpe⟩:∃ pe,pe=(if vaFull h.v=true then p else .pointer none):=⟨_,rfl⟩
 obtain ⟨de,hde⟩:∃ de,de=(if vaFull h.v=true then ds else []):=⟨_,rfl⟩
 obtain ⟨v3,old3,ok3,d3,hE3⟩:∃ v2 old ok D,vEvict h.v de=(v2,old,ok,D):=⟨_,_,_,_,rfl⟩
 have HP1:Hid ((pe=p∧de=ds)∨(pe= .pointer none∧de=[])):=Lib.hid (by rw [hpe,hde];cases vaFull h.v;exact .inr ⟨rfl,rfl⟩;exact .inl ⟨rfl,rfl⟩)
 have HP2:Hid ((pe=p∧D=d3)∨(pe= .pointer none∧D=ds)):=Lib.hid (by
  unfold hEv at hE
  rw [hpe]
  cases hf:vaFull h.v
  ·rw [hf,if_neg (by decide)] at hE
   injection hE with _ hE
   injection hE with _ hE
   injection hE with _ hE
   exact .inr ⟨rfl,hE.symm⟩
  ·rw [hf,if_pos rfl] at hE
   rw [hf,if_pos rfl] at hde
   rw [hde,hE] at hE3
   injection hE3 with _ hE3
   injection hE3 with _ hE3
   injection hE3 with _ hE3
   exact .inl ⟨rfl,hE3⟩)
 have HF:Hid (vaFull h.v=true→v3=v2∧old3=old∧ok3=ok):=Lib.hid (by
  intro hf
  unfold hEv at hE
  rw [hf,if_pos rfl] at hE
  rw [hf,if_pos rfl] at hde
  rw [hde,hE] at hE3
  injection hE3 with e1 hE3
  injection hE3 with e2 hE3
  injection hE3 with e3 _
  exact ⟨e1.symm,e2.symm,e3.symm⟩)
 have CEM:=Lib.hid (fun w=>handEmptied_any p h.v x.x w)
 rw [←hpe] at CEM
 have CEV:=Lib.hid (fun w (h1:VwAt w h.v x.x) (h2:DrawV w pe de) (h3:VwSep pe h.v x.x)=>viewEvict_any h.v x.x pe de w h1 h2 h3)
 rw [hE3] at CEV
 have CF:=Lib.hid (fun w=>setFull_any x.x.aa h.v.act.length x.x.ac h.v.am w)
 rw [show decide (h.v.am≤(h.v.act.length:Int))=vaFull h.v from rfl] at CF
 obtain ⟨G,hG⟩:∃ G,G=(vaFull h.v&&ok3&&(n != h.v.self)):=⟨_,rfl⟩
 have HGE:Hid (hEvs h n ds=G):=Lib.hid (by
  rw [hG]
  unfold hEvs
  rw [hE]
  unfold hEv at hE
  cases hf:vaFull h.v
  ·rw [hf,if_neg (by decide)] at hE
   injection hE with _ hE
   injection hE with _ hE
   injection hE with hE _
   rw [←hE]
   rfl
  ·rw [(HF.out hf).2.2]
   simp only [Bool.true_and]
   rfl)
 have HGG:=Lib.hid hG
 obtain ⟨F,hF⟩:∃ F,F=vaFull h.v:=⟨_,rfl⟩
 rw [←hF] at HGG
 rw [←hF] at CF HF
 have HFF:=Lib.hid hF
 have CH:=Lib.hid (fun w (h1:SlA w x.x.aa h.v.act.length x.x.ac (ints h.v.act))=>setHas_any x.x.aa x.x.ac h.v.act h.v.am n w h1 HG.out.v.act)
 have CS:=Lib.hid (fun w=>handSay_any old3 6 w)
 have CD:=Lib.hid (fun w (h1:SlA w x.ka h.asked.length x.kc (ints h.asked))=>setDrop3_any x.ka x.kc h.asked 64 old3 w h1 HG.out.asked)
 clear hh hg hpe hde hE hE3 hF hG
 obtain ⟨w1,hw1⟩:∃ w1,w1=(W.alloc (.cells (h.arr x) 100)).alloc (.cells handZ 100):=⟨_,rfl⟩
 obtain ⟨b0,hb0⟩:∃ b,b=W.heap.size:=⟨_,rfl⟩
 obtain ⟨b1,hb1⟩:∃ b,b=W.heap.size+1:=⟨_,rfl⟩
 have ST1:=Lib.hid (show Sta W O p ds [⟨b1,handZ,100⟩,⟨b0,h.arr x,100⟩] [] (hrows h x []) w1 by rw [hw1];exact (hs.box _ _ hb0).box _ _ (by rw [World.size_alloc];exact hb1))
 have HW1:=Lib.hid hw1
 have HB0:=Lib.hid hb0
 have HB1:=Lib.hid hb1
 clear hw1 hb0 hb1 hs
 have l10:=(ST1.out.rowAt 0 rfl).le
 have l11:=(ST1.out.rowAt 0 rfl).max
 have l12:=(ST1.out.rowAt 1 rfl).le
 have l13:=(ST1.out.rowAt 1 rfl).max
 have l14:=(ST1.out.rowAt 2 rfl).le
 have l15:=(ST1.out.rowAt 2 rfl).max
 go_enter Tryz.func88,Tryz.ntmps88
 go_upto_region 1 with fail
 rw [←HW1.out, ←HB1.out, ←HB0.out]
 clear HW1 HB0 HB1
 have y1:w1.cell? ⟨b0,1,none⟩=some (.slice x.x.aa h.v.act.length x.x.ac):=ST1.out.cell 1 1 rfl rfl
 have y2:w1.cell? ⟨b0,2,none⟩=some (.int .i64 h.v.am):=ST1.out.cell 1 2 rfl rfl
 go_wp2_with fail
 refine (CH.out _ (ST1.out.rowAt 0 rfl)).mono ?_
 rintro e w2 ⟨rfl,f2⟩
 clear y1 y2 CH
 have ST2:=Lib.hid (show Sta W O p ds [⟨b1,handZ,100⟩,⟨b0,h.arr x,100⟩] [] (hrows h x []) w2 from ST1.out.gr f2)
 clear ST1 f2
 cases e1:has h.v.act n
 case true=>
  obtain ⟨rfl,rfl,rfl,rfl⟩:h=h'∧[]=o∧true=ko∧ds=dn:=by
   have hh:=HH.out
   rw [show hTake h n ds=(h,[],true,ds) by unfold hTake;rw [e1,if_pos rfl]] at hh
   injection hh with a b
   injection b with b c
   injection c with c d
   exact ⟨a,b,c,d⟩
  clear HH HE HP1 HP2 HF CEM CEV CF HFF CS CD
  go_upto_region 2 with fail
  refine wp_region_lit ?_
  refine wpList_load_mid (by rfl) 100 _ (by rfl) b0 0 (by rfl) (Array.toList (h.arr x)) _ (blk_range (ST2.out.blkAt 1 rfl)) Tryz.underlying100 rfl Tryz.infoHand ?_
  go_wp2_with (refine wpList_storeW (vs:=h.arr x) (ST2.out.blkAt 0 rfl) (by rfl) 100 _ _ (by rfl) (by rfl) (by rfl) rfl Tryz.infoHand (by rw [←Array.all_toList];rfl) ?_)
  intro w9 f_ b_
  have ST3:=Lib.hid (show Sta W O p ds [⟨b1,h.arr x,100⟩,⟨b0,h.arr x,100⟩] [] (hrows h x []) w9 from ST2.out.store 0 rfl f_ b_)
  clear ST2 f_ b_
  have LL:Hid ((loadVar 100 ⟨b1,0,none⟩).run Tryz.prog w9= .ok (.agg (h.arr x)) w9):=Lib.hid (run_loadVar_mid w9 b1 0 100 (Array.toList (h.arr x)) _ (blk_range (ST3.out.blkAt 0 rfl)) Tryz.underlying100 rfl Tryz.infoHand)
  have LA:Hid ((asAddr (.pointer (some ⟨b1,0,none⟩))).run Tryz.prog w9= .ok ⟨b1,0,none⟩ w9):=Lib.hid (by simp [go_sem])
  go_wp2_with fail
  refine bodyPost_ret (v:= .tuple #[.agg (h.arr x), .slice none 0 0, .bool true]) (by simp [results,Tryz.results88,Sem.run_bind,Result.andThen_ok,LL.out,LA.out]) rfl ?_
  exact ⟨x,_,rfl,(ST3.out.ownNil 81 8).out (List.Sublist.refl _) (inC (at_ 0 rfl) (inC (at_ 1 rfl) (inC (at_ 2 rfl) inN))),HG.out⟩
 case false=>
  have E1:=Lib.hid e1
  clear e1
  go_upto_region 3 with fail
  go_cut [9,10,11] from 22 to 24 (fun a b c wx=>∃ u9 u10,a= .pointer (some ⟨u9,0,none⟩)∧b= .pointer (some ⟨u10,0,none⟩)∧c= .slice none 0 0∧Sta W O p ds [⟨u10,h.v.arr x.x,60⟩,⟨u9,h.arr x,100⟩,⟨b1,handZ,100⟩,⟨b0,h.arr x,100⟩] [] (hrows h x []) wx)
  case first=>
   obtain ⟨wd,hwd⟩:∃ x,x=w2.drew:=⟨_,rfl⟩
   have HWD:=Lib.hid hwd
   have ST3:=Lib.hid (show Sta W O p ds [⟨b1,handZ,100⟩,⟨b0,h.arr x,100⟩] [] (hrows h x []) wd from hwd▸ST2.out.gr ((Fr.refl _ _).drew))
   clear ST2 hwd
   haveI:Nonempty (WC (fun w=>w.heap[b0]?=some (.cells (h.arr x) 100 (0,0)))):=⟨⟨wd,ST3.out.blkAt 1 rfl⟩⟩
   refine wp_region_plan [3,4,5,6,7] (Plan.seq [0,1,2] (.fork 3 4 (Plan.seq [4,5,6,7] .done) (Plan.seq [3,5,6,7] .done))) (fun w'=>∃ z:WC (fun w=>w.heap[b0]?=some (.cells (h.arr x) 100 (0,0))),w'=z.val) (by kernel_rfl) (by kernel_rfl) (fun c a w d v h=>by cases d<;>exact h) (fun c a w d v h=>by cases d<;>exact h) (by rw [←HWD.out];exact ⟨⟨wd,ST3.out.blkAt 1 rfl⟩,rfl⟩) ?_
   rw [←HWD.out]
   clear HWD
   refine wpV_q (by simp only [gtA,gtZ]<;>rfl) (by rfl) (by rfl) ?_
   refine wpQuiet_loadH (by rfl) 100 _ (by rfl) b0 0 (by rfl) (Array.toList (h.arr x)) _ (fun w ⟨z,hz⟩=>hz▸blk_range z.ok) Tryz.underlying100 rfl Tryz.infoHand ?_
   refine wpQuiet_nil ?_
   simp only [Act.put,List.setIfInBounds_toArray,List.set_cons_succ,List.set_cons_zero]
   refine wpV_q (by simp only [gtA,gtS,gtZ]<;>rfl) (by rfl) (by rfl) ?_
   go_big_quiet_step (fail)
   refine wpQuiet_nil ?_
   refine wpV_q (by simp only [gtA,gtS,gtZ]<;>rfl) (by rfl) (by rfl) ?_
   refine wpQuiet_loadH (by rfl) 60 _ (by rfl) b0 0 (by rfl) (Array.toList (h.v.arr x.x)) _ (fun w ⟨z,hz⟩=>hz▸rangeIn z.ok 0 (by rfl)) Tryz.underlying60 rfl Tryz.infoView ?_
   refine wpQuiet_nil ?_
   simp only [Act.put,List.setIfInBounds_toArray,List.set_cons_succ,List.set_cons_zero]
   refine wpV_fork (by simp only [gtA,gtS,gtZ]<;>rfl) (by simp only [gtA,gtS,gtZ]<;>rfl) ?_ ?_
   ·go_wp2_with fail
    obtain ⟨wa,hw_⟩:∃ x,x=wd.alloc (.cells handZ 100):=⟨_,rfl⟩
    obtain ⟨u9,hb_⟩:∃ b,b=wd.heap.size:=⟨_,rfl⟩
    rw [←hw_, ←hb_]
    have ST4:=Lib.hid (show Sta W O p ds [⟨u9,handZ,100⟩,⟨b1,handZ,100⟩,⟨b0,h.arr x,100⟩] [] (hrows h x []) wa from hw_▸ST3.out.box _ _ hb_)
    clear ST3 hw_ hb_
    refine ⟨⟨⟨wa,ST4.out.blkAt 2 rfl⟩,rfl⟩,?_⟩
    refine wpV_e (by simp only [gtA,gtS,gtZ]<;>rfl) (by rfl) ?_
    go_wp2_with fail
    obtain ⟨wb,hw_⟩:∃ x,x=wa.alloc (.cells viewZ 60):=⟨_,rfl⟩
    obtain ⟨u10,hb_⟩:∃ b,b=wa.heap.size:=⟨_,rfl⟩
    rw [←hw_, ←hb_]
    have ST5:=Lib.hid (show Sta W O p ds [⟨u10,viewZ,60⟩,⟨u9,handZ,100⟩,⟨b1,handZ,100⟩,⟨b0,h.arr x,100⟩] [] (hrows h x []) wb from hw_▸ST4.out.box _ _ hb_)
    clear ST4 hw_ hb_
    refine ⟨⟨⟨wb,ST5.out.blkAt 3 rfl⟩,rfl⟩,?_⟩
    refine wpV_e (by simp only [gtA,gtS,gtZ]<;>rfl) (by rfl) ?_
    refine wpList_storeW (vs:=h.arr x) (ST5.out.blkAt 1 rfl) (by rfl) 100 _ _ (by rfl) (by rfl) (by rfl) rfl Tryz.infoHand (by rw [←Array.all_toList];rfl) ?_
    intro wc1 f_ b_
    have ST6:=Lib.hid (show Sta W O p ds [⟨u10,viewZ,60⟩,⟨u9,h.arr x,100⟩,⟨b1,handZ,100⟩,⟨b0,h.arr x,100⟩] [] (hrows h x []) wc1 from ST5.out.store 1 rfl f_ b_)
    clear ST5 f_ b_
    refine wpList_nil ?_
    refine ⟨⟨⟨wc1,ST6.out.blkAt 3 rfl⟩,rfl⟩,?_⟩
    simp only [Act.put]
    refine wpV_e (by simp only [gtA,gtS,gtZ]<;>rfl) (by rfl) ?_
    refine wpList_storeW (vs:=h.v.arr x.x) (ST6.out.blkAt 0 rfl) (by rfl) 60 _ _ (by rfl) (by rfl) (by rfl) rfl Tryz.infoView (by rw [←Array.all_toList];rfl) ?_
    intro wd1 f_ b_
    have ST7:=Lib.hid (show Sta W O p ds [⟨u10,h.v.arr x.x,60⟩,⟨u9,h.arr x,100⟩,⟨b1,handZ,100⟩,⟨b0,h.arr x,100⟩] [] (hrows h x []) wd1 from ST6.out.store 0 rfl f_ b_)
    clear ST6 f_ b_
    refine wpList_nil ?_
    refine ⟨⟨⟨wd1,ST7.out.blkAt 3 rfl⟩,rfl⟩,?_⟩
    simp only [Act.put]
    refine wpV_e (by simp only [gtA,gtS,gtZ]<;>rfl) (by rfl) ?_
    go_wp2_with fail
    refine ⟨⟨⟨wd1,ST7.out.blkAt 3 rfl⟩,rfl⟩,?_⟩
    refine wpV_done ?_
    go_wp2_with fail
    go_meet
    exact ⟨u9,u10,rfl,rfl,rfl,ST7.out⟩
   ·go_wp2_with fail
    obtain ⟨wa,hw_⟩:∃ x,x=wd.alloc (.cells viewZ 60):=⟨_,rfl⟩
    obtain ⟨u10,hb_⟩:∃ b,b=wd.heap.size:=⟨_,rfl⟩
    rw [←hw_, ←hb_]
    have ST4:=Lib.hid (show Sta W O p ds [⟨u10,viewZ,60⟩,⟨b1,handZ,100⟩,⟨b0,h.arr x,100⟩] [] (hrows h x []) wa from hw_▸ST3.out.box _ _ hb_)
    clear ST3 hw_ hb_
    refine ⟨⟨⟨wa,ST4.out.blkAt 2 rfl⟩,rfl⟩,?_⟩
    refine wpV_e (by simp only [gtA,gtS,gtZ]<;>rfl) (by rfl) ?_
    go_wp2_with fail
    obtain ⟨wb,hw_⟩:∃ x,x=wa.alloc (.cells handZ 100):=⟨_,rfl⟩
    obtain ⟨u9,hb_⟩:∃ b,b=wa.heap.size:=⟨_,rfl⟩
    rw [←hw_, ←hb_]
    have ST5:=Lib.hid (show Sta W O p ds [⟨u9,handZ,100⟩,⟨u10,viewZ,60⟩,⟨b1,handZ,100⟩,⟨b0,h.arr x,100⟩] [] (hrows h x []) wb from hw_▸ST4.out.box _ _ hb_)
    clear ST4 hw_ hb_
    refine ⟨⟨⟨wb,ST5.out.blkAt 3 rfl⟩,rfl⟩,?_⟩
    refine wpV_e (by simp only [gtA,gtS,gtZ]<;>rfl) (by rfl) ?_
    refine wpList_storeW (vs:=h.arr x) (ST5.out.blkAt 0 rfl) (by rfl) 100 _ _ (by rfl) (by rfl) (by rfl) rfl Tryz.infoHand (by rw [←Array.all_toList];rfl) ?_
    intro wc1 f_ b_
    have ST6:=Lib.hid (show Sta W O p ds [⟨u9,h.arr x,100⟩,⟨u10,viewZ,60⟩,⟨b1,handZ,100⟩,⟨b0,h.arr x,100⟩] [] (hrows h x []) wc1 from ST5.out.store 0 rfl f_ b_)
    clear ST5 f_ b_
    refine wpList_nil ?_
    refine ⟨⟨⟨wc1,ST6.out.blkAt 3 rfl⟩,rfl⟩,?_⟩
    simp only [Act.put]
    refine wpV_e (by simp only [gtA,gtS,gtZ]<;>rfl) (by rfl) ?_
    refine wpList_storeW (vs:=h.v.arr x.x) (ST6.out.blkAt 1 rfl) (by rfl) 60 _ _ (by rfl) (by rfl) (by rfl) rfl Tryz.infoView (by rw [←Array.all_toList];rfl) ?_
    intro wd1 f_ b_
    have ST7:=Lib.hid (show Sta W O p ds [⟨u9,h.arr x,100⟩,⟨u10,h.v.arr x.x,60⟩,⟨b1,handZ,100⟩,⟨b0,h.arr x,100⟩] [] (hrows h x []) wd1 from ST6.out.store 1 rfl f_ b_)
    clear ST6 f_ b_
    refine wpList_nil ?_
    refine ⟨⟨⟨wd1,ST7.out.blkAt 3 rfl⟩,rfl⟩,?_⟩
    simp only [Act.put]
    refine wpV_e (by simp only [gtA,gtS,gtZ]<;>rfl) (by rfl) ?_
    go_wp2_with fail
    refine ⟨⟨⟨wd1,ST7.out.blkAt 3 rfl⟩,rfl⟩,?_⟩
    refine wpV_done ?_
    go_wp2_with fail
    go_meet
    exact ⟨u9,u10,rfl,rfl,rfl,ST7.out.swap⟩
  case rest=>
   obtain ⟨u9,u10,rfl,rfl,rfl,hst⟩:=hcut
   generalize wc=w3 at hst ⊢
   have ST30:=Lib.hid hst
   clear hst ST2
   go_upto_region 4 with fail
   go_cut [12,13,14] from 25 to 33 (fun a b c wx=>∃ u12 y3,a= .pointer (some ⟨u12,0,none⟩)∧b= .int .i64 old3∧c= .bool ok3∧Sta W O p D [⟨u12,v3.arr y3,60⟩,⟨u10,h.v.arr x.x,60⟩,⟨u9,h.arr x,100⟩,⟨b1,handZ,100⟩,⟨b0,h.arr x,100⟩] [] (vrows v3 y3 (hrows h x [])) wx∧v3.Good)
   case first=>
    obtain ⟨wd,hwd⟩:∃ x,x=w3.drew:=⟨_,rfl⟩
    have HWD:=Lib.hid hwd
    have ST31:=Lib.hid (show Sta W O p ds [⟨u10,h.v.arr x.x,60⟩,⟨u9,h.arr x,100⟩,⟨b1,handZ,100⟩,⟨b0,h.arr x,100⟩] [] (hrows h x []) wd from hwd▸ST30.out.gr ((Fr.refl _ _).drew))
    clear ST30 hwd
    haveI:Nonempty (WC (fun w=>w.heap[u10]?=some (.cells (h.v.arr x.x) 60 (0,0)))):=⟨⟨wd,ST31.out.blkAt 0 rfl⟩⟩
    refine wp_region_plan [3,4,9,10,11,12] (Plan.seq [0,1,2] (.fork 3 9 (.fork 4 9 (Plan.seq [5,6,7,8,9,10,11,12] .done) (Plan.seq [4,5,6,7,8,10,11,12] .done)) (Plan.seq [3,4,5,6,7,8,10,11,12] .done))) (fun w'=>∃ z:WC (fun w=>w.heap[u10]?=some (.cells (h.v.arr x.x) 60 (0,0))),w'=z.val) (by kernel_rfl) (by kernel_rfl) (fun c a w d v h=>by cases d<;>exact h) (fun c a w d v h=>by cases d<;>exact h) (by rw [←HWD.out];exact ⟨⟨wd,ST31.out.blkAt 0 rfl⟩,rfl⟩) ?_
    rw [←HWD.out]
    clear HWD
    refine wpV_q (by simp only [gtA,gtZ]<;>rfl) (by rfl) (by rfl) ?_
    refine wpQuiet_loadH (by rfl) 60 _ (by rfl) u10 0 (by rfl) (Array.toList (h.v.arr x.x)) _ (fun w ⟨z,hz⟩=>hz▸blk_range z.ok) Tryz.underlying60 rfl Tryz.infoView ?_
    refine wpQuiet_nil ?_
    simp only [Act.put,List.setIfInBounds_toArray,List.set_cons_succ,List.set_cons_zero]
    refine wpV_q (by simp only [gtA,gtS,gtZ]<;>rfl) (by rfl) (by rfl) ?_
    go_big_quiet_step (fail)
    refine wpQuiet_nil ?_
    refine wpV_q (by simp only [gtA,gtS,gtZ]<;>rfl) (by rfl) (by rfl) ?_
    refine wpQuiet_loadH (by rfl) 60 _ (by rfl) u10 0 (by rfl) (Array.toList (h.v.arr x.x)) _ (fun w ⟨z,hz⟩=>hz▸blk_range z.ok) Tryz.underlying60 rfl Tryz.infoView ?_
    refine wpQuiet_nil ?_
    simp only [Act.put,List.setIfInBounds_toArray,List.set_cons_succ,List.set_cons_zero]
    refine wpV_fork (by simp only [gtA,gtS,gtZ]<;>rfl) (by simp only [gtA,gtS,gtZ]<;>rfl) ?_ ?_
    ·go_wp2_with fail
     refine (CEM.out _).mono ?_
     rintro e wa ⟨rfl,f_⟩
     have ST32:=Lib.hid (show Sta W O p ds [⟨u10,h.v.arr x.x,60⟩,⟨u9,h.arr x,100⟩,⟨b1,handZ,100⟩,⟨b0,h.arr x,100⟩] [] (hrows h x []) wa from ST31.out.gr f_)
     clear ST31 f_
     go_wp2_with fail
     refine ⟨⟨⟨wa,ST32.out.blkAt 0 rfl⟩,rfl⟩,?_⟩
     refine wpV_fork (by simp only [gtA,gtS,gtZ]<;>rfl) (by simp only [gtA,gtS,gtZ]<;>rfl) ?_ ?_
     ·go_wp2_with fail
      refine (CEV.out _ (ST32.out.vw (v:=h.v) (y:=x.x) (at_ 0 rfl) (at_ 1 rfl) HG.out.v) (ST32.out.drP HP1.out) (ST32.out.sepP (HP1.out.imp And.left And.left) (v:=h.v) (y:=x.x) (at_ 0 rfl) (at_ 1 rfl))).mono ?_
      intro e wb hst
      obtain ⟨y3,rfl,hst,hg3⟩:=ST32.out.callVP HP2.out (v:=h.v) (y:=x.x) (at_ 0 rfl) (at_ 1 rfl) hst
      have ST33:=Lib.hid (show Sta W O p D [⟨u10,h.v.arr x.x,60⟩,⟨u9,h.arr x,100⟩,⟨b1,handZ,100⟩,⟨b0,h.arr x,100⟩] [] (vrows v3 y3 (hrows h x [])) wb from hst)
      have HG3:=Lib.hid hg3
      clear hst hg3 ST32
      go_wp2_with fail
      refine ⟨⟨⟨wb,ST33.out.blkAt 0 rfl⟩,rfl⟩,?_⟩
      refine wpV_q (by simp only [gtA,gtS,gtZ]<;>rfl) (by rfl) (by rfl) ?_
      go_big_quiet_step (fail)
      refine wpQuiet_nil ?_
      refine wpV_q (by simp only [gtA,gtS,gtZ]<;>rfl) (by rfl) (by rfl) ?_
      go_big_quiet_step (fail)
      refine wpQuiet_nil ?_
      refine wpV_q (by simp only [gtA,gtS,gtZ]<;>rfl) (by rfl) (by rfl) ?_
      go_big_quiet_step (fail)
      refine wpQuiet_nil ?_
      refine wpV_q (by simp only [gtA,gtS,gtZ]<;>rfl) (by rfl) (by rfl) ?_
      go_big_quiet_step (fail)
      refine wpQuiet_nil ?_
      refine wpV_e (by simp only [gtA,gtS,gtZ]<;>rfl) (by rfl) ?_
      go_wp2_with fail
      obtain ⟨wc1,hw_⟩:∃ x,x=wb.alloc (.cells viewZ 60):=⟨_,rfl⟩
      obtain ⟨u12,hb_⟩:∃ b,b=wb.heap.size:=⟨_,rfl⟩
      rw [←hw_, ←hb_]
      have ST34:=Lib.hid (show Sta W O p D [⟨u12,viewZ,60⟩,⟨u10,h.v.arr x.x,60⟩,⟨u9,h.arr x,100⟩,⟨b1,handZ,100⟩,⟨b0,h.arr x,100⟩] [] (vrows v3 y3 (hrows h x [])) wc1 from hw_▸ST33.out.box _ _ hb_)
      clear ST33 hw_ hb_
      refine ⟨⟨⟨wc1,ST34.out.blkAt 1 rfl⟩,rfl⟩,?_⟩
      refine wpV_e (by simp only [gtA,gtS,gtZ]<;>rfl) (by rfl) ?_
      refine wpList_storeW (vs:=v3.arr y3) (ST34.out.blkAt 0 rfl) (by rfl) 60 _ _ (by rfl) (by rfl) (by rfl) rfl Tryz.infoView (by rw [←Array.all_toList];rfl) ?_
      intro wf f_ b_
      have ST35:=Lib.hid (show Sta W O p D [⟨u12,v3.arr y3,60⟩,⟨u10,h.v.arr x.x,60⟩,⟨u9,h.arr x,100⟩,⟨b1,handZ,100⟩,⟨b0,h.arr x,100⟩] [] (vrows v3 y3 (hrows h x [])) wf from ST34.out.store 0 rfl f_ b_)
      clear ST34 f_ b_
      refine wpList_nil ?_
      refine ⟨⟨⟨wf,ST35.out.blkAt 1 rfl⟩,rfl⟩,?_⟩
      simp only [Act.put]
      refine wpV_e (by simp only [gtA,gtS,gtZ]<;>rfl) (by rfl) ?_
      go_wp2_with fail
      refine ⟨⟨⟨wf,ST35.out.blkAt 1 rfl⟩,rfl⟩,?_⟩
      refine wpV_e (by simp only [gtA,gtS,gtZ]<;>rfl) (by rfl) ?_
      go_wp2_with fail
      refine ⟨⟨⟨wf,ST35.out.blkAt 1 rfl⟩,rfl⟩,?_⟩
      refine wpV_done ?_
      go_wp2_with fail
      go_meet
      exact ⟨u12,y3,rfl,rfl,rfl,ST35.out,HG3.out⟩
     ·go_wp2_with fail
      obtain ⟨wb,hw_⟩:∃ x,x=wa.alloc (.cells viewZ 60):=⟨_,rfl⟩
      obtain ⟨u12,hb_⟩:∃ b,b=wa.heap.size:=⟨_,rfl⟩
      rw [←hw_, ←hb_]
      have ST33:=Lib.hid (show Sta W O p ds [⟨u12,viewZ,60⟩,⟨u10,h.v.arr x.x,60⟩,⟨u9,h.arr x,100⟩,⟨b1,handZ,100⟩,⟨b0,h.arr x,100⟩] [] (hrows h x []) wb from hw_▸ST32.out.box _ _ hb_)
      clear ST32 hw_ hb_
      refine ⟨⟨⟨wb,ST33.out.blkAt 1 rfl⟩,rfl⟩,?_⟩
      refine wpV_e (by simp only [gtA,gtS,gtZ]<;>rfl) (by rfl) ?_
      go_wp2_with fail
      refine (CEV.out _ (ST33.out.vw (v:=h.v) (y:=x.x) (at_ 0 rfl) (at_ 1 rfl) HG.out.v) (ST33.out.drP HP1.out) (ST33.out.sepP (HP1.out.imp And.left And.left) (v:=h.v) (y:=x.x) (at_ 0 rfl) (at_ 1 rfl))).mono ?_
      intro e wc1 hst
      obtain ⟨y3,rfl,hst,hg3⟩:=ST33.out.callVP HP2.out (v:=h.v) (y:=x.x) (at_ 0 rfl) (at_ 1 rfl) hst
      have ST34:=Lib.hid (show Sta W O p D [⟨u12,viewZ,60⟩,⟨u10,h.v.arr x.x,60⟩,⟨u9,h.arr x,100⟩,⟨b1,handZ,100⟩,⟨b0,h.arr x,100⟩] [] (vrows v3 y3 (hrows h x [])) wc1 from hst)
      have HG3:=Lib.hid hg3
      clear hst hg3 ST33
      go_wp2_with fail
      refine ⟨⟨⟨wc1,ST34.out.blkAt 1 rfl⟩,rfl⟩,?_⟩
      refine wpV_q (by simp only [gtA,gtS,gtZ]<;>rfl) (by rfl) (by rfl) ?_
      go_big_quiet_step (fail)
      refine wpQuiet_nil ?_
      refine wpV_q (by simp only [gtA,gtS,gtZ]<;>rfl) (by rfl) (by rfl) ?_
      go_big_quiet_step (fail)
      refine wpQuiet_nil ?_
      refine wpV_q (by simp only [gtA,gtS,gtZ]<;>rfl) (by rfl) (by rfl) ?_
      go_big_quiet_step (fail)
      refine wpQuiet_nil ?_
      refine wpV_q (by simp only [gtA,gtS,gtZ]<;>rfl) (by rfl) (by rfl) ?_
      go_big_quiet_step (fail)
      refine wpQuiet_nil ?_
      refine wpV_e (by simp only [gtA,gtS,gtZ]<;>rfl) (by rfl) ?_
      refine wpList_storeW (vs:=v3.arr y3) (ST34.out.blkAt 0 rfl) (by rfl) 60 _ _ (by rfl) (by rfl) (by rfl) rfl Tryz.infoView (by rw [←Array.all_toList];rfl) ?_
      intro wf f_ b_
      have ST35:=Lib.hid (show Sta W O p D [⟨u12,v3.arr y3,60⟩,⟨u10,h.v.arr x.x,60⟩,⟨u9,h.arr x,100⟩,⟨b1,handZ,100⟩,⟨b0,h.arr x,100⟩] [] (vrows v3 y3 (hrows h x [])) wf from ST34.out.store 0 rfl f_ b_)
      clear ST34 f_ b_
      refine wpList_nil ?_
      refine ⟨⟨⟨wf,ST35.out.blkAt 1 rfl⟩,rfl⟩,?_⟩
      simp only [Act.put]
      refine wpV_e (by simp only [gtA,gtS,gtZ]<;>rfl) (by rfl) ?_
      go_wp2_with fail
      refine ⟨⟨⟨wf,ST35.out.blkAt 1 rfl⟩,rfl⟩,?_⟩
      refine wpV_e (by simp only [gtA,gtS,gtZ]<;>rfl) (by rfl) ?_
      go_wp2_with fail
      refine ⟨⟨⟨wf,ST35.out.blkAt 1 rfl⟩,rfl⟩,?_⟩
      refine wpV_done ?_
      go_wp2_with fail
      go_meet
      exact ⟨u12,y3,rfl,rfl,rfl,ST35.out,HG3.out⟩
    ·go_wp2_with fail
     obtain ⟨wa,hw_⟩:∃ x,x=wd.alloc (.cells viewZ 60):=⟨_,rfl⟩
     obtain ⟨u12,hb_⟩:∃ b,b=wd.heap.size:=⟨_,rfl⟩
     rw [←hw_, ←hb_]
     have ST32:=Lib.hid (show Sta W O p ds [⟨u12,viewZ,60⟩,⟨u10,h.v.arr x.x,60⟩,⟨u9,h.arr x,100⟩,⟨b1,handZ,100⟩,⟨b0,h.arr x,100⟩] [] (hrows h x []) wa from hw_▸ST31.out.box _ _ hb_)
     clear ST31 hw_ hb_
     refine ⟨⟨⟨wa,ST32.out.blkAt 1 rfl⟩,rfl⟩,?_⟩
     refine wpV_e (by simp only [gtA,gtS,gtZ]<;>rfl) (by rfl) ?_
     go_wp2_with fail
     refine (CEM.out _).mono ?_
     rintro e wb ⟨rfl,f_⟩
     have ST33:=Lib.hid (show Sta W O p ds [⟨u12,viewZ,60⟩,⟨u10,h.v.arr x.x,60⟩,⟨u9,h.arr x,100⟩,⟨b1,handZ,100⟩,⟨b0,h.arr x,100⟩] [] (hrows h x []) wb from ST32.out.gr f_)
     clear ST32 f_
     go_wp2_with fail
     refine ⟨⟨⟨wb,ST33.out.blkAt 1 rfl⟩,rfl⟩,?_⟩
     refine wpV_e (by simp only [gtA,gtS,gtZ]<;>rfl) (by rfl) ?_
     go_wp2_with fail
     refine (CEV.out _ (ST33.out.vw (v:=h.v) (y:=x.x) (at_ 0 rfl) (at_ 1 rfl) HG.out.v) (ST33.out.drP HP1.out) (ST33.out.sepP (HP1.out.imp And.left And.left) (v:=h.v) (y:=x.x) (at_ 0 rfl) (at_ 1 rfl))).mono ?_
     intro e wc1 hst
     obtain ⟨y3,rfl,hst,hg3⟩:=ST33.out.callVP HP2.out (v:=h.v) (y:=x.x) (at_ 0 rfl) (at_ 1 rfl) hst
     have ST34:=Lib.hid (show Sta W O p D [⟨u12,viewZ,60⟩,⟨u10,h.v.arr x.x,60⟩,⟨u9,h.arr x,100⟩,⟨b1,handZ,100⟩,⟨b0,h.arr x,100⟩] [] (vrows v3 y3 (hrows h x [])) wc1 from hst)
     have HG3:=Lib.hid hg3
     clear hst hg3 ST33
     go_wp2_with fail
     refine ⟨⟨⟨wc1,ST34.out.blkAt 1 rfl⟩,rfl⟩,?_⟩
     refine wpV_q (by simp only [gtA,gtS,gtZ]<;>rfl) (by rfl) (by rfl) ?_
     go_big_quiet_step (fail)
     refine wpQuiet_nil ?_
     refine wpV_q (by simp only [gtA,gtS,gtZ]<;>rfl) (by rfl) (by rfl) ?_
     go_big_quiet_step (fail)
     refine wpQuiet_nil ?_
     refine wpV_q (by simp only [gtA,gtS,gtZ]<;>rfl) (by rfl) (by rfl) ?_
     go_big_quiet_step (fail)
     refine wpQuiet_nil ?_
     refine wpV_q (by simp only [gtA,gtS,gtZ]<;>rfl) (by rfl) (by rfl) ?_
     go_big_quiet_step (fail)
     refine wpQuiet_nil ?_
     refine wpV_e (by simp only [gtA,gtS,gtZ]<;>rfl) (by rfl) ?_
     refine wpList_storeW (vs:=v3.arr y3) (ST34.out.blkAt 0 rfl) (by rfl) 60 _ _ (by rfl) (by rfl) (by rfl) rfl Tryz.infoView (by rw [←Array.all_toList];rfl) ?_
     intro wf f_ b_
     have ST35:=Lib.hid (show Sta W O p D [⟨u12,v3.arr y3,60⟩,⟨u10,h.v.arr x.x,60⟩,⟨u9,h.arr x,100⟩,⟨b1,handZ,100⟩,⟨b0,h.arr x,100⟩] [] (vrows v3 y3 (hrows h x [])) wf from ST34.out.store 0 rfl f_ b_)
     clear ST34 f_ b_
     refine wpList_nil ?_
     refine ⟨⟨⟨wf,ST35.out.blkAt 1 rfl⟩,rfl⟩,?_⟩
     simp only [Act.put]
     refine wpV_e (by simp only [gtA,gtS,gtZ]<;>rfl) (by rfl) ?_
     go_wp2_with fail
     refine ⟨⟨⟨wf,ST35.out.blkAt 1 rfl⟩,rfl⟩,?_⟩
     refine wpV_e (by simp only [gtA,gtS,gtZ]<;>rfl) (by rfl) ?_
     go_wp2_with fail
     refine ⟨⟨⟨wf,ST35.out.blkAt 1 rfl⟩,rfl⟩,?_⟩
     refine wpV_done ?_
     go_wp2_with fail
     go_meet
     exact ⟨u12,y3,rfl,rfl,rfl,ST35.out,HG3.out⟩
   case rest=>
    obtain ⟨u12,y3,rfl,rfl,rfl,hst,hg3⟩:=hcut
    generalize wc=w4 at hst ⊢
    have ST40:=Lib.hid hst
    have HG3:=Lib.hid hg3
    clear hst hg3 ST30 CEM CEV HP1 HP2
    go_upto_region 5 with fail
    go_cut [45] from 34 to 44 (fun a wx=>a= .bool G∧Sta W O p D [⟨u12,v3.arr y3,60⟩,⟨u10,h.v.arr x.x,60⟩,⟨u9,h.arr x,100⟩,⟨b1,handZ,100⟩,⟨b0,h.arr x,100⟩] [] (vrows v3 y3 (hrows h x [])) wx)
    case first=>
     have z0:w4.cell? ⟨u10,0,none⟩=some (.int .i64 h.v.self):=ST40.out.cell 1 0 rfl rfl
     have z1:w4.cell? ⟨u10,1,none⟩=some (.slice x.x.aa h.v.act.length x.x.ac):=ST40.out.cell 1 1 rfl rfl
     have z2:w4.cell? ⟨u10,2,none⟩=some (.int .i64 h.v.am):=ST40.out.cell 1 2 rfl rfl
     go_wp2_with fail
     refine (CF.out _).mono ?_
     rintro e w5 ⟨rfl,f_⟩
     have ST41:=Lib.hid (show Sta W O p D [⟨u12,v3.arr y3,60⟩,⟨u10,h.v.arr x.x,60⟩,⟨u9,h.arr x,100⟩,⟨b1,handZ,100⟩,⟨b0,h.arr x,100⟩] [] (vrows v3 y3 (hrows h x [])) w5 from ST40.out.gr f_)
     clear ST40 f_
     have z3:w5.cell? ⟨u10,0,none⟩=some (.int .i64 h.v.self):=ST41.out.cell 1 0 rfl rfl
     cases hf:F
     case false=>
      have hg:Hid (G=false):=Lib.hid (by rw [HGG.out,hf];rfl)
      go_wp2_with fail
      go_meet
      exact ⟨by rw [hg.out],ST41.out⟩
     case true=>
      cases ok3
      case false=>
       have hg:Hid (G=false):=Lib.hid (by rw [HGG.out,hf];rfl)
       go_wp2_with fail
       go_meet
       exact ⟨by rw [hg.out],ST41.out⟩
      case true=>
       have hg:Hid (G=(n != h.v.self)):=Lib.hid (by rw [HGG.out,hf];rfl)
       go_wp2_with fail
       go_meet
       exact ⟨by rw [hg.out],ST41.out⟩
    case rest=>
     obtain ⟨rfl,hst⟩:=hcut
     generalize wc=w5 at hst ⊢
     have ST50:=Lib.hid hst
     clear hst ST40 CF
     cases hg:G
     case false=>
      rw [hg] at HGE
      clear hg
      have CJ:=Lib.hid (fun w (h1:VwAt w h.v x.x)=>viewJoin_any h.v x.x n w h1)
      go_upto_region 8 with fail
      refine wp_region_lit ?_
      refine wpList_load_mid (by rfl) 60 _ (by rfl) u10 0 (by rfl) (Array.toList (h.v.arr x.x)) _ (blk_range (ST50.out.blkAt 1 rfl)) Tryz.underlying60 rfl Tryz.infoView ?_
      go_wp2_with fail
      refine (CJ.out _ (ST50.out.vw (v:=h.v) (y:=x.x) (at_ 2 rfl) (at_ 3 rfl) HG.out.v)).mono ?_
      intro e w8 hst
      obtain ⟨yj,rfl,hst,hgj⟩:=ST50.out.callV0 (v:=h.v) (y:=x.x) (at_ 2 rfl) (at_ 3 rfl) hst
      have ST51:=Lib.hid (show Sta W O p D [⟨u12,v3.arr y3,60⟩,⟨u10,h.v.arr x.x,60⟩,⟨u9,h.arr x,100⟩,⟨b1,handZ,100⟩,⟨b0,h.arr x,100⟩] [] (vrows (vJoin h.v n) yj (vrows v3 y3 (hrows h x []))) w8 from hst)
      have HGJ:=Lib.hid hgj
      clear hst hgj ST50 CJ
      go_wp2_with (refine wpList_storeW (vs:=(vJoin h.v n).arr yj) (ST51.out.blkAt 1 rfl) (by rfl) 60 _ _ (by rfl) (by rfl) (by rfl) rfl Tryz.infoView (by rw [←Array.all_toList];rfl) ?_)
      intro w9 f_ b_
      have ST52:=Lib.hid (show Sta W O p D [⟨u12,v3.arr y3,60⟩,⟨u10,(vJoin h.v n).arr yj,60⟩,⟨u9,h.arr x,100⟩,⟨b1,handZ,100⟩,⟨b0,h.arr x,100⟩] [] (vrows (vJoin h.v n) yj (vrows v3 y3 (hrows h x []))) w9 from ST51.out.store 1 rfl f_ b_)
      clear ST51 f_ b_
      cases jo:vJoinOk h.v n
      case false=>
       obtain ⟨rfl,rfl,rfl,rfl⟩:h=h'∧[]=o∧false=ko∧D=dn:=by
        have hh:=HH.out
        rw [show hTake h n ds=(h,[],false,D) by unfold hTake hRoomV hRoomA hRoomO;simp [E1.out,HGE.out,HE.out,jo]] at hh
        injection hh with a b
        injection b with b c
        injection c with c d
        exact ⟨a,b,c,d⟩
       clear HH HE HGE HGG HFF HF CS CD jo
       go_upto_region 10 with fail
       refine wp_region_lit ?_
       refine wpList_load_mid (by rfl) 100 _ (by rfl) u9 0 (by rfl) (Array.toList (h.arr x)) _ (blk_range (ST52.out.blkAt 2 rfl)) Tryz.underlying100 rfl Tryz.infoHand ?_
       go_wp2_with (refine wpList_storeW (vs:=h.arr x) (ST52.out.blkAt 3 rfl) (by rfl) 100 _ _ (by rfl) (by rfl) (by rfl) rfl Tryz.infoHand (by rw [←Array.all_toList];rfl) ?_)
       intro wz f_ b_
       have ST53:=Lib.hid (show Sta W O p D [⟨u12,v3.arr y3,60⟩,⟨u10,(vJoin h.v n).arr yj,60⟩,⟨u9,h.arr x,100⟩,⟨b1,h.arr x,100⟩,⟨b0,h.arr x,100⟩] [] (vrows (vJoin h.v n) yj (vrows v3 y3 (hrows h x []))) wz from ST52.out.store 3 rfl f_ b_)
       clear ST52 f_ b_
       have LL:Hid ((loadVar 100 ⟨b1,0,none⟩).run Tryz.prog wz= .ok (.agg (h.arr x)) wz):=Lib.hid (run_loadVar_mid wz b1 0 100 (Array.toList (h.arr x)) _ (blk_range (ST53.out.blkAt 3 rfl)) Tryz.underlying100 rfl Tryz.infoHand)
       have LA:Hid ((asAddr (.pointer (some ⟨b1,0,none⟩))).run Tryz.prog wz= .ok ⟨b1,0,none⟩ wz):=Lib.hid (by simp [go_sem])
       go_wp2_with fail
       refine bodyPost_ret (v:= .tuple #[.agg (h.arr x), .slice none 0 0, .bool false]) (by simp [results,Tryz.results88,Sem.run_bind,Result.andThen_ok,LL.out,LA.out]) rfl ?_
       exact ⟨x,_,rfl,(ST53.out.ownNil 81 8).out (List.Sublist.cons_cons _ (List.nil_sublist _)) (inC (at_ 4 rfl) (inC (at_ 5 rfl) (inC (at_ 6 rfl) inN))),HG.out⟩
      case true=>
       obtain ⟨rfl,rfl,rfl,rfl⟩:(⟨(vJoin h.v n),h.asked⟩:Hd)=h'∧[]=o∧true=ko∧D=dn:=by
        have hh:=HH.out
        rw [show hTake h n ds=((⟨(vJoin h.v n),h.asked⟩:Hd),[],true,D) by unfold hTake hRoomV hRoomA hRoomO;simp [E1.out,HGE.out,HE.out,jo]] at hh
        injection hh with a b
        injection b with b c
        injection c with c d
        exact ⟨a,b,c,d⟩
       clear HH HE HGE HGG HFF HF CS CD jo
       go_upto_region 11 with fail
       refine wp_region_lit ?_
       refine wpList_load_mid (by rfl) 60 _ (by rfl) u10 0 (by rfl) (Array.toList ((vJoin h.v n).arr yj)) _ (blk_range (ST52.out.blkAt 1 rfl)) Tryz.underlying60 rfl Tryz.infoView ?_
       go_wp2_with (refine wpList_storeB (o:=0) (vs:=(vJoin h.v n).arr yj) (ST52.out.blkAt 4 rfl) (by rfl) 60 _ _ (by rfl) (by rfl) (by rfl) (Nat.le_of_ble_eq_true rfl) Tryz.infoView (by rw [←Array.all_toList];rfl) ?_)
       intro wy f_ b_
       have ST53:=Lib.hid (show Sta W O p D [⟨u12,v3.arr y3,60⟩,⟨u10,(vJoin h.v n).arr yj,60⟩,⟨u9,h.arr x,100⟩,⟨b1,handZ,100⟩,⟨b0, #[.int .i64 (vJoin h.v n).self, .slice yj.aa (vJoin h.v n).act.length yj.ac, .int .i64 (vJoin h.v n).am, .slice yj.pa (vJoin h.v n).pas.length yj.pc, .int .i64 (vJoin h.v n).pm, .slice x.ka h.asked.length x.kc, .int .i64 64],100⟩] [] (vrows (vJoin h.v n) yj (vrows v3 y3 (hrows h x []))) wy from ST52.out.store 4 rfl f_ b_)
       clear ST52 f_ b_
       go_upto_region 12 with fail
       refine wp_region_lit ?_
       refine wpList_load_mid (by rfl) 100 _ (by rfl) b0 0 (by rfl) (Array.toList (#[.int .i64 (vJoin h.v n).self, .slice yj.aa (vJoin h.v n).act.length yj.ac, .int .i64 (vJoin h.v n).am, .slice yj.pa (vJoin h.v n).pas.length yj.pc, .int .i64 (vJoin h.v n).pm, .slice x.ka h.asked.length x.kc, .int .i64 64])) _ (blk_range (ST53.out.blkAt 4 rfl)) Tryz.underlying100 rfl Tryz.infoHand ?_
       go_wp2_with (refine wpList_storeW (vs:= #[.int .i64 (vJoin h.v n).self, .slice yj.aa (vJoin h.v n).act.length yj.ac, .int .i64 (vJoin h.v n).am, .slice yj.pa (vJoin h.v n).pas.length yj.pc, .int .i64 (vJoin h.v n).pm, .slice x.ka h.asked.length x.kc, .int .i64 64]) (ST53.out.blkAt 3 rfl) (by rfl) 100 _ _ (by rfl) (by rfl) (by rfl) rfl Tryz.infoHand (by rw [←Array.all_toList];rfl) ?_)
       intro wz f_ b_
       have ST54:=Lib.hid (show Sta W O p D [⟨u12,v3.arr y3,60⟩,⟨u10,(vJoin h.v n).arr yj,60⟩,⟨u9,h.arr x,100⟩,⟨b1, #[.int .i64 (vJoin h.v n).self, .slice yj.aa (vJoin h.v n).act.length yj.ac, .int .i64 (vJoin h.v n).am, .slice yj.pa (vJoin h.v n).pas.length yj.pc, .int .i64 (vJoin h.v n).pm, .slice x.ka h.asked.length x.kc, .int .i64 64],100⟩,⟨b0, #[.int .i64 (vJoin h.v n).self, .slice yj.aa (vJoin h.v n).act.length yj.ac, .int .i64 (vJoin h.v n).am, .slice yj.pa (vJoin h.v n).pas.length yj.pc, .int .i64 (vJoin h.v n).pm, .slice x.ka h.asked.length x.kc, .int .i64 64],100⟩] [] (vrows (vJoin h.v n) yj (vrows v3 y3 (hrows h x []))) wz from ST53.out.store 3 rfl f_ b_)
       clear ST53 f_ b_
       have LL:Hid ((loadVar 100 ⟨b1,0,none⟩).run Tryz.prog wz= .ok (.agg (#[.int .i64 (vJoin h.v n).self, .slice yj.aa (vJoin h.v n).act.length yj.ac, .int .i64 (vJoin h.v n).am, .slice yj.pa (vJoin h.v n).pas.length yj.pc, .int .i64 (vJoin h.v n).pm, .slice x.ka h.asked.length x.kc, .int .i64 64])) wz):=Lib.hid (run_loadVar_mid wz b1 0 100 (Array.toList (#[.int .i64 (vJoin h.v n).self, .slice yj.aa (vJoin h.v n).act.length yj.ac, .int .i64 (vJoin h.v n).am, .slice yj.pa (vJoin h.v n).pas.length yj.pc, .int .i64 (vJoin h.v n).pm, .slice x.ka h.asked.length x.kc, .int .i64 64])) _ (blk_range (ST54.out.blkAt 3 rfl)) Tryz.underlying100 rfl Tryz.infoHand)
       have LA:Hid ((asAddr (.pointer (some ⟨b1,0,none⟩))).run Tryz.prog wz= .ok ⟨b1,0,none⟩ wz):=Lib.hid (by simp [go_sem])
       go_wp2_with fail
       refine bodyPost_ret (v:= .tuple #[.agg (#[.int .i64 (vJoin h.v n).self, .slice yj.aa (vJoin h.v n).act.length yj.ac, .int .i64 (vJoin h.v n).am, .slice yj.pa (vJoin h.v n).pas.length yj.pc, .int .i64 (vJoin h.v n).pm, .slice x.ka h.asked.length x.kc, .int .i64 64]), .slice none 0 0, .bool true]) (by simp [results,Tryz.results88,Sem.run_bind,Result.andThen_ok,LL.out,LA.out]) rfl ?_
       exact ⟨⟨yj,x.ka,x.kc⟩,_,rfl,(ST54.out.ownNil 81 8).out (List.Sublist.refl _) (inC (at_ 0 rfl) (inC (at_ 1 rfl) (inC (at_ 6 rfl) inN))),⟨HGJ.out,HG.out.asked⟩⟩
     case true=>
      obtain ⟨rfl,rfl,rfl⟩:v3=v2∧old3=old∧ok3=ok:=HF.out (by
       have:=HGG.out
       rw [hg] at this
       cases hf:F
       ·rw [hf] at this;cases this
       ·rfl)
      rw [hg] at HGE
      clear hg
      go_upto_region 6 with fail
      go_cut [11] from 46 to 49 (fun a wx=>∃ ob,a= .slice (some ⟨ob,0,none⟩) 1 1∧Sta W O p D [⟨u12,v3.arr y3,60⟩,⟨u10,v3.arr y3,60⟩,⟨u9,h.arr x,100⟩,⟨b1,handZ,100⟩,⟨b0,h.arr x,100⟩] [⟨81,8, .slice (some ⟨ob,0,none⟩) 1 1,1,Ho.cells ⟨old3,6,false⟩⟩] (vrows v3 y3 (hrows h x [])) wx)
      case first=>
       obtain ⟨wd,hwd⟩:∃ x,x=w5.drew:=⟨_,rfl⟩
       have HWD:=Lib.hid hwd
       have ST51:=Lib.hid (show Sta W O p D [⟨u12,v3.arr y3,60⟩,⟨u10,h.v.arr x.x,60⟩,⟨u9,h.arr x,100⟩,⟨b1,handZ,100⟩,⟨b0,h.arr x,100⟩] [] (vrows v3 y3 (hrows h x [])) wd from hwd▸ST50.out.gr ((Fr.refl _ _).drew))
       clear ST50 hwd
       haveI:Nonempty (WC (fun w=>w.heap[u12]?=some (.cells (v3.arr y3) 60 (0,0)))):=⟨⟨wd,ST51.out.blkAt 0 rfl⟩⟩
       refine wp_region_plan [2,3,4,5] (Plan.seq [0,1,2] (.fork 3 4 (Plan.seq [4,5] .done) (Plan.seq [3,5] .done))) (fun w'=>∃ z:WC (fun w=>w.heap[u12]?=some (.cells (v3.arr y3) 60 (0,0))),w'=z.val) (by kernel_rfl) (by kernel_rfl) (fun c a w d v h=>by cases d<;>exact h) (fun c a w d v h=>by cases d<;>exact h) (by rw [←HWD.out];exact ⟨⟨wd,ST51.out.blkAt 0 rfl⟩,rfl⟩) ?_
       rw [←HWD.out]
       clear HWD
       refine wpV_q (by simp only [gtA,gtZ]<;>rfl) (by rfl) (by rfl) ?_
       refine wpQuiet_loadH (by rfl) 60 _ (by rfl) u12 0 (by rfl) (Array.toList (v3.arr y3)) _ (fun w ⟨z,hz⟩=>hz▸blk_range z.ok) Tryz.underlying60 rfl Tryz.infoView ?_
       refine wpQuiet_nil ?_
       simp only [Act.put,List.setIfInBounds_toArray,List.set_cons_succ,List.set_cons_zero]
       refine wpV_q (by simp only [gtA,gtS,gtZ]<;>rfl) (by rfl) (by rfl) ?_
       go_big_quiet_step (fail)
       refine wpQuiet_nil ?_
       refine wpV_e (by simp only [gtA,gtS,gtZ]<;>rfl) (by rfl) ?_
       go_wp2_with fail
       refine (CS.out _).mono ?_
       rintro e wa ⟨rfl,f_⟩
       go_wp2_with fail
       have ST52:=Lib.hid (show Sta W O p D [⟨u12,v3.arr y3,60⟩,⟨u10,h.v.arr x.x,60⟩,⟨u9,h.arr x,100⟩,⟨b1,handZ,100⟩,⟨b0,h.arr x,100⟩] [] (vrows v3 y3 (hrows h x [])) wa from ST51.out.gr f_)
       clear ST51 f_
       refine ⟨⟨⟨wa,ST52.out.blkAt 0 rfl⟩,rfl⟩,?_⟩
       refine wpV_fork (by simp only [gtA,gtS,gtZ]<;>rfl) (by simp only [gtA,gtS,gtZ]<;>rfl) ?_ ?_
       ·refine wpList_bldOutsH (by rfl) ?_
        refine wpList_nil ?_
        obtain ⟨wb,hw_⟩:∃ x,x=wa.alloc (.cells (Ho.arr ⟨old3,6,false⟩) 81):=⟨_,rfl⟩
        obtain ⟨ob,hob_⟩:∃ b,b=wa.heap.size:=⟨_,rfl⟩
        rw [←hw_, ←hob_]
        have ST53:=Lib.hid (show Sta W O p D [⟨u12,v3.arr y3,60⟩,⟨u10,h.v.arr x.x,60⟩,⟨u9,h.arr x,100⟩,⟨b1,handZ,100⟩,⟨b0,h.arr x,100⟩] [⟨81,8, .slice (some ⟨ob,0,none⟩) 1 1,1,Ho.cells ⟨old3,6,false⟩⟩] (vrows v3 y3 (hrows h x [])) wb from hw_▸ST52.out.ownNew ((Fr.refl _ _).alloc _) (xs:=Ho.cells ⟨old3,6,false⟩) (n:=1) (by rw [heap_alloc_if,if_pos hob_];rfl) (Nat.le_of_eq hob_.symm) rfl (by decide))
        clear ST52 hw_ hob_
        refine ⟨⟨⟨wb,ST53.out.blkAt 0 rfl⟩,rfl⟩,?_⟩
        simp only [Act.put,List.setIfInBounds_toArray,List.set_cons_succ,List.set_cons_zero]
        refine wpV_e (by simp only [gtA,gtS,gtZ]<;>rfl) (by rfl) ?_
        refine wpList_storeW (vs:=v3.arr y3) (ST53.out.blkAt 1 rfl) (by rfl) 60 _ _ (by rfl) (by rfl) (by rfl) rfl Tryz.infoView (by rw [←Array.all_toList];rfl) ?_
        intro wc1 f_ b_
        have ST54:=Lib.hid (show Sta W O p D [⟨u12,v3.arr y3,60⟩,⟨u10,v3.arr y3,60⟩,⟨u9,h.arr x,100⟩,⟨b1,handZ,100⟩,⟨b0,h.arr x,100⟩] [⟨81,8, .slice (some ⟨ob,0,none⟩) 1 1,1,Ho.cells ⟨old3,6,false⟩⟩] (vrows v3 y3 (hrows h x [])) wc1 from ST53.out.store 1 rfl f_ b_)
        clear ST53 f_ b_
        refine wpList_nil ?_
        refine ⟨⟨⟨wc1,ST54.out.blkAt 0 rfl⟩,rfl⟩,?_⟩
        simp only [Act.put]
        refine wpV_e (by simp only [gtA,gtS,gtZ]<;>rfl) (by rfl) ?_
        go_wp2_with fail
        refine ⟨⟨⟨wc1,ST54.out.blkAt 0 rfl⟩,rfl⟩,?_⟩
        refine wpV_done ?_
        go_wp2_with fail
        go_meet
        exact ⟨ob,rfl,ST54.out⟩
       ·refine wpList_storeW (vs:=v3.arr y3) (ST52.out.blkAt 1 rfl) (by rfl) 60 _ _ (by rfl) (by rfl) (by rfl) rfl Tryz.infoView (by rw [←Array.all_toList];rfl) ?_
        intro wb f_ b_
        have ST53:=Lib.hid (show Sta W O p D [⟨u12,v3.arr y3,60⟩,⟨u10,v3.arr y3,60⟩,⟨u9,h.arr x,100⟩,⟨b1,handZ,100⟩,⟨b0,h.arr x,100⟩] [] (vrows v3 y3 (hrows h x [])) wb from ST52.out.store 1 rfl f_ b_)
        clear ST52 f_ b_
        refine wpList_nil ?_
        refine ⟨⟨⟨wb,ST53.out.blkAt 0 rfl⟩,rfl⟩,?_⟩
        simp only [Act.put]
        refine wpV_e (by simp only [gtA,gtS,gtZ]<;>rfl) (by rfl) ?_
        refine wpList_bldOutsH (by rfl) ?_
        refine wpList_nil ?_
        obtain ⟨wc1,hw_⟩:∃ x,x=wb.alloc (.cells (Ho.arr ⟨old3,6,false⟩) 81):=⟨_,rfl⟩
        obtain ⟨ob,hob_⟩:∃ b,b=wb.heap.size:=⟨_,rfl⟩
        rw [←hw_, ←hob_]
        have ST54:=Lib.hid (show Sta W O p D [⟨u12,v3.arr y3,60⟩,⟨u10,v3.arr y3,60⟩,⟨u9,h.arr x,100⟩,⟨b1,handZ,100⟩,⟨b0,h.arr x,100⟩] [⟨81,8, .slice (some ⟨ob,0,none⟩) 1 1,1,Ho.cells ⟨old3,6,false⟩⟩] (vrows v3 y3 (hrows h x [])) wc1 from hw_▸ST53.out.ownNew ((Fr.refl _ _).alloc _) (xs:=Ho.cells ⟨old3,6,false⟩) (n:=1) (by rw [heap_alloc_if,if_pos hob_];rfl) (Nat.le_of_eq hob_.symm) rfl (by decide))
        clear ST53 hw_ hob_
        refine ⟨⟨⟨wc1,ST54.out.blkAt 0 rfl⟩,rfl⟩,?_⟩
        simp only [Act.put,List.setIfInBounds_toArray,List.set_cons_succ,List.set_cons_zero]
        refine wpV_e (by simp only [gtA,gtS,gtZ]<;>rfl) (by rfl) ?_
        go_wp2_with fail
        refine ⟨⟨⟨wc1,ST54.out.blkAt 0 rfl⟩,rfl⟩,?_⟩
        refine wpV_done ?_
        go_wp2_with fail
        go_meet
        exact ⟨ob,rfl,ST54.out⟩
      case rest=>
       obtain ⟨ob,rfl,hst⟩:=hcut
       generalize wc=w6 at hst ⊢
       have ST60:=Lib.hid hst
       clear hst ST50
       have y5:w6.cell? ⟨b0,5,none⟩=some (.slice x.ka h.asked.length x.kc):=ST60.out.cell 4 5 rfl rfl
       have y6:w6.cell? ⟨b0,6,none⟩=some (.int .i64 64):=ST60.out.cell 4 6 rfl rfl
       go_upto_region 7 with fail
       go_wp2_with fail
       refine (CD.out _ (ST60.out.rowAt 4 rfl)).mono ?_
       intro e w7 hst
       obtain ⟨kd,cd,rfl,hst2⟩:=ST60.out.callS (at_ 4 rfl) hst
       have ST61:=Lib.hid (show Sta W O p D [⟨u12,v3.arr y3,60⟩,⟨u10,v3.arr y3,60⟩,⟨u9,h.arr x,100⟩,⟨b1,handZ,100⟩,⟨b0,h.arr x,100⟩] [⟨81,8, .slice (some ⟨ob,0,none⟩) 1 1,1,Ho.cells ⟨old3,6,false⟩⟩] (⟨kd,(sDrop h.asked old3).length,cd,ints (sDrop h.asked old3)⟩::vrows v3 y3 (hrows h x [])) w7 from hst2)
       clear hst hst2 ST60 y5 y6
       go_wp2_with (refine wpList_storeB (o:=5) (vs:= #[.slice kd (sDrop h.asked old3).length cd, .int .i64 64]) (ST61.out.blkAt 4 rfl) (by rfl) 58 _ _ (by rfl) (by rfl) (by rfl) (Nat.le_of_ble_eq_true rfl) Tryz.infoSet2 (by rw [←Array.all_toList];rfl) ?_)
       intro w7b f_ b_
       have ST62:=Lib.hid (show Sta W O p D [⟨u12,v3.arr y3,60⟩,⟨u10,v3.arr y3,60⟩,⟨u9,h.arr x,100⟩,⟨b1,handZ,100⟩,⟨b0, #[.int .i64 h.v.self, .slice x.x.aa h.v.act.length x.x.ac, .int .i64 h.v.am, .slice x.x.pa h.v.pas.length x.x.pc, .int .i64 h.v.pm, .slice kd (sDrop h.asked old3).length cd, .int .i64 64],100⟩] [⟨81,8, .slice (some ⟨ob,0,none⟩) 1 1,1,Ho.cells ⟨old3,6,false⟩⟩] (⟨kd,(sDrop h.asked old3).length,cd,ints (sDrop h.asked old3)⟩::vrows v3 y3 (hrows h x [])) w7b from ST61.out.store 4 rfl f_ b_)
       clear ST61 f_ b_
       have CJ:=Lib.hid (fun w (h1:VwAt w v3 y3)=>viewJoin_any v3 y3 n w h1)
       go_upto_region 8 with fail
       refine wp_region_lit ?_
       refine wpList_load_mid (by rfl) 60 _ (by rfl) u10 0 (by rfl) (Array.toList (v3.arr y3)) _ (blk_range (ST62.out.blkAt 1 rfl)) Tryz.underlying60 rfl Tryz.infoView ?_
       go_wp2_with fail
       refine (CJ.out _ (ST62.out.vw (v:=v3) (y:=y3) (at_ 1 rfl) (at_ 2 rfl) HG3.out)).mono ?_
       intro e w8 hst
       obtain ⟨yj,rfl,hst,hgj⟩:=ST62.out.callV0 (v:=v3) (y:=y3) (at_ 1 rfl) (at_ 2 rfl) hst
       have ST63:=Lib.hid (show Sta W O p D [⟨u12,v3.arr y3,60⟩,⟨u10,v3.arr y3,60⟩,⟨u9,h.arr x,100⟩,⟨b1,handZ,100⟩,⟨b0, #[.int .i64 h.v.self, .slice x.x.aa h.v.act.length x.x.ac, .int .i64 h.v.am, .slice x.x.pa h.v.pas.length x.x.pc, .int .i64 h.v.pm, .slice kd (sDrop h.asked old3).length cd, .int .i64 64],100⟩] [⟨81,8, .slice (some ⟨ob,0,none⟩) 1 1,1,Ho.cells ⟨old3,6,false⟩⟩] (vrows (vJoin v3 n) yj (⟨kd,(sDrop h.asked old3).length,cd,ints (sDrop h.asked old3)⟩::vrows v3 y3 (hrows h x []))) w8 from hst)
       have HGJ:=Lib.hid hgj
       clear hst hgj ST62 CJ
       go_wp2_with (refine wpList_storeW (vs:=(vJoin v3 n).arr yj) (ST63.out.blkAt 1 rfl) (by rfl) 60 _ _ (by rfl) (by rfl) (by rfl) rfl Tryz.infoView (by rw [←Array.all_toList];rfl) ?_)
       intro w9 f_ b_
       have ST64:=Lib.hid (show Sta W O p D [⟨u12,v3.arr y3,60⟩,⟨u10,(vJoin v3 n).arr yj,60⟩,⟨u9,h.arr x,100⟩,⟨b1,handZ,100⟩,⟨b0, #[.int .i64 h.v.self, .slice x.x.aa h.v.act.length x.x.ac, .int .i64 h.v.am, .slice x.x.pa h.v.pas.length x.x.pc, .int .i64 h.v.pm, .slice kd (sDrop h.asked old3).length cd, .int .i64 64],100⟩] [⟨81,8, .slice (some ⟨ob,0,none⟩) 1 1,1,Ho.cells ⟨old3,6,false⟩⟩] (vrows (vJoin v3 n) yj (⟨kd,(sDrop h.asked old3).length,cd,ints (sDrop h.asked old3)⟩::vrows v3 y3 (hrows h x []))) w9 from ST63.out.store 1 rfl f_ b_)
       clear ST63 f_ b_
       cases jo:vJoinOk v3 n
       case false=>
        obtain ⟨rfl,rfl,rfl,rfl⟩:h=h'∧[]=o∧false=ko∧D=dn:=by
         have hh:=HH.out
         rw [show hTake h n ds=(h,[],false,D) by unfold hTake hRoomV hRoomA hRoomO;simp [E1.out,HGE.out,HE.out,jo]] at hh
         injection hh with a b
         injection b with b c
         injection c with c d
         exact ⟨a,b,c,d⟩
        clear HH HE HGE HGG HFF HF CS CD jo
        go_upto_region 10 with fail
        refine wp_region_lit ?_
        refine wpList_load_mid (by rfl) 100 _ (by rfl) u9 0 (by rfl) (Array.toList (h.arr x)) _ (blk_range (ST64.out.blkAt 2 rfl)) Tryz.underlying100 rfl Tryz.infoHand ?_
        go_wp2_with (refine wpList_storeW (vs:=h.arr x) (ST64.out.blkAt 3 rfl) (by rfl) 100 _ _ (by rfl) (by rfl) (by rfl) rfl Tryz.infoHand (by rw [←Array.all_toList];rfl) ?_)
        intro wz f_ b_
        have ST65:=Lib.hid (show Sta W O p D [⟨u12,v3.arr y3,60⟩,⟨u10,(vJoin v3 n).arr yj,60⟩,⟨u9,h.arr x,100⟩,⟨b1,h.arr x,100⟩,⟨b0, #[.int .i64 h.v.self, .slice x.x.aa h.v.act.length x.x.ac, .int .i64 h.v.am, .slice x.x.pa h.v.pas.length x.x.pc, .int .i64 h.v.pm, .slice kd (sDrop h.asked old3).length cd, .int .i64 64],100⟩] [⟨81,8, .slice (some ⟨ob,0,none⟩) 1 1,1,Ho.cells ⟨old3,6,false⟩⟩] (vrows (vJoin v3 n) yj (⟨kd,(sDrop h.asked old3).length,cd,ints (sDrop h.asked old3)⟩::vrows v3 y3 (hrows h x []))) wz from ST64.out.store 3 rfl f_ b_)
        clear ST64 f_ b_
        have LL:Hid ((loadVar 100 ⟨b1,0,none⟩).run Tryz.prog wz= .ok (.agg (h.arr x)) wz):=Lib.hid (run_loadVar_mid wz b1 0 100 (Array.toList (h.arr x)) _ (blk_range (ST65.out.blkAt 3 rfl)) Tryz.underlying100 rfl Tryz.infoHand)
        have LA:Hid ((asAddr (.pointer (some ⟨b1,0,none⟩))).run Tryz.prog wz= .ok ⟨b1,0,none⟩ wz):=Lib.hid (by simp [go_sem])
        go_wp2_with fail
        refine bodyPost_ret (v:= .tuple #[.agg (h.arr x), .slice none 0 0, .bool false]) (by simp [results,Tryz.results88,Sem.run_bind,Result.andThen_ok,LL.out,LA.out]) rfl ?_
        exact ⟨x,_,rfl,(ST65.out.ownNil 81 8).out (List.Sublist.cons_cons _ (List.nil_sublist _)) (inC (at_ 5 rfl) (inC (at_ 6 rfl) (inC (at_ 7 rfl) inN))),HG.out⟩
       case true=>
        obtain ⟨rfl,rfl,rfl,rfl⟩:(⟨(vJoin v3 n),sDrop h.asked old3⟩:Hd)=h'∧[⟨old3,6,false⟩]=o∧true=ko∧D=dn:=by
         have hh:=HH.out
         rw [show hTake h n ds=((⟨(vJoin v3 n),sDrop h.asked old3⟩:Hd),[⟨old3,6,false⟩],true,D) by unfold hTake hRoomV hRoomA hRoomO;simp [E1.out,HGE.out,HE.out,jo]] at hh
         injection hh with a b
         injection b with b c
         injection c with c d
         exact ⟨a,b,c,d⟩
        clear HH HE HGE HGG HFF HF CS CD jo
        go_upto_region 11 with fail
        refine wp_region_lit ?_
        refine wpList_load_mid (by rfl) 60 _ (by rfl) u10 0 (by rfl) (Array.toList ((vJoin v3 n).arr yj)) _ (blk_range (ST64.out.blkAt 1 rfl)) Tryz.underlying60 rfl Tryz.infoView ?_
        go_wp2_with (refine wpList_storeB (o:=0) (vs:=(vJoin v3 n).arr yj) (ST64.out.blkAt 4 rfl) (by rfl) 60 _ _ (by rfl) (by rfl) (by rfl) (Nat.le_of_ble_eq_true rfl) Tryz.infoView (by rw [←Array.all_toList];rfl) ?_)
        intro wy f_ b_
        have ST65:=Lib.hid (show Sta W O p D [⟨u12,v3.arr y3,60⟩,⟨u10,(vJoin v3 n).arr yj,60⟩,⟨u9,h.arr x,100⟩,⟨b1,handZ,100⟩,⟨b0, #[.int .i64 (vJoin v3 n).self, .slice yj.aa (vJoin v3 n).act.length yj.ac, .int .i64 (vJoin v3 n).am, .slice yj.pa (vJoin v3 n).pas.length yj.pc, .int .i64 (vJoin v3 n).pm, .slice kd (sDrop h.asked old3).length cd, .int .i64 64],100⟩] [⟨81,8, .slice (some ⟨ob,0,none⟩) 1 1,1,Ho.cells ⟨old3,6,false⟩⟩] (vrows (vJoin v3 n) yj (⟨kd,(sDrop h.asked old3).length,cd,ints (sDrop h.asked old3)⟩::vrows v3 y3 (hrows h x []))) wy from ST64.out.store 4 rfl f_ b_)
        clear ST64 f_ b_
        go_upto_region 12 with fail
        refine wp_region_lit ?_
        refine wpList_load_mid (by rfl) 100 _ (by rfl) b0 0 (by rfl) (Array.toList (#[.int .i64 (vJoin v3 n).self, .slice yj.aa (vJoin v3 n).act.length yj.ac, .int .i64 (vJoin v3 n).am, .slice yj.pa (vJoin v3 n).pas.length yj.pc, .int .i64 (vJoin v3 n).pm, .slice kd (sDrop h.asked old3).length cd, .int .i64 64])) _ (blk_range (ST65.out.blkAt 4 rfl)) Tryz.underlying100 rfl Tryz.infoHand ?_
        go_wp2_with (refine wpList_storeW (vs:= #[.int .i64 (vJoin v3 n).self, .slice yj.aa (vJoin v3 n).act.length yj.ac, .int .i64 (vJoin v3 n).am, .slice yj.pa (vJoin v3 n).pas.length yj.pc, .int .i64 (vJoin v3 n).pm, .slice kd (sDrop h.asked old3).length cd, .int .i64 64]) (ST65.out.blkAt 3 rfl) (by rfl) 100 _ _ (by rfl) (by rfl) (by rfl) rfl Tryz.infoHand (by rw [←Array.all_toList];rfl) ?_)
        intro wz f_ b_
        have ST66:=Lib.hid (show Sta W O p D [⟨u12,v3.arr y3,60⟩,⟨u10,(vJoin v3 n).arr yj,60⟩,⟨u9,h.arr x,100⟩,⟨b1, #[.int .i64 (vJoin v3 n).self, .slice yj.aa (vJoin v3 n).act.length yj.ac, .int .i64 (vJoin v3 n).am, .slice yj.pa (vJoin v3 n).pas.length yj.pc, .int .i64 (vJoin v3 n).pm, .slice kd (sDrop h.asked old3).length cd, .int .i64 64],100⟩,⟨b0, #[.int .i64 (vJoin v3 n).self, .slice yj.aa (vJoin v3 n).act.length yj.ac, .int .i64 (vJoin v3 n).am, .slice yj.pa (vJoin v3 n).pas.length yj.pc, .int .i64 (vJoin v3 n).pm, .slice kd (sDrop h.asked old3).length cd, .int .i64 64],100⟩] [⟨81,8, .slice (some ⟨ob,0,none⟩) 1 1,1,Ho.cells ⟨old3,6,false⟩⟩] (vrows (vJoin v3 n) yj (⟨kd,(sDrop h.asked old3).length,cd,ints (sDrop h.asked old3)⟩::vrows v3 y3 (hrows h x []))) wz from ST65.out.store 3 rfl f_ b_)
        clear ST65 f_ b_
        have LL:Hid ((loadVar 100 ⟨b1,0,none⟩).run Tryz.prog wz= .ok (.agg (#[.int .i64 (vJoin v3 n).self, .slice yj.aa (vJoin v3 n).act.length yj.ac, .int .i64 (vJoin v3 n).am, .slice yj.pa (vJoin v3 n).pas.length yj.pc, .int .i64 (vJoin v3 n).pm, .slice kd (sDrop h.asked old3).length cd, .int .i64 64])) wz):=Lib.hid (run_loadVar_mid wz b1 0 100 (Array.toList (#[.int .i64 (vJoin v3 n).self, .slice yj.aa (vJoin v3 n).act.length yj.ac, .int .i64 (vJoin v3 n).am, .slice yj.pa (vJoin v3 n).pas.length yj.pc, .int .i64 (vJoin v3 n).pm, .slice kd (sDrop h.asked old3).length cd, .int .i64 64])) _ (blk_range (ST66.out.blkAt 3 rfl)) Tryz.underlying100 rfl Tryz.infoHand)
        have LA:Hid ((asAddr (.pointer (some ⟨b1,0,none⟩))).run Tryz.prog wz= .ok ⟨b1,0,none⟩ wz):=Lib.hid (by simp [go_sem])
        go_wp2_with fail
        refine bodyPost_ret (v:= .tuple #[.agg (#[.int .i64 (vJoin v3 n).self, .slice yj.aa (vJoin v3 n).act.length yj.ac, .int .i64 (vJoin v3 n).am, .slice yj.pa (vJoin v3 n).pas.length yj.pc, .int .i64 (vJoin v3 n).pm, .slice kd (sDrop h.asked old3).length cd, .int .i64 64]), .slice (some ⟨ob,0,none⟩) 1 1, .bool true]) (by simp [results,Tryz.results88,Sem.run_bind,Result.andThen_ok,LL.out,LA.out]) rfl ?_
        exact ⟨⟨yj,kd,cd⟩,_,rfl,ST66.out.out (List.Sublist.refl _) (inC (at_ 0 rfl) (inC (at_ 1 rfl) (inC (at_ 2 rfl) inN))),⟨HGJ.out,HG.out.asked.drop _⟩⟩
end
section
open Go.RowKit Go.Proofs
theorem Tryz.infoOutB:(Tryz.prog.info? 81).map (fun i=>(i.zero,i.size,i.bytes))=some (some (.agg outZ),8,112):=by kernel_rfl
theorem houts_snoc (l:List Ho) (x:Ho):houts l++Ho.cells x=houts (l++[x]):=by simp [houts]
theorem sla_own {w:World} {base:Nat} {e:TypeId} {sz m c:Nat} {ad:Addr} {xs:List Value} (h:w.ownsRow base e sz (.slice (some ad) m c) m xs):∀ j u,xs[j]?=some u→w.cell? (ad.add j)=some u:=by
 intro j u hj
 obtain ⟨a,cap,hv,hs,hb, -⟩:=SlA.of_own h
 injection hv with ha _ _
 obtain ⟨b,o,e2,hc⟩:=hs.cell j u hj
 rw [e2] at ha
 injection ha with ha
 rw [ha]
 unfold Addr.add
 split
 ·rename_i h0
  subst h0
  simpa using hc
 ·exact hc
theorem wpList_growOut {ops:Array Oper} {rest:List Oper} {o:Oper} {A:Act} {Q:Exit→Act→World→Prop} {W:World} {O:Ori} {p:Value} {ds:List Int} {B:List Blk} {L:List Ow} {R:List Rw} {w:World} (hgd:o.guard=none) (s x:Operand)
  (ho:o.op= .call { callee:= .builtin .append,args:= #[s,x],argTypes:= #[53,53] }) (ST:Sta W O p ds B L R w) (i j:Nat) {v:Value} {n m c:Nat} {xs news:List Value} {ad:Addr}
  (hi:L[i]?=some ⟨81,8,v,n,xs⟩) (hj:L[j]?=some ⟨81,8, .slice (some ad) m c,m,news⟩) (hs:A.eval s=v) (hx:A.eval x= .slice (some ad) m c) (h1:news.all (·.oneCell')=true) (hb:n+m≤1000000)
  (h:∀ v' w',Sta W O p ds B (L.set i ⟨81,8,v',n+m,xs++news⟩) R w'→wpList Tryz.prog ops Q rest (A.put o.dst v') w'):wpList Tryz.prog ops Q (o::rest) A w:=by
 obtain ⟨z,hi1,hi2,hi3,hi4⟩:=info_parts Tryz.infoOutB
 have hown:=ST.ownAt i hi
 have hnews:=ST.ownAt j hj
 refine wpList_append_own_at w hgd s x 53 ho W.heap.size 81 z (.agg outZ) 8 112 Tryz.underlying53 hi1 hi2 hi3 hi4 rfl (by decide) v n xs hs hown ad m c news hx hnews.1 (sla_own hnews) (fun u hu=>(List.all_eq_true.1 h1) u hu) (by unfold maxLen;omega) (by omega) ST.size ?_
 intro v' w' hown' hgrow _ hat
 exact h v' w' (ST.grow i hi hgrow hown' hat)
theorem handOnBye_any (h:Hd) (x:HdP) (n:Int) (p:Value) (ds:List Int) (O:Ori) (W:World) (hs:Sta W O p ds [] [] (hrows h x []) W) (hg:h.Good):
  Calls Tryz.prog 52 #[.agg (h.arr x), .int .i64 n,p] W (HEnd0 W O p (hOnBye h n ds).2 (hOnBye h n ds).1 (fun a=> .agg a)):=by
 unfold hOnBye
 simp only
 have HG:=Lib.hid hg
 have CL:=Lib.hid (fun w (h1:VwAt w h.v x.x) (h2:DrawV w p ds) (h3:VwSep p h.v x.x)=>viewLeave_any h.v x.x n true p ds w h1 h2 h3)
 obtain ⟨v',b',dn,hv⟩:∃ v' b' dn,vLeave h.v n true ds=(v',b',dn):=⟨_,_,_,rfl⟩
 rw [hv] at CL ⊢
 simp only at CL ⊢
 clear hg hv
 obtain ⟨w1,hw1⟩:∃ w1,w1=(W.alloc (.cells (h.arr x) 100)).alloc (.cells handZ 100):=⟨_,rfl⟩
 obtain ⟨b0,hb0⟩:∃ b,b=W.heap.size:=⟨_,rfl⟩
 obtain ⟨b1,hb1⟩:∃ b,b=W.heap.size+1:=⟨_,rfl⟩
 have ST1:=Lib.hid (show Sta W O p ds [⟨b1,handZ,100⟩,⟨b0,h.arr x,100⟩] [] (hrows h x []) w1 by rw [hw1];exact (hs.box _ _ hb0).box _ _ (by rw [World.size_alloc];exact hb1))
 have HW1:=Lib.hid hw1
 have HB0:=Lib.hid hb0
 have HB1:=Lib.hid hb1
 clear hw1 hb0 hb1 hs
 go_enter Tryz.func52,Tryz.ntmps52
 go_upto_region 1 with fail
 rw [←HW1.out, ←HB1.out, ←HB0.out]
 clear HW1 HB0 HB1
 go_upto_region 1 with fail
 refine wp_region_lit ?_
 iterate 3 go_step
 refine wpList_load_mid (by rfl) 60 _ (by rfl) b0 0 (by rfl) (Array.toList (h.v.arr x.x)) _ (rangeIn (cs:=h.arr x) (ST1.out.blkAt 1 rfl) 0 (by rfl)) Tryz.underlying60 rfl Tryz.infoView ?_
 go_wp2_with fail
 refine (CL.out _ (ST1.out.vw (v:=h.v) (y:=x.x) (at_ 0 rfl) (at_ 1 rfl) HG.out.v) ST1.out.dr (ST1.out.sep (v:=h.v) (y:=x.x) (at_ 0 rfl) (at_ 1 rfl))).mono ?_
 intro e w2 hst
 obtain ⟨y',rfl,hst2,hg2⟩:=ST1.out.callV (v:=h.v) (y:=x.x) (at_ 0 rfl) (at_ 1 rfl) hst
 have ST2:=Lib.hid (show Sta W O p dn [⟨b1,handZ,100⟩,⟨b0,h.arr x,100⟩] [] (vrows v' y' (hrows h x [])) w2 from hst2)
 have HG2:=Lib.hid hg2
 clear hst hst2 hg2 ST1
 go_wp2_with (refine wpList_storeB (o:=0) (vs:=v'.arr y') (ST2.out.blkAt 1 rfl) (by rfl) 60 _ _ (by rfl) (by rfl) (by rfl) (Nat.le_of_ble_eq_true rfl) Tryz.infoView (by rw [←Array.all_toList];rfl) ?_)
 intro w3 f_ b_
 have ST3:=Lib.hid (show Sta W O p dn [⟨b1,handZ,100⟩,⟨b0, #[.int .i64 v'.self, .slice y'.aa v'.act.length y'.ac, .int .i64 v'.am, .slice y'.pa v'.pas.length y'.pc, .int .i64 v'.pm, .slice x.ka h.asked.length x.kc, .int .i64 64],100⟩] [] (vrows v' y' (hrows h x [])) w3 from ST2.out.store 1 rfl f_ b_)
 clear ST2 f_ b_
 go_upto_region 2 with fail
 refine wp_region_lit ?_
 refine wpList_load_mid (by rfl) 100 _ (by rfl) b0 0 (by rfl) (Array.toList (#[.int .i64 v'.self, .slice y'.aa v'.act.length y'.ac, .int .i64 v'.am, .slice y'.pa v'.pas.length y'.pc, .int .i64 v'.pm, .slice x.ka h.asked.length x.kc, .int .i64 64])) _ (blk_range (ST3.out.blkAt 1 rfl)) Tryz.underlying100 rfl Tryz.infoHand ?_
 go_wp2_with (refine wpList_storeW (vs:= #[.int .i64 v'.self, .slice y'.aa v'.act.length y'.ac, .int .i64 v'.am, .slice y'.pa v'.pas.length y'.pc, .int .i64 v'.pm, .slice x.ka h.asked.length x.kc, .int .i64 64]) (ST3.out.blkAt 0 rfl) (by rfl) 100 _ _ (by rfl) (by rfl) (by rfl) rfl Tryz.infoHand (by rw [←Array.all_toList];rfl) ?_)
 intro w4 f_ b_
 have ST4:=Lib.hid (show Sta W O p dn [⟨b1, #[.int .i64 v'.self, .slice y'.aa v'.act.length y'.ac, .int .i64 v'.am, .slice y'.pa v'.pas.length y'.pc, .int .i64 v'.pm, .slice x.ka h.asked.length x.kc, .int .i64 64],100⟩,⟨b0, #[.int .i64 v'.self, .slice y'.aa v'.act.length y'.ac, .int .i64 v'.am, .slice y'.pa v'.pas.length y'.pc, .int .i64 v'.pm, .slice x.ka h.asked.length x.kc, .int .i64 64],100⟩] [] (vrows v' y' (hrows h x [])) w4 from ST3.out.store 0 rfl f_ b_)
 clear ST3 f_ b_
 have LL:Hid ((loadVar 100 ⟨b1,0,none⟩).run Tryz.prog w4= .ok (.agg (#[.int .i64 v'.self, .slice y'.aa v'.act.length y'.ac, .int .i64 v'.am, .slice y'.pa v'.pas.length y'.pc, .int .i64 v'.pm, .slice x.ka h.asked.length x.kc, .int .i64 64])) w4):=Lib.hid (run_loadVar_mid w4 b1 0 100 (Array.toList (#[.int .i64 v'.self, .slice y'.aa v'.act.length y'.ac, .int .i64 v'.am, .slice y'.pa v'.pas.length y'.pc, .int .i64 v'.pm, .slice x.ka h.asked.length x.kc, .int .i64 64])) _ (blk_range (ST4.out.blkAt 0 rfl)) Tryz.underlying100 rfl Tryz.infoHand)
 have LA:Hid ((asAddr (.pointer (some ⟨b1,0,none⟩))).run Tryz.prog w4= .ok ⟨b1,0,none⟩ w4):=Lib.hid (by simp [go_sem])
 go_wp2_with fail
 refine bodyPost_ret (v:= .agg (#[.int .i64 v'.self, .slice y'.aa v'.act.length y'.ac, .int .i64 v'.am, .slice y'.pa v'.pas.length y'.pc, .int .i64 v'.pm, .slice x.ka h.asked.length x.kc, .int .i64 64])) (by simp [results,Tryz.results52,Sem.run_bind,Result.andThen_ok,LL.out,LA.out]) rfl ?_
 exact ⟨⟨y',x.ka,x.kc⟩,rfl,ST4.out.out (List.Sublist.refl _) (inC (at_ 0 rfl) (inC (at_ 1 rfl) (inC (at_ 4 rfl) inN))),⟨HG2.out,HG.out.asked⟩⟩
theorem handOnBreak_any (h:Hd) (x:HdP) (n:Int) (p:Value) (ds:List Int) (O:Ori) (W:World) (hs:Sta W O p ds [] [] (hrows h x []) W) (hg:h.Good):
  Calls Tryz.prog 46 #[.agg (h.arr x), .int .i64 n] W (HEnd0 W O p ds (hOnBreak h n) (fun a=> .agg a)):=by
 unfold hOnBreak
 have HG:=Lib.hid hg
 have CL:=Lib.hid (fun w (h1:VwAt w h.v x.x)=>viewLeave_any h.v x.x n false (.pointer none) [] w h1 (DrawV.nil w) VwSep.none)
 obtain ⟨v',b',dn,hv⟩:∃ v' b' dn,vLeave h.v n false []=(v',b',dn):=⟨_,_,_,rfl⟩
 rw [hv] at CL ⊢
 simp only at CL ⊢
 have CG:=Lib.hid (fun y w (h1:VwAt w v' y)=>viewForget_any v' y n w h1)
 have CD:=Lib.hid (fun w (h1:SlA w x.ka h.asked.length x.kc (ints h.asked))=>setDrop3_any x.ka x.kc h.asked 64 n w h1 HG.out.asked)
 clear hg hv
 obtain ⟨w1,hw1⟩:∃ w1,w1=(W.alloc (.cells (h.arr x) 100)).alloc (.cells handZ 100):=⟨_,rfl⟩
 obtain ⟨b0,hb0⟩:∃ b,b=W.heap.size:=⟨_,rfl⟩
 obtain ⟨b1,hb1⟩:∃ b,b=W.heap.size+1:=⟨_,rfl⟩
 have ST1:=Lib.hid (show Sta W O p ds [⟨b1,handZ,100⟩,⟨b0,h.arr x,100⟩] [] (hrows h x []) w1 by rw [hw1];exact (hs.box _ _ hb0).box _ _ (by rw [World.size_alloc];exact hb1))
 have HW1:=Lib.hid hw1
 have HB0:=Lib.hid hb0
 have HB1:=Lib.hid hb1
 clear hw1 hb0 hb1 hs
 have l14:=(ST1.out.rowAt 2 rfl).le
 have l15:=(ST1.out.rowAt 2 rfl).max
 go_enter Tryz.func46,Tryz.ntmps46
 go_upto_region 1 with fail
 rw [←HW1.out, ←HB1.out, ←HB0.out]
 clear HW1 HB0 HB1
 have y5:w1.cell? ⟨b0,5,none⟩=some (.slice x.ka h.asked.length x.kc):=ST1.out.cell 1 5 rfl rfl
 have y6:w1.cell? ⟨b0,6,none⟩=some (.int .i64 64):=ST1.out.cell 1 6 rfl rfl
 go_upto_region 1 with fail
 go_wp2_with fail
 refine (CD.out _ (ST1.out.rowAt 2 rfl)).mono ?_
 intro e w2 hst
 obtain ⟨kd,cd,rfl,hst2⟩:=ST1.out.callS (at_ 2 rfl) hst
 have ST2:=Lib.hid (show Sta W O p ds [⟨b1,handZ,100⟩,⟨b0,h.arr x,100⟩] [] (⟨kd,(sDrop h.asked n).length,cd,ints (sDrop h.asked n)⟩::hrows h x []) w2 from hst2)
 clear hst hst2 ST1 y5 y6 CD
 go_wp2_with (refine wpList_storeB (o:=5) (vs:= #[.slice kd (sDrop h.asked n).length cd, .int .i64 64]) (ST2.out.blkAt 1 rfl) (by rfl) 58 _ _ (by rfl) (by rfl) (by rfl) (Nat.le_of_ble_eq_true rfl) Tryz.infoSet2 (by rw [←Array.all_toList];rfl) ?_)
 intro w3 f_ b_
 have ST3:=Lib.hid (show Sta W O p ds [⟨b1,handZ,100⟩,⟨b0, #[.int .i64 h.v.self, .slice x.x.aa h.v.act.length x.x.ac, .int .i64 h.v.am, .slice x.x.pa h.v.pas.length x.x.pc, .int .i64 h.v.pm, .slice kd (sDrop h.asked n).length cd, .int .i64 64],100⟩] [] (⟨kd,(sDrop h.asked n).length,cd,ints (sDrop h.asked n)⟩::hrows h x []) w3 from ST2.out.store 1 rfl f_ b_)
 clear ST2 f_ b_
 go_upto_region 2 with fail
 refine wp_region_lit ?_
 iterate 3 go_step
 refine wpList_load_mid (by rfl) 60 _ (by rfl) b0 0 (by rfl) (Array.toList (h.v.arr x.x)) _ (rangeIn (cs:= #[.int .i64 h.v.self, .slice x.x.aa h.v.act.length x.x.ac, .int .i64 h.v.am, .slice x.x.pa h.v.pas.length x.x.pc, .int .i64 h.v.pm, .slice kd (sDrop h.asked n).length cd, .int .i64 64]) (ST3.out.blkAt 1 rfl) 0 (by rfl)) Tryz.underlying60 rfl Tryz.infoView ?_
 go_wp2_with fail
 refine (CL.out _ (ST3.out.vw (v:=h.v) (y:=x.x) (at_ 1 rfl) (at_ 2 rfl) HG.out.v)).mono ?_
 intro e w4 hst
 obtain ⟨y',rfl,hst2,hg2⟩:=ST3.out.callVN (v:=h.v) (y:=x.x) (at_ 1 rfl) (at_ 2 rfl) hst
 have ST4:=Lib.hid (show Sta W O p ds [⟨b1,handZ,100⟩,⟨b0, #[.int .i64 h.v.self, .slice x.x.aa h.v.act.length x.x.ac, .int .i64 h.v.am, .slice x.x.pa h.v.pas.length x.x.pc, .int .i64 h.v.pm, .slice kd (sDrop h.asked n).length cd, .int .i64 64],100⟩] [] (vrows v' y' (⟨kd,(sDrop h.asked n).length,cd,ints (sDrop h.asked n)⟩::hrows h x [])) w4 from hst2)
 have HG4:=Lib.hid hg2
 clear hst hst2 hg2 ST3
 go_wp2_with (refine wpList_storeB (o:=0) (vs:=v'.arr y') (ST4.out.blkAt 1 rfl) (by rfl) 60 _ _ (by rfl) (by rfl) (by rfl) (Nat.le_of_ble_eq_true rfl) Tryz.infoView (by rw [←Array.all_toList];rfl) ?_)
 intro w5 f_ b_
 have ST5:=Lib.hid (show Sta W O p ds [⟨b1,handZ,100⟩,⟨b0, #[.int .i64 v'.self, .slice y'.aa v'.act.length y'.ac, .int .i64 v'.am, .slice y'.pa v'.pas.length y'.pc, .int .i64 v'.pm, .slice kd (sDrop h.asked n).length cd, .int .i64 64],100⟩] [] (vrows v' y' (⟨kd,(sDrop h.asked n).length,cd,ints (sDrop h.asked n)⟩::hrows h x [])) w5 from ST4.out.store 1 rfl f_ b_)
 clear ST4 f_ b_
 go_upto_region 3 with fail
 refine wp_region_lit ?_
 iterate 3 go_step
 refine wpList_load_mid (by rfl) 60 _ (by rfl) b0 0 (by rfl) (Array.toList (v'.arr y')) _ (rangeIn (cs:= #[.int .i64 v'.self, .slice y'.aa v'.act.length y'.ac, .int .i64 v'.am, .slice y'.pa v'.pas.length y'.pc, .int .i64 v'.pm, .slice kd (sDrop h.asked n).length cd, .int .i64 64]) (ST5.out.blkAt 1 rfl) 0 (by rfl)) Tryz.underlying60 rfl Tryz.infoView ?_
 go_wp2_with fail
 refine (CG.out y' _ (ST5.out.vw (v:=v') (y:=y') (at_ 0 rfl) (at_ 1 rfl) HG4.out)).mono ?_
 intro e w6 hst
 obtain ⟨y2,rfl,hst2,hg2⟩:=ST5.out.callV0 (v:=v') (y:=y') (at_ 0 rfl) (at_ 1 rfl) hst
 have ST6:=Lib.hid (show Sta W O p ds [⟨b1,handZ,100⟩,⟨b0, #[.int .i64 v'.self, .slice y'.aa v'.act.length y'.ac, .int .i64 v'.am, .slice y'.pa v'.pas.length y'.pc, .int .i64 v'.pm, .slice kd (sDrop h.asked n).length cd, .int .i64 64],100⟩] [] (vrows (vForget v' n) y2 (vrows v' y' (⟨kd,(sDrop h.asked n).length,cd,ints (sDrop h.asked n)⟩::hrows h x []))) w6 from hst2)
 have HG6:=Lib.hid hg2
 clear hst hst2 hg2 ST5
 go_wp2_with (refine wpList_storeB (o:=0) (vs:=(vForget v' n).arr y2) (ST6.out.blkAt 1 rfl) (by rfl) 60 _ _ (by rfl) (by rfl) (by rfl) (Nat.le_of_ble_eq_true rfl) Tryz.infoView (by rw [←Array.all_toList];rfl) ?_)
 intro w7 f_ b_
 have ST7:=Lib.hid (show Sta W O p ds [⟨b1,handZ,100⟩,⟨b0, #[.int .i64 (vForget v' n).self, .slice y2.aa (vForget v' n).act.length y2.ac, .int .i64 (vForget v' n).am, .slice y2.pa (vForget v' n).pas.length y2.pc, .int .i64 (vForget v' n).pm, .slice kd (sDrop h.asked n).length cd, .int .i64 64],100⟩] [] (vrows (vForget v' n) y2 (vrows v' y' (⟨kd,(sDrop h.asked n).length,cd,ints (sDrop h.asked n)⟩::hrows h x []))) w7 from ST6.out.store 1 rfl f_ b_)
 clear ST6 f_ b_
 go_upto_region 4 with fail
 refine wp_region_lit ?_
 refine wpList_load_mid (by rfl) 100 _ (by rfl) b0 0 (by rfl) (Array.toList (#[.int .i64 (vForget v' n).self, .slice y2.aa (vForget v' n).act.length y2.ac, .int .i64 (vForget v' n).am, .slice y2.pa (vForget v' n).pas.length y2.pc, .int .i64 (vForget v' n).pm, .slice kd (sDrop h.asked n).length cd, .int .i64 64])) _ (blk_range (ST7.out.blkAt 1 rfl)) Tryz.underlying100 rfl Tryz.infoHand ?_
 go_wp2_with (refine wpList_storeW (vs:= #[.int .i64 (vForget v' n).self, .slice y2.aa (vForget v' n).act.length y2.ac, .int .i64 (vForget v' n).am, .slice y2.pa (vForget v' n).pas.length y2.pc, .int .i64 (vForget v' n).pm, .slice kd (sDrop h.asked n).length cd, .int .i64 64]) (ST7.out.blkAt 0 rfl) (by rfl) 100 _ _ (by rfl) (by rfl) (by rfl) rfl Tryz.infoHand (by rw [←Array.all_toList];rfl) ?_)
 intro w8 f_ b_
 have ST8:=Lib.hid (show Sta W O p ds [⟨b1, #[.int .i64 (vForget v' n).self, .slice y2.aa (vForget v' n).act.length y2.ac, .int .i64 (vForget v' n).am, .slice y2.pa (vForget v' n).pas.length y2.pc, .int .i64 (vForget v' n).pm, .slice kd (sDrop h.asked n).length cd, .int .i64 64],100⟩,⟨b0, #[.int .i64 (vForget v' n).self, .slice y2.aa (vForget v' n).act.length y2.ac, .int .i64 (vForget v' n).am, .slice y2.pa (vForget v' n).pas.length y2.pc, .int .i64 (vForget v' n).pm, .slice kd (sDrop h.asked n).length cd, .int .i64 64],100⟩] [] (vrows (vForget v' n) y2 (vrows v' y' (⟨kd,(sDrop h.asked n).length,cd,ints (sDrop h.asked n)⟩::hrows h x []))) w8 from ST7.out.store 0 rfl f_ b_)
 clear ST7 f_ b_
 have LL:Hid ((loadVar 100 ⟨b1,0,none⟩).run Tryz.prog w8= .ok (.agg (#[.int .i64 (vForget v' n).self, .slice y2.aa (vForget v' n).act.length y2.ac, .int .i64 (vForget v' n).am, .slice y2.pa (vForget v' n).pas.length y2.pc, .int .i64 (vForget v' n).pm, .slice kd (sDrop h.asked n).length cd, .int .i64 64])) w8):=Lib.hid (run_loadVar_mid w8 b1 0 100 (Array.toList (#[.int .i64 (vForget v' n).self, .slice y2.aa (vForget v' n).act.length y2.ac, .int .i64 (vForget v' n).am, .slice y2.pa (vForget v' n).pas.length y2.pc, .int .i64 (vForget v' n).pm, .slice kd (sDrop h.asked n).length cd, .int .i64 64])) _ (blk_range (ST8.out.blkAt 0 rfl)) Tryz.underlying100 rfl Tryz.infoHand)
 have LA:Hid ((asAddr (.pointer (some ⟨b1,0,none⟩))).run Tryz.prog w8= .ok ⟨b1,0,none⟩ w8):=Lib.hid (by simp [go_sem])
 go_wp2_with fail
 refine bodyPost_ret (v:= .agg (#[.int .i64 (vForget v' n).self, .slice y2.aa (vForget v' n).act.length y2.ac, .int .i64 (vForget v' n).am, .slice y2.pa (vForget v' n).pas.length y2.pc, .int .i64 (vForget v' n).pm, .slice kd (sDrop h.asked n).length cd, .int .i64 64])) (by simp [results,Tryz.results46,Sem.run_bind,Result.andThen_ok,LL.out,LA.out]) rfl ?_
 exact ⟨⟨y2,kd,cd⟩,rfl,ST8.out.out (List.Sublist.refl _) (inC (at_ 0 rfl) (inC (at_ 1 rfl) (inC (at_ 4 rfl) inN))),⟨HG6.out,HG.out.asked.drop _⟩⟩
theorem handOnNo_any (h:Hd) (x:HdP) (n:Int) (p:Value) (ds:List Int) (O:Ori) (W:World) (hs:Sta W O p ds [] [] (hrows h x []) W) (hg:h.Good):
  Calls Tryz.prog 51 #[.agg (h.arr x), .int .i64 n,p] W (HEnd W O p (hOnNo h n ds).2.2 (hOnNo h n ds).1 (hOnNo h n ds).2.1 (fun a ov=> .tuple #[.agg a,ov])):=by
 obtain ⟨h',o,dn,hh⟩:∃ h' o dn,hOnNo h n ds=(h',o,dn):=⟨_,_,_,rfl⟩
 rw [hh]
 simp only
 have HH:=Lib.hid hh
 have HG:=Lib.hid hg
 have CD:=Lib.hid (fun w (h1:SlA w x.ka h.asked.length x.kc (ints h.asked))=>setDrop3_any x.ka x.kc h.asked 64 n w h1 HG.out.asked)
 have CH:=Lib.hid (fun w (h1:SlA w x.x.aa h.v.act.length x.x.ac (ints h.v.act))=>setHas_any x.x.aa x.x.ac h.v.act h.v.am n w h1 HG.out.v.act)
 have CS:=Lib.hid (fun w=>handSay_any n 6 w)
 have CB:=Lib.hid (fun x ds O w (h1:Sta w O p ds [] [] (hrows ⟨h.v,sDrop h.asked n⟩ x []) w)=>handOnBye_any ⟨h.v,sDrop h.asked n⟩ x n p ds O w h1 ⟨HG.out.v,HG.out.asked.drop n⟩)
 clear hh hg
 obtain ⟨w1,hw1⟩:∃ w1,w1=(W.alloc (.cells (h.arr x) 100)).alloc (.cells handZ 100):=⟨_,rfl⟩
 obtain ⟨b0,hb0⟩:∃ b,b=W.heap.size:=⟨_,rfl⟩
 obtain ⟨b1,hb1⟩:∃ b,b=W.heap.size+1:=⟨_,rfl⟩
 have ST1:=Lib.hid (show Sta W O p ds [⟨b1,handZ,100⟩,⟨b0,h.arr x,100⟩] [] (hrows h x []) w1 by rw [hw1];exact (hs.box _ _ hb0).box _ _ (by rw [World.size_alloc];exact hb1))
 have HW1:=Lib.hid hw1
 have HB0:=Lib.hid hb0
 have HB1:=Lib.hid hb1
 clear hw1 hb0 hb1 hs
 have l10:=(ST1.out.rowAt 0 rfl).le
 have l11:=(ST1.out.rowAt 0 rfl).max
 have l14:=(ST1.out.rowAt 2 rfl).le
 have l15:=(ST1.out.rowAt 2 rfl).max
 go_enter Tryz.func51,Tryz.ntmps51
 go_upto_region 1 with fail
 rw [←HW1.out, ←HB1.out, ←HB0.out]
 clear HW1 HB0 HB1
 have y5:w1.cell? ⟨b0,5,none⟩=some (.slice x.ka h.asked.length x.kc):=ST1.out.cell 1 5 rfl rfl
 have y6:w1.cell? ⟨b0,6,none⟩=some (.int .i64 64):=ST1.out.cell 1 6 rfl rfl
 go_upto_region 1 with fail
 go_wp2_with fail
 refine (CD.out _ (ST1.out.rowAt 2 rfl)).mono ?_
 intro e w2 hst
 obtain ⟨kd,cd,rfl,hst2⟩:=ST1.out.callS (at_ 2 rfl) hst
 have ST2:=Lib.hid (show Sta W O p ds [⟨b1,handZ,100⟩,⟨b0,h.arr x,100⟩] [] (⟨kd,(sDrop h.asked n).length,cd,ints (sDrop h.asked n)⟩::hrows h x []) w2 from hst2)
 clear hst hst2 ST1 y5 y6 CD
 go_wp2_with (refine wpList_storeB (o:=5) (vs:= #[.slice kd (sDrop h.asked n).length cd, .int .i64 64]) (ST2.out.blkAt 1 rfl) (by rfl) 58 _ _ (by rfl) (by rfl) (by rfl) (Nat.le_of_ble_eq_true rfl) Tryz.infoSet2 (by rw [←Array.all_toList];rfl) ?_)
 intro w3 f_ b_
 have ST3:=Lib.hid (show Sta W O p ds [⟨b1,handZ,100⟩,⟨b0, #[.int .i64 h.v.self, .slice x.x.aa h.v.act.length x.x.ac, .int .i64 h.v.am, .slice x.x.pa h.v.pas.length x.x.pc, .int .i64 h.v.pm, .slice kd (sDrop h.asked n).length cd, .int .i64 64],100⟩] [] (⟨kd,(sDrop h.asked n).length,cd,ints (sDrop h.asked n)⟩::hrows h x []) w3 from ST2.out.store 1 rfl f_ b_)
 clear ST2 f_ b_
 have y1:w3.cell? ⟨b0,1,none⟩=some (.slice x.x.aa h.v.act.length x.x.ac):=ST3.out.cell 1 1 rfl rfl
 have y2:w3.cell? ⟨b0,2,none⟩=some (.int .i64 h.v.am):=ST3.out.cell 1 2 rfl rfl
 go_upto_region 2 with fail
 go_wp2_with fail
 refine (CH.out _ (ST3.out.rowAt 1 rfl)).mono ?_
 rintro e w4 ⟨rfl,f_⟩
 clear y1 y2 CH
 have ST4:=Lib.hid (show Sta W O p ds [⟨b1,handZ,100⟩,⟨b0, #[.int .i64 h.v.self, .slice x.x.aa h.v.act.length x.x.ac, .int .i64 h.v.am, .slice x.x.pa h.v.pas.length x.x.pc, .int .i64 h.v.pm, .slice kd (sDrop h.asked n).length cd, .int .i64 64],100⟩] [] (⟨kd,(sDrop h.asked n).length,cd,ints (sDrop h.asked n)⟩::hrows h x []) w4 from ST3.out.gr f_)
 clear ST3 f_
 cases e1:has h.v.act n
 case false=>
  obtain ⟨rfl,rfl,rfl⟩:(⟨h.v,sDrop h.asked n⟩:Hd)=h'∧[]=o∧ds=dn:=by
   have hh:=HH.out
   rw [show hOnNo h n ds=((⟨h.v,sDrop h.asked n⟩:Hd),[],ds) by unfold hOnNo;rw [e1,if_neg (by decide)]] at hh
   injection hh with a b
   injection b with b c
   exact ⟨a,b,c⟩
  clear HH e1 CS CB
  go_upto_region 3 with fail
  refine wp_region_lit ?_
  refine wpList_load_mid (by rfl) 100 _ (by rfl) b0 0 (by rfl) (Array.toList (#[.int .i64 h.v.self, .slice x.x.aa h.v.act.length x.x.ac, .int .i64 h.v.am, .slice x.x.pa h.v.pas.length x.x.pc, .int .i64 h.v.pm, .slice kd (sDrop h.asked n).length cd, .int .i64 64])) _ (blk_range (ST4.out.blkAt 1 rfl)) Tryz.underlying100 rfl Tryz.infoHand ?_
  go_wp2_with (refine wpList_storeW (vs:= #[.int .i64 h.v.self, .slice x.x.aa h.v.act.length x.x.ac, .int .i64 h.v.am, .slice x.x.pa h.v.pas.length x.x.pc, .int .i64 h.v.pm, .slice kd (sDrop h.asked n).length cd, .int .i64 64]) (ST4.out.blkAt 0 rfl) (by rfl) 100 _ _ (by rfl) (by rfl) (by rfl) rfl Tryz.infoHand (by rw [←Array.all_toList];rfl) ?_)
  intro w9 f_ b_
  have ST5:=Lib.hid (show Sta W O p ds [⟨b1, #[.int .i64 h.v.self, .slice x.x.aa h.v.act.length x.x.ac, .int .i64 h.v.am, .slice x.x.pa h.v.pas.length x.x.pc, .int .i64 h.v.pm, .slice kd (sDrop h.asked n).length cd, .int .i64 64],100⟩,⟨b0, #[.int .i64 h.v.self, .slice x.x.aa h.v.act.length x.x.ac, .int .i64 h.v.am, .slice x.x.pa h.v.pas.length x.x.pc, .int .i64 h.v.pm, .slice kd (sDrop h.asked n).length cd, .int .i64 64],100⟩] [] (⟨kd,(sDrop h.asked n).length,cd,ints (sDrop h.asked n)⟩::hrows h x []) w9 from ST4.out.store 0 rfl f_ b_)
  clear ST4 f_ b_
  have LL:Hid ((loadVar 100 ⟨b1,0,none⟩).run Tryz.prog w9= .ok (.agg (#[.int .i64 h.v.self, .slice x.x.aa h.v.act.length x.x.ac, .int .i64 h.v.am, .slice x.x.pa h.v.pas.length x.x.pc, .int .i64 h.v.pm, .slice kd (sDrop h.asked n).length cd, .int .i64 64])) w9):=Lib.hid (run_loadVar_mid w9 b1 0 100 (Array.toList (#[.int .i64 h.v.self, .slice x.x.aa h.v.act.length x.x.ac, .int .i64 h.v.am, .slice x.x.pa h.v.pas.length x.x.pc, .int .i64 h.v.pm, .slice kd (sDrop h.asked n).length cd, .int .i64 64])) _ (blk_range (ST5.out.blkAt 0 rfl)) Tryz.underlying100 rfl Tryz.infoHand)
  have LA:Hid ((asAddr (.pointer (some ⟨b1,0,none⟩))).run Tryz.prog w9= .ok ⟨b1,0,none⟩ w9):=Lib.hid (by simp [go_sem])
  go_wp2_with fail
  refine bodyPost_ret (v:= .tuple #[.agg (#[.int .i64 h.v.self, .slice x.x.aa h.v.act.length x.x.ac, .int .i64 h.v.am, .slice x.x.pa h.v.pas.length x.x.pc, .int .i64 h.v.pm, .slice kd (sDrop h.asked n).length cd, .int .i64 64]), .slice none 0 0]) (by simp [results,Tryz.results51,Sem.run_bind,Result.andThen_ok,LL.out,LA.out]) rfl ?_
  exact ⟨(⟨x.x,kd,cd⟩:HdP),_,rfl,(ST5.out.ownNil 81 8).out (List.Sublist.refl _) (inC (at_ 1 rfl) (inC (at_ 2 rfl) (inC (at_ 0 rfl) inN))),⟨HG.out.v,HG.out.asked.drop n⟩⟩
 case true=>
  obtain ⟨hb,db,hhb⟩:∃ a b,hOnBye ⟨h.v,sDrop h.asked n⟩ n ds=(a,b):=⟨_,_,rfl⟩
  obtain ⟨rfl,rfl,rfl⟩:hb=h'∧[⟨n,6,false⟩]=o∧db=dn:=by
   have hh:=HH.out
   rw [show hOnNo h n ds=(hb,[⟨n,6,false⟩],db) by unfold hOnNo;rw [e1,if_pos rfl,hhb]] at hh
   injection hh with a b
   injection b with b c
   exact ⟨a,b,c⟩
  clear HH e1
  have CB2:=Lib.hid (fun x O w (h1:Sta w O p ds [] [] (hrows ⟨h.v,sDrop h.asked n⟩ x []) w)=>CB.out x ds O w h1)
  rw [hhb] at CB2
  clear hhb CB
  go_upto_region 4 with fail
  refine wp_region_lit ?_
  refine wpList_load_mid (by rfl) 100 _ (by rfl) b0 0 (by rfl) (Array.toList (#[.int .i64 h.v.self, .slice x.x.aa h.v.act.length x.x.ac, .int .i64 h.v.am, .slice x.x.pa h.v.pas.length x.x.pc, .int .i64 h.v.pm, .slice kd (sDrop h.asked n).length cd, .int .i64 64])) _ (blk_range (ST4.out.blkAt 1 rfl)) Tryz.underlying100 rfl Tryz.infoHand ?_
  go_wp2_with fail
  refine (CB2.out (⟨x.x,kd,cd⟩:HdP) _ _ (ST4.out.enter (hrows (⟨h.v,sDrop h.asked n⟩:Hd) (⟨x.x,kd,cd⟩:HdP) []) (inC (at_ 1 rfl) (inC (at_ 2 rfl) (inC (at_ 0 rfl) inN))))).mono ?_
  intro e w5 hst
  obtain ⟨xb,rfl,hst2,hg2⟩:=hst
  have ST5:=Lib.hid (show Sta W O p db [⟨b1,handZ,100⟩,⟨b0, #[.int .i64 h.v.self, .slice x.x.aa h.v.act.length x.x.ac, .int .i64 h.v.am, .slice x.x.pa h.v.pas.length x.x.pc, .int .i64 h.v.pm, .slice kd (sDrop h.asked n).length cd, .int .i64 64],100⟩] [] (hrows hb xb (⟨kd,(sDrop h.asked n).length,cd,ints (sDrop h.asked n)⟩::hrows h x [])) w5 from ST4.out.leave (inC (at_ 1 rfl) (inC (at_ 2 rfl) (inC (at_ 0 rfl) inN))) hst2)
  have HG5:=Lib.hid hg2
  clear hst2 hg2 ST4
  go_wp2_with fail
  refine (CS.out _).mono ?_
  rintro e w6 ⟨rfl,f_⟩
  have ST6:=Lib.hid (show Sta W O p db [⟨b1,handZ,100⟩,⟨b0, #[.int .i64 h.v.self, .slice x.x.aa h.v.act.length x.x.ac, .int .i64 h.v.am, .slice x.x.pa h.v.pas.length x.x.pc, .int .i64 h.v.pm, .slice kd (sDrop h.asked n).length cd, .int .i64 64],100⟩] [] (hrows hb xb (⟨kd,(sDrop h.asked n).length,cd,ints (sDrop h.asked n)⟩::hrows h x [])) w6 from ST5.out.gr f_)
  clear ST5 f_
  go_wp2_with (refine wpList_bldOutsH (by rfl) ?_;obtain ⟨w7,hw_⟩:∃ x,x=w6.alloc (.cells (Ho.arr ⟨n,6,false⟩) 81):=⟨_,rfl⟩;obtain ⟨ob,hob_⟩:∃ b,b=w6.heap.size:=⟨_,rfl⟩;rw [←hw_, ←hob_];have ST7:=Lib.hid (show Sta W O p db [⟨b1,handZ,100⟩,⟨b0, #[.int .i64 h.v.self, .slice x.x.aa h.v.act.length x.x.ac, .int .i64 h.v.am, .slice x.x.pa h.v.pas.length x.x.pc, .int .i64 h.v.pm, .slice kd (sDrop h.asked n).length cd, .int .i64 64],100⟩] [⟨81,8, .slice (some ⟨ob,0,none⟩) 1 1,1,Ho.cells ⟨n,6,false⟩⟩] (hrows hb xb (⟨kd,(sDrop h.asked n).length,cd,ints (sDrop h.asked n)⟩::hrows h x [])) w7 from hw_▸ST6.out.ownNew ((Fr.refl _ _).alloc _) (xs:=Ho.cells ⟨n,6,false⟩) (n:=1) (by rw [heap_alloc_if,if_pos hob_];rfl) (Nat.le_of_eq hob_.symm) rfl (by decide));clear ST6 hw_ hob_;refine wpList_storeW (vs:=hb.arr xb) (ST7.out.blkAt 0 rfl) (by rfl) 100 _ _ (by rfl) (by rfl) (by rfl) rfl Tryz.infoHand (by rw [←Array.all_toList];rfl) ?_)
  intro w8 f_ b_
  have ST8:=Lib.hid (show Sta W O p db [⟨b1,hb.arr xb,100⟩,⟨b0, #[.int .i64 h.v.self, .slice x.x.aa h.v.act.length x.x.ac, .int .i64 h.v.am, .slice x.x.pa h.v.pas.length x.x.pc, .int .i64 h.v.pm, .slice kd (sDrop h.asked n).length cd, .int .i64 64],100⟩] [⟨81,8, .slice (some ⟨ob,0,none⟩) 1 1,1,Ho.cells ⟨n,6,false⟩⟩] (hrows hb xb (⟨kd,(sDrop h.asked n).length,cd,ints (sDrop h.asked n)⟩::hrows h x [])) w8 from ST7.out.store 0 rfl f_ b_)
  clear ST7 f_ b_
  have LL:Hid ((loadVar 100 ⟨b1,0,none⟩).run Tryz.prog w8= .ok (.agg (hb.arr xb)) w8):=Lib.hid (run_loadVar_mid w8 b1 0 100 (Array.toList (hb.arr xb)) _ (blk_range (ST8.out.blkAt 0 rfl)) Tryz.underlying100 rfl Tryz.infoHand)
  have LA:Hid ((asAddr (.pointer (some ⟨b1,0,none⟩))).run Tryz.prog w8= .ok ⟨b1,0,none⟩ w8):=Lib.hid (by simp [go_sem])
  go_wp2_with fail
  refine bodyPost_ret (v:= .tuple #[.agg (hb.arr xb), .slice (some ⟨ob,0,none⟩) 1 1]) (by simp [results,Tryz.results51,Sem.run_bind,Result.andThen_ok,LL.out,LA.out]) rfl ?_
  exact ⟨xb,_,rfl,ST8.out.out (List.Sublist.refl _) (inC (at_ 0 rfl) (inC (at_ 1 rfl) (inC (at_ 2 rfl) inN))),HG5.out⟩
theorem handOnYes_any (h:Hd) (x:HdP) (n:Int) (p:Value) (ds:List Int) (O:Ori) (W:World) (hs:Sta W O p ds [] [] (hrows h x []) W) (hg:h.Good):
  Calls Tryz.prog 50 #[.agg (h.arr x), .int .i64 n,p] W (HEnd W O p (hOnYes h n ds).2.2 (hOnYes h n ds).1 (hOnYes h n ds).2.1 (fun a ov=> .tuple #[.agg a,ov])):=by
 obtain ⟨is,hs1,hs2,hs3⟩:=info_pair Tryz.zeroSet
 obtain ⟨ih,hh1,hh2,hh3⟩:=info_pair Tryz.zeroHand
 obtain ⟨h',o,dn,hh⟩:∃ h' o dn,hOnYes h n ds=(h',o,dn):=⟨_,_,_,rfl⟩
 rw [hh]
 simp only
 have HH:=Lib.hid hh
 have HG:=Lib.hid hg
 have CD:=Lib.hid (fun w (h1:SlA w x.ka h.asked.length x.kc (ints h.asked))=>setDrop3_any x.ka x.kc h.asked 64 n w h1 HG.out.asked)
 have CH:=Lib.hid (fun w (h1:SlA w x.x.aa h.v.act.length x.x.ac (ints h.v.act))=>setHas_any x.x.aa x.x.ac h.v.act h.v.am n w h1 HG.out.v.act)
 have CS:=Lib.hid (fun w=>handSay_any n 6 w)
 have CT:=Lib.hid (fun x O w (h1:Sta w O p ds [] [] (hrows ⟨h.v,sDrop h.asked n⟩ x []) w)=>handTake_any ⟨h.v,sDrop h.asked n⟩ x n p ds O w h1 ⟨HG.out.v,HG.out.asked.drop n⟩)
 clear hh hg
 obtain ⟨w1,hw1⟩:∃ w1,w1=(W.alloc (.cells (h.arr x) 100)).alloc (.cells handZ 100):=⟨_,rfl⟩
 obtain ⟨b0,hb0⟩:∃ b,b=W.heap.size:=⟨_,rfl⟩
 obtain ⟨b1,hb1⟩:∃ b,b=W.heap.size+1:=⟨_,rfl⟩
 have ST1:=Lib.hid (show Sta W O p ds [⟨b1,handZ,100⟩,⟨b0,h.arr x,100⟩] [] (hrows h x []) w1 by rw [hw1];exact (hs.box _ _ hb0).box _ _ (by rw [World.size_alloc];exact hb1))
 have HW1:=Lib.hid hw1
 have HB0:=Lib.hid hb0
 have HB1:=Lib.hid hb1
 clear hw1 hb0 hb1 hs
 have l10:=(ST1.out.rowAt 0 rfl).le
 have l11:=(ST1.out.rowAt 0 rfl).max
 have l14:=(ST1.out.rowAt 2 rfl).le
 have l15:=(ST1.out.rowAt 2 rfl).max
 go_enter Tryz.func50,Tryz.ntmps50
 go_upto_region 1 with fail
 rw [←HW1.out, ←HB1.out, ←HB0.out]
 clear HW1 HB0 HB1
 have y5:w1.cell? ⟨b0,5,none⟩=some (.slice x.ka h.asked.length x.kc):=ST1.out.cell 1 5 rfl rfl
 have y6:w1.cell? ⟨b0,6,none⟩=some (.int .i64 64):=ST1.out.cell 1 6 rfl rfl
 go_upto_region 1 with fail
 go_wp2_with fail
 refine (CD.out _ (ST1.out.rowAt 2 rfl)).mono ?_
 intro e w2 hst
 obtain ⟨kd,cd,rfl,hst2⟩:=ST1.out.callS (at_ 2 rfl) hst
 have ST2:=Lib.hid (show Sta W O p ds [⟨b1,handZ,100⟩,⟨b0,h.arr x,100⟩] [] (⟨kd,(sDrop h.asked n).length,cd,ints (sDrop h.asked n)⟩::hrows h x []) w2 from hst2)
 clear hst hst2 ST1 y5 y6 CD
 have l30:=(ST2.out.rowAt 0 rfl).le
 have l31:=(ST2.out.rowAt 0 rfl).max
 go_wp2_with (refine wpList_fresh (vs:= #[.slice kd (sDrop h.asked n).length cd, .int .i64 64]) hs1 hs2 Tryz.infoSet2 (by rfl) (by rw [←Array.all_toList];rfl) (by rfl) (by rfl) ?_)
 intro w3 f_ b_ l_
 obtain ⟨z,hb_⟩:∃ b,b=w2.heap.size:=⟨_,rfl⟩
 rw [←hb_] at b_ l_ ⊢
 have ST3:=Lib.hid (show Sta W O p ds [⟨z, #[.slice kd (sDrop h.asked n).length cd, .int .i64 64],58⟩,⟨b1,handZ,100⟩,⟨b0,h.arr x,100⟩] [] (⟨kd,(sDrop h.asked n).length,cd,ints (sDrop h.asked n)⟩::hrows h x []) w3 from ST2.out.var f_ b_ (Nat.le_of_eq hb_.symm))
 clear ST2 f_ b_ l_ hb_
 have y1:w3.cell? ⟨b0,1,none⟩=some (.slice x.x.aa h.v.act.length x.x.ac):=ST3.out.cell 2 1 rfl rfl
 have y2:w3.cell? ⟨b0,2,none⟩=some (.int .i64 h.v.am):=ST3.out.cell 2 2 rfl rfl
 go_upto_region 2 with fail
 cases e0:has h.asked n
 case false=>
  go_wp2_with fail
  refine (CH.out _ (ST3.out.rowAt 1 rfl)).mono ?_
  rintro e w4 ⟨rfl,f_⟩
  clear y1 y2 CH
  have ST4:=Lib.hid (show Sta W O p ds [⟨z, #[.slice kd (sDrop h.asked n).length cd, .int .i64 64],58⟩,⟨b1,handZ,100⟩,⟨b0,h.arr x,100⟩] [] (⟨kd,(sDrop h.asked n).length,cd,ints (sDrop h.asked n)⟩::hrows h x []) w4 from ST3.out.gr f_)
  clear ST3 f_
  cases e1:has h.v.act n
  case true=>
   obtain ⟨rfl,rfl,rfl⟩:h=h'∧[]=o∧ds=dn:=by
    have hh:=HH.out
    rw [show hOnYes h n ds=(h,[],ds) by unfold hOnYes;rw [e0,if_neg (by decide),e1,if_pos rfl]] at hh
    injection hh with a b
    injection b with b c
    exact ⟨a,b,c⟩
   clear HH e0 e1 CS CT
   go_upto_region 3 with fail
   refine wp_region_lit ?_
   refine wpList_load_mid (by rfl) 100 _ (by rfl) b0 0 (by rfl) (Array.toList (h.arr x)) _ (blk_range (ST4.out.blkAt 2 rfl)) Tryz.underlying100 rfl Tryz.infoHand ?_
   go_wp2_with (refine wpList_storeW (vs:=h.arr x) (ST4.out.blkAt 1 rfl) (by rfl) 100 _ _ (by rfl) (by rfl) (by rfl) rfl Tryz.infoHand (by rw [←Array.all_toList];rfl) ?_)
   intro w9 f_ b_
   have ST5:=Lib.hid (show Sta W O p ds [⟨z, #[.slice kd (sDrop h.asked n).length cd, .int .i64 64],58⟩,⟨b1,h.arr x,100⟩,⟨b0,h.arr x,100⟩] [] (⟨kd,(sDrop h.asked n).length,cd,ints (sDrop h.asked n)⟩::hrows h x []) w9 from ST4.out.store 1 rfl f_ b_)
   clear ST4 f_ b_
   have LL:Hid ((loadVar 100 ⟨b1,0,none⟩).run Tryz.prog w9= .ok (.agg (h.arr x)) w9):=Lib.hid (run_loadVar_mid w9 b1 0 100 (Array.toList (h.arr x)) _ (blk_range (ST5.out.blkAt 1 rfl)) Tryz.underlying100 rfl Tryz.infoHand)
   have LA:Hid ((asAddr (.pointer (some ⟨b1,0,none⟩))).run Tryz.prog w9= .ok ⟨b1,0,none⟩ w9):=Lib.hid (by simp [go_sem])
   go_wp2_with fail
   refine bodyPost_ret (v:= .tuple #[.agg (h.arr x), .slice none 0 0]) (by simp [results,Tryz.results50,Sem.run_bind,Result.andThen_ok,LL.out,LA.out]) rfl ?_
   exact ⟨x,_,rfl,(ST5.out.ownNil 81 8).out (List.Sublist.refl _) (inC (at_ 1 rfl) (inC (at_ 2 rfl) (inC (at_ 3 rfl) inN))),HG.out⟩
  case false=>
   obtain ⟨rfl,rfl,rfl⟩:h=h'∧[⟨n,6,false⟩]=o∧ds=dn:=by
    have hh:=HH.out
    rw [show hOnYes h n ds=(h,[⟨n,6,false⟩],ds) by unfold hOnYes;rw [e0,if_neg (by decide),e1,if_neg (by decide)]] at hh
    injection hh with a b
    injection b with b c
    exact ⟨a,b,c⟩
   clear HH e0 e1 CT
   go_upto_region 5 with fail
   obtain ⟨wd,hwd⟩:∃ x,x=w4.drew:=⟨_,rfl⟩
   have HWD:=Lib.hid hwd
   have ST5:=Lib.hid (show Sta W O p ds [⟨z, #[.slice kd (sDrop h.asked n).length cd, .int .i64 64],58⟩,⟨b1,handZ,100⟩,⟨b0,h.arr x,100⟩] [] (⟨kd,(sDrop h.asked n).length,cd,ints (sDrop h.asked n)⟩::hrows h x []) wd from hwd▸ST4.out.gr ((Fr.refl _ _).drew))
   clear ST4 hwd
   haveI:Nonempty (WC (fun w=>w.heap[b0]?=some (.cells (h.arr x) 100 (0,0)))):=⟨⟨wd,ST5.out.blkAt 2 rfl⟩⟩
   refine wp_region_plan [2,3,4,5] (Plan.seq [0,1,2] (.fork 3 4 (Plan.seq [4,5] .done) (Plan.seq [3,5] .done))) (fun w'=>∃ z:WC (fun w=>w.heap[b0]?=some (.cells (h.arr x) 100 (0,0))),w'=z.val) (by kernel_rfl) (by kernel_rfl) (fun c a w d v h=>by cases d<;>exact h) (fun c a w d v h=>by cases d<;>exact h) (by rw [←HWD.out];exact ⟨⟨wd,ST5.out.blkAt 2 rfl⟩,rfl⟩) ?_
   rw [←HWD.out]
   clear HWD
   refine wpV_q (by simp only [gtA,gtZ]<;>rfl) (by rfl) (by rfl) ?_
   refine wpQuiet_loadH (by rfl) 100 _ (by rfl) b0 0 (by rfl) (Array.toList (h.arr x)) _ (fun w ⟨z,hz⟩=>hz▸blk_range z.ok) Tryz.underlying100 rfl Tryz.infoHand ?_
   refine wpQuiet_nil ?_
   simp only [Act.put,List.setIfInBounds_toArray,List.set_cons_succ,List.set_cons_zero]
   refine wpV_q (by simp only [gtA,gtS,gtZ]<;>rfl) (by rfl) (by rfl) ?_
   go_big_quiet_step (fail)
   refine wpQuiet_nil ?_
   refine wpV_e (by simp only [gtA,gtS,gtZ]<;>rfl) (by rfl) ?_
   go_wp2_with fail
   refine (CS.out _).mono ?_
   rintro e wa ⟨rfl,f_⟩
   go_wp2_with fail
   have ST6:=Lib.hid (show Sta W O p ds [⟨z, #[.slice kd (sDrop h.asked n).length cd, .int .i64 64],58⟩,⟨b1,handZ,100⟩,⟨b0,h.arr x,100⟩] [] (⟨kd,(sDrop h.asked n).length,cd,ints (sDrop h.asked n)⟩::hrows h x []) wa from ST5.out.gr f_)
   clear ST5 f_
   refine ⟨⟨⟨wa,ST6.out.blkAt 2 rfl⟩,rfl⟩,?_⟩
   refine wpV_fork (by simp only [gtA,gtS,gtZ]<;>rfl) (by simp only [gtA,gtS,gtZ]<;>rfl) ?_ ?_
   ·refine wpList_bldOutsH (by rfl) ?_
    refine wpList_nil ?_
    obtain ⟨wb,hw_⟩:∃ x,x=wa.alloc (.cells (Ho.arr ⟨n,6,false⟩) 81):=⟨_,rfl⟩
    obtain ⟨ob,hob_⟩:∃ b,b=wa.heap.size:=⟨_,rfl⟩
    rw [←hw_, ←hob_]
    have ST7:=Lib.hid (show Sta W O p ds [⟨z, #[.slice kd (sDrop h.asked n).length cd, .int .i64 64],58⟩,⟨b1,handZ,100⟩,⟨b0,h.arr x,100⟩] [⟨81,8, .slice (some ⟨ob,0,none⟩) 1 1,1,Ho.cells ⟨n,6,false⟩⟩] (⟨kd,(sDrop h.asked n).length,cd,ints (sDrop h.asked n)⟩::hrows h x []) wb from hw_▸ST6.out.ownNew ((Fr.refl _ _).alloc _) (xs:=Ho.cells ⟨n,6,false⟩) (n:=1) (by rw [heap_alloc_if,if_pos hob_];rfl) (Nat.le_of_eq hob_.symm) rfl (by decide))
    clear ST6 hw_ hob_
    refine ⟨⟨⟨wb,ST7.out.blkAt 2 rfl⟩,rfl⟩,?_⟩
    simp only [Act.put,List.setIfInBounds_toArray,List.set_cons_succ,List.set_cons_zero]
    refine wpV_e (by simp only [gtA,gtS,gtZ]<;>rfl) (by rfl) ?_
    refine wpList_storeW (vs:=h.arr x) (ST7.out.blkAt 1 rfl) (by rfl) 100 _ _ (by rfl) (by rfl) (by rfl) rfl Tryz.infoHand (by rw [←Array.all_toList];rfl) ?_
    intro wc1 f_ b_
    have ST8:=Lib.hid (show Sta W O p ds [⟨z, #[.slice kd (sDrop h.asked n).length cd, .int .i64 64],58⟩,⟨b1,h.arr x,100⟩,⟨b0,h.arr x,100⟩] [⟨81,8, .slice (some ⟨ob,0,none⟩) 1 1,1,Ho.cells ⟨n,6,false⟩⟩] (⟨kd,(sDrop h.asked n).length,cd,ints (sDrop h.asked n)⟩::hrows h x []) wc1 from ST7.out.store 1 rfl f_ b_)
    clear ST7 f_ b_
    refine wpList_nil ?_
    refine ⟨⟨⟨wc1,ST8.out.blkAt 2 rfl⟩,rfl⟩,?_⟩
    simp only [Act.put]
    refine wpV_e (by simp only [gtA,gtS,gtZ]<;>rfl) (by rfl) ?_
    go_wp2_with fail
    refine ⟨⟨⟨wc1,ST8.out.blkAt 2 rfl⟩,rfl⟩,?_⟩
    refine wpV_done ?_
    have LL:Hid ((loadVar 100 ⟨b1,0,none⟩).run Tryz.prog wc1= .ok (.agg (h.arr x)) wc1):=Lib.hid (run_loadVar_mid wc1 b1 0 100 (Array.toList (h.arr x)) _ (blk_range (ST8.out.blkAt 1 rfl)) Tryz.underlying100 rfl Tryz.infoHand)
    have LA:Hid ((asAddr (.pointer (some ⟨b1,0,none⟩))).run Tryz.prog wc1= .ok ⟨b1,0,none⟩ wc1):=Lib.hid (by simp [go_sem])
    go_wp2_with fail
    refine bodyPost_ret (v:= .tuple #[.agg (h.arr x), .slice (some ⟨ob,0,none⟩) 1 1]) (by simp [results,Tryz.results50,Sem.run_bind,Result.andThen_ok,LL.out,LA.out]) rfl ?_
    exact ⟨x,_,rfl,ST8.out.out (List.Sublist.refl _) (inC (at_ 1 rfl) (inC (at_ 2 rfl) (inC (at_ 3 rfl) inN))),HG.out⟩
   ·refine wpList_storeW (vs:=h.arr x) (ST6.out.blkAt 1 rfl) (by rfl) 100 _ _ (by rfl) (by rfl) (by rfl) rfl Tryz.infoHand (by rw [←Array.all_toList];rfl) ?_
    intro wb f_ b_
    have ST7:=Lib.hid (show Sta W O p ds [⟨z, #[.slice kd (sDrop h.asked n).length cd, .int .i64 64],58⟩,⟨b1,h.arr x,100⟩,⟨b0,h.arr x,100⟩] [] (⟨kd,(sDrop h.asked n).length,cd,ints (sDrop h.asked n)⟩::hrows h x []) wb from ST6.out.store 1 rfl f_ b_)
    clear ST6 f_ b_
    refine wpList_nil ?_
    refine ⟨⟨⟨wb,ST7.out.blkAt 2 rfl⟩,rfl⟩,?_⟩
    simp only [Act.put]
    refine wpV_e (by simp only [gtA,gtS,gtZ]<;>rfl) (by rfl) ?_
    refine wpList_bldOutsH (by rfl) ?_
    refine wpList_nil ?_
    obtain ⟨wc1,hw_⟩:∃ x,x=wb.alloc (.cells (Ho.arr ⟨n,6,false⟩) 81):=⟨_,rfl⟩
    obtain ⟨ob,hob_⟩:∃ b,b=wb.heap.size:=⟨_,rfl⟩
    rw [←hw_, ←hob_]
    have ST8:=Lib.hid (show Sta W O p ds [⟨z, #[.slice kd (sDrop h.asked n).length cd, .int .i64 64],58⟩,⟨b1,h.arr x,100⟩,⟨b0,h.arr x,100⟩] [⟨81,8, .slice (some ⟨ob,0,none⟩) 1 1,1,Ho.cells ⟨n,6,false⟩⟩] (⟨kd,(sDrop h.asked n).length,cd,ints (sDrop h.asked n)⟩::hrows h x []) wc1 from hw_▸ST7.out.ownNew ((Fr.refl _ _).alloc _) (xs:=Ho.cells ⟨n,6,false⟩) (n:=1) (by rw [heap_alloc_if,if_pos hob_];rfl) (Nat.le_of_eq hob_.symm) rfl (by decide))
    clear ST7 hw_ hob_
    refine ⟨⟨⟨wc1,ST8.out.blkAt 2 rfl⟩,rfl⟩,?_⟩
    simp only [Act.put,List.setIfInBounds_toArray,List.set_cons_succ,List.set_cons_zero]
    refine wpV_e (by simp only [gtA,gtS,gtZ]<;>rfl) (by rfl) ?_
    go_wp2_with fail
    refine ⟨⟨⟨wc1,ST8.out.blkAt 2 rfl⟩,rfl⟩,?_⟩
    refine wpV_done ?_
    have LL:Hid ((loadVar 100 ⟨b1,0,none⟩).run Tryz.prog wc1= .ok (.agg (h.arr x)) wc1):=Lib.hid (run_loadVar_mid wc1 b1 0 100 (Array.toList (h.arr x)) _ (blk_range (ST8.out.blkAt 1 rfl)) Tryz.underlying100 rfl Tryz.infoHand)
    have LA:Hid ((asAddr (.pointer (some ⟨b1,0,none⟩))).run Tryz.prog wc1= .ok ⟨b1,0,none⟩ wc1):=Lib.hid (by simp [go_sem])
    go_wp2_with fail
    refine bodyPost_ret (v:= .tuple #[.agg (h.arr x), .slice (some ⟨ob,0,none⟩) 1 1]) (by simp [results,Tryz.results50,Sem.run_bind,Result.andThen_ok,LL.out,LA.out]) rfl ?_
    exact ⟨x,_,rfl,ST8.out.out (List.Sublist.refl _) (inC (at_ 1 rfl) (inC (at_ 2 rfl) (inC (at_ 3 rfl) inN))),HG.out⟩
 case true=>
  obtain ⟨ht,ot,kt,dt,hht⟩:∃ a b c d,hTake ⟨h.v,sDrop h.asked n⟩ n ds=(a,b,c,d):=⟨_,_,_,_,rfl⟩
  obtain ⟨rfl,rfl,rfl⟩:ht=h'∧ot=o∧dt=dn:=by
   have hh:=HH.out
   rw [show hOnYes h n ds=(ht,ot,dt) by unfold hOnYes;rw [e0,if_pos rfl,hht]] at hh
   injection hh with a b
   injection b with b c
   exact ⟨a,b,c⟩
  clear HH CS CH y1 y2
  rw [hht] at CT
  simp only at CT
  clear hht
  have z0:w3.cell? ⟨z,0,none⟩=some (.slice kd (sDrop h.asked n).length cd):=ST3.out.cell 0 0 rfl rfl
  have z1:w3.cell? ⟨z,1,none⟩=some (.int .i64 64):=ST3.out.cell 0 1 rfl rfl
  go_upto_region 6 with fail
  go_wp2_with (refine wpList_storeB (o:=5) (vs:= #[.slice kd (sDrop h.asked n).length cd, .int .i64 64]) (ST3.out.blkAt 2 rfl) (by rfl) 58 _ _ (by rfl) (by rfl) (by rfl) (Nat.le_of_ble_eq_true rfl) Tryz.infoSet2 (by rw [←Array.all_toList];rfl) ?_)
  intro w4 f_ b_
  have ST4:=Lib.hid (show Sta W O p ds [⟨z, #[.slice kd (sDrop h.asked n).length cd, .int .i64 64],58⟩,⟨b1,handZ,100⟩,⟨b0, #[.int .i64 h.v.self, .slice x.x.aa h.v.act.length x.x.ac, .int .i64 h.v.am, .slice x.x.pa h.v.pas.length x.x.pc, .int .i64 h.v.pm, .slice kd (sDrop h.asked n).length cd, .int .i64 64],100⟩] [] (⟨kd,(sDrop h.asked n).length,cd,ints (sDrop h.asked n)⟩::hrows h x []) w4 from ST3.out.store 2 rfl f_ b_)
  clear ST3 f_ b_
  clear z0 z1
  go_upto_region 7 with fail
  refine wp_region_lit ?_
  refine wpList_load_mid (by rfl) 100 _ (by rfl) b0 0 (by rfl) (Array.toList (#[.int .i64 h.v.self, .slice x.x.aa h.v.act.length x.x.ac, .int .i64 h.v.am, .slice x.x.pa h.v.pas.length x.x.pc, .int .i64 h.v.pm, .slice kd (sDrop h.asked n).length cd, .int .i64 64])) _ (blk_range (ST4.out.blkAt 2 rfl)) Tryz.underlying100 rfl Tryz.infoHand ?_
  go_wp2_with fail
  refine (CT.out (⟨x.x,kd,cd⟩:HdP) _ _ (ST4.out.enter (hrows (⟨h.v,sDrop h.asked n⟩:Hd) (⟨x.x,kd,cd⟩:HdP) []) (inC (at_ 1 rfl) (inC (at_ 2 rfl) (inC (at_ 0 rfl) inN))))).mono ?_
  intro e w5 hst
  obtain ⟨xt,ov,rfl,hst2,hg2⟩:=hst
  have ST5:=Lib.hid (show Sta W O p dt [⟨z, #[.slice kd (sDrop h.asked n).length cd, .int .i64 64],58⟩,⟨b1,handZ,100⟩,⟨b0, #[.int .i64 h.v.self, .slice x.x.aa h.v.act.length x.x.ac, .int .i64 h.v.am, .slice x.x.pa h.v.pas.length x.x.pc, .int .i64 h.v.pm, .slice kd (sDrop h.asked n).length cd, .int .i64 64],100⟩] [⟨81,8,ov,ot.length,houts ot⟩] (hrows ht xt (⟨kd,(sDrop h.asked n).length,cd,ints (sDrop h.asked n)⟩::hrows h x [])) w5 from ST4.out.leave (inC (at_ 1 rfl) (inC (at_ 2 rfl) (inC (at_ 0 rfl) inN))) hst2)
  have HG5:=Lib.hid hg2
  clear hst2 hg2 ST4
  go_wp2_with (refine wpList_fresh (vs:=ht.arr xt) hh1 hh2 Tryz.infoHand (by rfl) (by rw [←Array.all_toList];rfl) (by rfl) (by rfl) ?_)
  intro w6 f_ b_ l_
  obtain ⟨u,hb_⟩:∃ b,b=w5.heap.size:=⟨_,rfl⟩
  rw [←hb_] at b_ l_ ⊢
  have ST6:=Lib.hid (show Sta W O p dt [⟨u,ht.arr xt,100⟩,⟨z, #[.slice kd (sDrop h.asked n).length cd, .int .i64 64],58⟩,⟨b1,handZ,100⟩,⟨b0, #[.int .i64 h.v.self, .slice x.x.aa h.v.act.length x.x.ac, .int .i64 h.v.am, .slice x.x.pa h.v.pas.length x.x.pc, .int .i64 h.v.pm, .slice kd (sDrop h.asked n).length cd, .int .i64 64],100⟩] [⟨81,8,ov,ot.length,houts ot⟩] (hrows ht xt (⟨kd,(sDrop h.asked n).length,cd,ints (sDrop h.asked n)⟩::hrows h x [])) w6 from ST5.out.var f_ b_ (Nat.le_of_eq hb_.symm))
  clear ST5 f_ b_ l_ hb_
  go_upto_region 8 with fail
  refine wp_region_lit ?_
  refine wpList_load_mid (by rfl) 100 _ (by rfl) u 0 (by rfl) (Array.toList (ht.arr xt)) _ (blk_range (ST6.out.blkAt 0 rfl)) Tryz.underlying100 rfl Tryz.infoHand ?_
  go_wp2_with (refine wpList_storeW (vs:=ht.arr xt) (ST6.out.blkAt 2 rfl) (by rfl) 100 _ _ (by rfl) (by rfl) (by rfl) rfl Tryz.infoHand (by rw [←Array.all_toList];rfl) ?_)
  intro w7 f_ b_
  have ST7:=Lib.hid (show Sta W O p dt [⟨u,ht.arr xt,100⟩,⟨z, #[.slice kd (sDrop h.asked n).length cd, .int .i64 64],58⟩,⟨b1,ht.arr xt,100⟩,⟨b0, #[.int .i64 h.v.self, .slice x.x.aa h.v.act.length x.x.ac, .int .i64 h.v.am, .slice x.x.pa h.v.pas.length x.x.pc, .int .i64 h.v.pm, .slice kd (sDrop h.asked n).length cd, .int .i64 64],100⟩] [⟨81,8,ov,ot.length,houts ot⟩] (hrows ht xt (⟨kd,(sDrop h.asked n).length,cd,ints (sDrop h.asked n)⟩::hrows h x [])) w7 from ST6.out.store 2 rfl f_ b_)
  clear ST6 f_ b_
  have LL:Hid ((loadVar 100 ⟨b1,0,none⟩).run Tryz.prog w7= .ok (.agg (ht.arr xt)) w7):=Lib.hid (run_loadVar_mid w7 b1 0 100 (Array.toList (ht.arr xt)) _ (blk_range (ST7.out.blkAt 2 rfl)) Tryz.underlying100 rfl Tryz.infoHand)
  have LA:Hid ((asAddr (.pointer (some ⟨b1,0,none⟩))).run Tryz.prog w7= .ok ⟨b1,0,none⟩ w7):=Lib.hid (by simp [go_sem])
  go_wp2_with fail
  refine bodyPost_ret (v:= .tuple #[.agg (ht.arr xt),ov]) (by simp [results,Tryz.results50,Sem.run_bind,Result.andThen_ok,LL.out,LA.out]) rfl ?_
  exact ⟨xt,_,rfl,ST7.out.out (List.Sublist.refl _) (inC (at_ 0 rfl) (inC (at_ 1 rfl) (inC (at_ 2 rfl) inN))),HG5.out⟩
theorem hTake_few (h:Hd) (n:Int) (ds:List Int):(hTake h n ds).2.1.length≤1:=by
 unfold hTake hRoomO
 split
 ·exact Nat.zero_le _
 ·split
  ·simp only
   split<;>simp
  ·exact Nat.zero_le _
theorem handOnAsk_any (h:Hd) (x:HdP) (n:Int) (high:Bool) (p:Value) (ds:List Int) (O:Ori) (W:World) (hs:Sta W O p ds [] [] (hrows h x []) W) (hg:h.Good):
  Calls Tryz.prog 49 #[.agg (h.arr x), .int .i64 n, .bool high,p] W (HEnd W O p (hOnAsk h n high ds).2.2 (hOnAsk h n high ds).1 (hOnAsk h n high ds).2.1 (fun a ov=> .tuple #[.agg a,ov])):=by
 obtain ⟨ih,hh1,hh2,hh3⟩:=info_pair Tryz.zeroHand
 obtain ⟨h',o,dn,hh⟩:∃ h' o dn,hOnAsk h n high ds=(h',o,dn):=⟨_,_,_,rfl⟩
 rw [hh]
 simp only
 have HH:=Lib.hid hh
 have HG:=Lib.hid hg
 have CH:=Lib.hid (fun w (h1:SlA w x.x.aa h.v.act.length x.x.ac (ints h.v.act))=>setHas_any x.x.aa x.x.ac h.v.act h.v.am n w h1 HG.out.v.act)
 have CS4:=Lib.hid (fun w=>handSay_any n 4 w)
 have CS5:=Lib.hid (fun w=>handSay_any n 5 w)
 have CF:=Lib.hid (fun w=>setFull_any x.x.aa h.v.act.length x.x.ac h.v.am w)
 rw [show decide (h.v.am≤(h.v.act.length:Int))=vaFull h.v from rfl] at CF
 have CT:=Lib.hid (fun w (h1:Sta w (Org (hrows h x [])) p ds [] [] (hrows h x []) w)=>handTake_any h x n p ds _ w h1 HG.out)
 have HFE:=Lib.hid (hTake_few h n ds)
 obtain ⟨ht,ot,kt,dt,hht⟩:∃ a b c d,hTake h n ds=(a,b,c,d):=⟨_,_,_,_,rfl⟩
 rw [hht] at CT HFE
 simp only at CT HFE
 have HT:=Lib.hid hht
 obtain ⟨N,hN⟩:∃ N,N=(decide (1≤n)&&decide (n≤65535)&&(n != h.v.self)):=⟨_,rfl⟩
 obtain ⟨M,hM⟩:∃ M,M=(N&&(high|| !vaFull h.v)):=⟨_,rfl⟩
 have HM:Hid (hMay h n high=M):=Lib.hid (by rw [hM,hN];rfl)
 have HNN:=Lib.hid hN
 have HMM:=Lib.hid hM
 generalize vaFull h.v=F at CF HMM
 clear hh hg hht hN hM
 obtain ⟨w1,hw1⟩:∃ w1,w1=(W.alloc (.cells (h.arr x) 100)).alloc (.cells handZ 100):=⟨_,rfl⟩
 obtain ⟨b0,hb0⟩:∃ b,b=W.heap.size:=⟨_,rfl⟩
 obtain ⟨b1,hb1⟩:∃ b,b=W.heap.size+1:=⟨_,rfl⟩
 have ST1:=Lib.hid (show Sta W O p ds [⟨b1,handZ,100⟩,⟨b0,h.arr x,100⟩] [] (hrows h x []) w1 by rw [hw1];exact (hs.box _ _ hb0).box _ _ (by rw [World.size_alloc];exact hb1))
 have HW1:=Lib.hid hw1
 have HB0:=Lib.hid hb0
 have HB1:=Lib.hid hb1
 clear hw1 hb0 hb1 hs
 have l10:=(ST1.out.rowAt 0 rfl).le
 have l11:=(ST1.out.rowAt 0 rfl).max
 go_enter Tryz.func49,Tryz.ntmps49
 go_upto_region 1 with fail
 rw [←HW1.out, ←HB1.out, ←HB0.out]
 clear HW1 HB0 HB1
 have y1:w1.cell? ⟨b0,1,none⟩=some (.slice x.x.aa h.v.act.length x.x.ac):=ST1.out.cell 1 1 rfl rfl
 have y2:w1.cell? ⟨b0,2,none⟩=some (.int .i64 h.v.am):=ST1.out.cell 1 2 rfl rfl
 go_wp2_with fail
 refine (CH.out _ (ST1.out.rowAt 0 rfl)).mono ?_
 rintro e w2 ⟨rfl,f_⟩
 clear y1 y2 CH
 have ST2:=Lib.hid (show Sta W O p ds [⟨b1,handZ,100⟩,⟨b0,h.arr x,100⟩] [] (hrows h x []) w2 from ST1.out.gr f_)
 clear ST1 f_
 cases e1:has h.v.act n
 case true=>
  obtain ⟨rfl,rfl,rfl⟩:h=h'∧[⟨n,4,false⟩]=o∧ds=dn:=by
   have hh:=HH.out
   rw [show hOnAsk h n high ds=(h,[⟨n,4,false⟩],ds) by unfold hOnAsk;rw [e1,if_pos rfl]] at hh
   injection hh with a b
   injection b with b c
   exact ⟨a,b,c⟩
  clear HH e1 CS5 CF CT HFE HT HM HNN HMM
  go_upto_region 2 with fail
  obtain ⟨wd,hwd⟩:∃ x,x=w2.drew:=⟨_,rfl⟩
  have HWD:=Lib.hid hwd
  have ST3:=Lib.hid (show Sta W O p ds [⟨b1,handZ,100⟩,⟨b0,h.arr x,100⟩] [] (hrows h x []) wd from hwd▸ST2.out.gr ((Fr.refl _ _).drew))
  clear ST2 hwd
  haveI:Nonempty (WC (fun w=>w.heap[b0]?=some (.cells (h.arr x) 100 (0,0)))):=⟨⟨wd,ST3.out.blkAt 1 rfl⟩⟩
  refine wp_region_plan [2,3,4,5] (Plan.seq [0,1,2] (.fork 3 4 (Plan.seq [4,5] .done) (Plan.seq [3,5] .done))) (fun w'=>∃ z:WC (fun w=>w.heap[b0]?=some (.cells (h.arr x) 100 (0,0))),w'=z.val) (by kernel_rfl) (by kernel_rfl) (fun c a w d v h=>by cases d<;>exact h) (fun c a w d v h=>by cases d<;>exact h) (by rw [←HWD.out];exact ⟨⟨wd,ST3.out.blkAt 1 rfl⟩,rfl⟩) ?_
  rw [←HWD.out]
  clear HWD
  refine wpV_q (by simp only [gtA,gtZ]<;>rfl) (by rfl) (by rfl) ?_
  refine wpQuiet_loadH (by rfl) 100 _ (by rfl) b0 0 (by rfl) (Array.toList (h.arr x)) _ (fun w ⟨z,hz⟩=>hz▸blk_range z.ok) Tryz.underlying100 rfl Tryz.infoHand ?_
  refine wpQuiet_nil ?_
  simp only [Act.put,List.setIfInBounds_toArray,List.set_cons_succ,List.set_cons_zero]
  refine wpV_q (by simp only [gtA,gtS,gtZ]<;>rfl) (by rfl) (by rfl) ?_
  go_big_quiet_step (fail)
  refine wpQuiet_nil ?_
  refine wpV_e (by simp only [gtA,gtS,gtZ]<;>rfl) (by rfl) ?_
  go_wp2_with fail
  refine (CS4.out _).mono ?_
  rintro e wa ⟨rfl,f_⟩
  go_wp2_with fail
  have ST4:=Lib.hid (show Sta W O p ds [⟨b1,handZ,100⟩,⟨b0,h.arr x,100⟩] [] (hrows h x []) wa from ST3.out.gr f_)
  clear ST3 f_
  refine ⟨⟨⟨wa,ST4.out.blkAt 1 rfl⟩,rfl⟩,?_⟩
  refine wpV_fork (by simp only [gtA,gtS,gtZ]<;>rfl) (by simp only [gtA,gtS,gtZ]<;>rfl) ?_ ?_
  ·refine wpList_bldOutsH (by rfl) ?_
   refine wpList_nil ?_
   obtain ⟨wb,hw_⟩:∃ x,x=wa.alloc (.cells (Ho.arr ⟨n,4,false⟩) 81):=⟨_,rfl⟩
   obtain ⟨ob,hob_⟩:∃ b,b=wa.heap.size:=⟨_,rfl⟩
   rw [←hw_, ←hob_]
   have ST5:=Lib.hid (show Sta W O p ds [⟨b1,handZ,100⟩,⟨b0,h.arr x,100⟩] [⟨81,8, .slice (some ⟨ob,0,none⟩) 1 1,1,Ho.cells ⟨n,4,false⟩⟩] (hrows h x []) wb from hw_▸ST4.out.ownNew ((Fr.refl _ _).alloc _) (xs:=Ho.cells ⟨n,4,false⟩) (n:=1) (by rw [heap_alloc_if,if_pos hob_];rfl) (Nat.le_of_eq hob_.symm) rfl (by decide))
   clear ST4 hw_ hob_
   refine ⟨⟨⟨wb,ST5.out.blkAt 1 rfl⟩,rfl⟩,?_⟩
   simp only [Act.put,List.setIfInBounds_toArray,List.set_cons_succ,List.set_cons_zero]
   refine wpV_e (by simp only [gtA,gtS,gtZ]<;>rfl) (by rfl) ?_
   refine wpList_storeW (vs:=h.arr x) (ST5.out.blkAt 0 rfl) (by rfl) 100 _ _ (by rfl) (by rfl) (by rfl) rfl Tryz.infoHand (by rw [←Array.all_toList];rfl) ?_
   intro wc1 f_ b_
   have ST6:=Lib.hid (show Sta W O p ds [⟨b1,h.arr x,100⟩,⟨b0,h.arr x,100⟩] [⟨81,8, .slice (some ⟨ob,0,none⟩) 1 1,1,Ho.cells ⟨n,4,false⟩⟩] (hrows h x []) wc1 from ST5.out.store 0 rfl f_ b_)
   clear ST5 f_ b_
   refine wpList_nil ?_
   refine ⟨⟨⟨wc1,ST6.out.blkAt 1 rfl⟩,rfl⟩,?_⟩
   simp only [Act.put]
   refine wpV_e (by simp only [gtA,gtS,gtZ]<;>rfl) (by rfl) ?_
   go_wp2_with fail
   refine ⟨⟨⟨wc1,ST6.out.blkAt 1 rfl⟩,rfl⟩,?_⟩
   refine wpV_done ?_
   have LL:Hid ((loadVar 100 ⟨b1,0,none⟩).run Tryz.prog wc1= .ok (.agg (h.arr x)) wc1):=Lib.hid (run_loadVar_mid wc1 b1 0 100 (Array.toList (h.arr x)) _ (blk_range (ST6.out.blkAt 0 rfl)) Tryz.underlying100 rfl Tryz.infoHand)
   have LA:Hid ((asAddr (.pointer (some ⟨b1,0,none⟩))).run Tryz.prog wc1= .ok ⟨b1,0,none⟩ wc1):=Lib.hid (by simp [go_sem])
   go_wp2_with fail
   refine bodyPost_ret (v:= .tuple #[.agg (h.arr x), .slice (some ⟨ob,0,none⟩) 1 1]) (by simp [results,Tryz.results49,Sem.run_bind,Result.andThen_ok,LL.out,LA.out]) rfl ?_
   exact ⟨x,_,rfl,ST6.out.out (List.Sublist.refl _) (inC (at_ 0 rfl) (inC (at_ 1 rfl) (inC (at_ 2 rfl) inN))),HG.out⟩
  ·refine wpList_storeW (vs:=h.arr x) (ST4.out.blkAt 0 rfl) (by rfl) 100 _ _ (by rfl) (by rfl) (by rfl) rfl Tryz.infoHand (by rw [←Array.all_toList];rfl) ?_
   intro wb f_ b_
   have ST5:=Lib.hid (show Sta W O p ds [⟨b1,h.arr x,100⟩,⟨b0,h.arr x,100⟩] [] (hrows h x []) wb from ST4.out.store 0 rfl f_ b_)
   clear ST4 f_ b_
   refine wpList_nil ?_
   refine ⟨⟨⟨wb,ST5.out.blkAt 1 rfl⟩,rfl⟩,?_⟩
   simp only [Act.put]
   refine wpV_e (by simp only [gtA,gtS,gtZ]<;>rfl) (by rfl) ?_
   refine wpList_bldOutsH (by rfl) ?_
   refine wpList_nil ?_
   obtain ⟨wc1,hw_⟩:∃ x,x=wb.alloc (.cells (Ho.arr ⟨n,4,false⟩) 81):=⟨_,rfl⟩
   obtain ⟨ob,hob_⟩:∃ b,b=wb.heap.size:=⟨_,rfl⟩
   rw [←hw_, ←hob_]
   have ST6:=Lib.hid (show Sta W O p ds [⟨b1,h.arr x,100⟩,⟨b0,h.arr x,100⟩] [⟨81,8, .slice (some ⟨ob,0,none⟩) 1 1,1,Ho.cells ⟨n,4,false⟩⟩] (hrows h x []) wc1 from hw_▸ST5.out.ownNew ((Fr.refl _ _).alloc _) (xs:=Ho.cells ⟨n,4,false⟩) (n:=1) (by rw [heap_alloc_if,if_pos hob_];rfl) (Nat.le_of_eq hob_.symm) rfl (by decide))
   clear ST5 hw_ hob_
   refine ⟨⟨⟨wc1,ST6.out.blkAt 1 rfl⟩,rfl⟩,?_⟩
   simp only [Act.put,List.setIfInBounds_toArray,List.set_cons_succ,List.set_cons_zero]
   refine wpV_e (by simp only [gtA,gtS,gtZ]<;>rfl) (by rfl) ?_
   go_wp2_with fail
   refine ⟨⟨⟨wc1,ST6.out.blkAt 1 rfl⟩,rfl⟩,?_⟩
   refine wpV_done ?_
   have LL:Hid ((loadVar 100 ⟨b1,0,none⟩).run Tryz.prog wc1= .ok (.agg (h.arr x)) wc1):=Lib.hid (run_loadVar_mid wc1 b1 0 100 (Array.toList (h.arr x)) _ (blk_range (ST6.out.blkAt 0 rfl)) Tryz.underlying100 rfl Tryz.infoHand)
   have LA:Hid ((asAddr (.pointer (some ⟨b1,0,none⟩))).run Tryz.prog wc1= .ok ⟨b1,0,none⟩ wc1):=Lib.hid (by simp [go_sem])
   go_wp2_with fail
   refine bodyPost_ret (v:= .tuple #[.agg (h.arr x), .slice (some ⟨ob,0,none⟩) 1 1]) (by simp [results,Tryz.results49,Sem.run_bind,Result.andThen_ok,LL.out,LA.out]) rfl ?_
   exact ⟨x,_,rfl,ST6.out.out (List.Sublist.refl _) (inC (at_ 0 rfl) (inC (at_ 1 rfl) (inC (at_ 2 rfl) inN))),HG.out⟩
 case false=>
  have E1:=Lib.hid e1
  clear e1
  go_upto_region 3 with fail
  go_cut [10] from 23 to 35 (fun a wx=>a= .bool N∧Sta W O p ds [⟨b1,handZ,100⟩,⟨b0,h.arr x,100⟩] [] (hrows h x []) wx)
  case first=>
   have z0:w2.cell? ⟨b0,0,none⟩=some (.int .i64 h.v.self):=ST2.out.cell 1 0 rfl rfl
   by_cases h1:1≤n
   ·have d1:decide (1≤n)=true:=decide_eq_true h1
    by_cases h2:n≤65535
    ·have d2:decide (n≤65535)=true:=decide_eq_true h2
     have hn:Hid (N=(n != h.v.self)):=Lib.hid (by rw [HNN.out,d1,d2];rfl)
     go_wp2_with fail
     go_meet
     exact ⟨by rw [hn.out],ST2.out⟩
    ·have d2:decide (n≤65535)=false:=decide_eq_false h2
     have hn:Hid (N=false):=Lib.hid (by rw [HNN.out,d1,d2];rfl)
     go_wp2_with fail
     go_meet
     exact ⟨by rw [hn.out],ST2.out⟩
   ·have d1:decide (1≤n)=false:=decide_eq_false h1
    have hn:Hid (N=false):=Lib.hid (by rw [HNN.out,d1];rfl)
    go_wp2_with fail
    go_meet
    exact ⟨by rw [hn.out],ST2.out⟩
  case rest=>
   obtain ⟨rfl,hst⟩:=hcut
   generalize wc=w3 at hst ⊢
   have ST20:=Lib.hid hst
   clear hst ST2 HNN
   go_upto_region 4 with fail
   go_cut [46] from 36 to 45 (fun a wx=>a= .bool M∧Sta W O p ds [⟨b1,handZ,100⟩,⟨b0,h.arr x,100⟩] [] (hrows h x []) wx)
   case first=>
    have z1:w3.cell? ⟨b0,1,none⟩=some (.slice x.x.aa h.v.act.length x.x.ac):=ST20.out.cell 1 1 rfl rfl
    have z2:w3.cell? ⟨b0,2,none⟩=some (.int .i64 h.v.am):=ST20.out.cell 1 2 rfl rfl
    cases N
    case false=>
     have hn:Hid (M=false):=Lib.hid (by rw [HMM.out];rfl)
     go_wp2_with fail
     go_meet
     exact ⟨by rw [hn.out],ST20.out⟩
    case true=>
     cases high
     case true=>
      have hn:Hid (M=true):=Lib.hid (by rw [HMM.out];rfl)
      go_wp2_with fail
      go_meet
      exact ⟨by rw [hn.out],ST20.out⟩
     case false=>
      have hn:Hid (M= !F):=Lib.hid (by rw [HMM.out];rfl)
      go_wp2_with fail
      refine (CF.out _).mono ?_
      rintro e w5 ⟨rfl,f_⟩
      have ST21:=Lib.hid (show Sta W O p ds [⟨b1,handZ,100⟩,⟨b0,h.arr x,100⟩] [] (hrows h x []) w5 from ST20.out.gr f_)
      clear ST20 f_
      go_wp2_with fail
      go_meet
      exact ⟨by rw [hn.out],ST21.out⟩
   case rest=>
    obtain ⟨rfl,hst⟩:=hcut
    generalize wc=w4 at hst ⊢
    have ST30:=Lib.hid hst
    clear hst ST20 CF HMM
    cases M
    case false=>
     obtain ⟨rfl,rfl,rfl⟩:h=h'∧[⟨n,5,false⟩]=o∧ds=dn:=by
      have hh:=HH.out
      rw [show hOnAsk h n high ds=(h,[⟨n,5,false⟩],ds) by unfold hOnAsk;rw [E1.out,if_neg (by decide),HM.out,if_neg (by decide)]] at hh
      injection hh with a b
      injection b with b c
      exact ⟨a,b,c⟩
     clear HH E1 HM HT CT CS4 HFE
     go_upto_region 8 with fail
     obtain ⟨wd,hwd⟩:∃ x,x=w4.drew:=⟨_,rfl⟩
     have HWD:=Lib.hid hwd
     have ST31:=Lib.hid (show Sta W O p ds [⟨b1,handZ,100⟩,⟨b0,h.arr x,100⟩] [] (hrows h x []) wd from hwd▸ST30.out.gr ((Fr.refl _ _).drew))
     clear ST30 hwd
     haveI:Nonempty (WC (fun w=>w.heap[b0]?=some (.cells (h.arr x) 100 (0,0)))):=⟨⟨wd,ST31.out.blkAt 1 rfl⟩⟩
     refine wp_region_plan [2,3,4,5] (Plan.seq [0,1,2] (.fork 3 4 (Plan.seq [4,5] .done) (Plan.seq [3,5] .done))) (fun w'=>∃ z:WC (fun w=>w.heap[b0]?=some (.cells (h.arr x) 100 (0,0))),w'=z.val) (by kernel_rfl) (by kernel_rfl) (fun c a w d v h=>by cases d<;>exact h) (fun c a w d v h=>by cases d<;>exact h) (by rw [←HWD.out];exact ⟨⟨wd,ST31.out.blkAt 1 rfl⟩,rfl⟩) ?_
     rw [←HWD.out]
     clear HWD
     refine wpV_q (by simp only [gtA,gtZ]<;>rfl) (by rfl) (by rfl) ?_
     refine wpQuiet_loadH (by rfl) 100 _ (by rfl) b0 0 (by rfl) (Array.toList (h.arr x)) _ (fun w ⟨z,hz⟩=>hz▸blk_range z.ok) Tryz.underlying100 rfl Tryz.infoHand ?_
     refine wpQuiet_nil ?_
     simp only [Act.put,List.setIfInBounds_toArray,List.set_cons_succ,List.set_cons_zero]
     refine wpV_q (by simp only [gtA,gtS,gtZ]<;>rfl) (by rfl) (by rfl) ?_
     go_big_quiet_step (fail)
     refine wpQuiet_nil ?_
     refine wpV_e (by simp only [gtA,gtS,gtZ]<;>rfl) (by rfl) ?_
     go_wp2_with fail
     refine (CS5.out _).mono ?_
     rintro e wa ⟨rfl,f_⟩
     go_wp2_with fail
     have ST32:=Lib.hid (show Sta W O p ds [⟨b1,handZ,100⟩,⟨b0,h.arr x,100⟩] [] (hrows h x []) wa from ST31.out.gr f_)
     clear ST31 f_
     refine ⟨⟨⟨wa,ST32.out.blkAt 1 rfl⟩,rfl⟩,?_⟩
     refine wpV_fork (by simp only [gtA,gtS,gtZ]<;>rfl) (by simp only [gtA,gtS,gtZ]<;>rfl) ?_ ?_
     ·refine wpList_bldOutsH (by rfl) ?_
      refine wpList_nil ?_
      obtain ⟨wb,hw_⟩:∃ x,x=wa.alloc (.cells (Ho.arr ⟨n,5,false⟩) 81):=⟨_,rfl⟩
      obtain ⟨ob,hob_⟩:∃ b,b=wa.heap.size:=⟨_,rfl⟩
      rw [←hw_, ←hob_]
      have ST33:=Lib.hid (show Sta W O p ds [⟨b1,handZ,100⟩,⟨b0,h.arr x,100⟩] [⟨81,8, .slice (some ⟨ob,0,none⟩) 1 1,1,Ho.cells ⟨n,5,false⟩⟩] (hrows h x []) wb from hw_▸ST32.out.ownNew ((Fr.refl _ _).alloc _) (xs:=Ho.cells ⟨n,5,false⟩) (n:=1) (by rw [heap_alloc_if,if_pos hob_];rfl) (Nat.le_of_eq hob_.symm) rfl (by decide))
      clear ST32 hw_ hob_
      refine ⟨⟨⟨wb,ST33.out.blkAt 1 rfl⟩,rfl⟩,?_⟩
      simp only [Act.put,List.setIfInBounds_toArray,List.set_cons_succ,List.set_cons_zero]
      refine wpV_e (by simp only [gtA,gtS,gtZ]<;>rfl) (by rfl) ?_
      refine wpList_storeW (vs:=h.arr x) (ST33.out.blkAt 0 rfl) (by rfl) 100 _ _ (by rfl) (by rfl) (by rfl) rfl Tryz.infoHand (by rw [←Array.all_toList];rfl) ?_
      intro wc1 f_ b_
      have ST34:=Lib.hid (show Sta W O p ds [⟨b1,h.arr x,100⟩,⟨b0,h.arr x,100⟩] [⟨81,8, .slice (some ⟨ob,0,none⟩) 1 1,1,Ho.cells ⟨n,5,false⟩⟩] (hrows h x []) wc1 from ST33.out.store 0 rfl f_ b_)
      clear ST33 f_ b_
      refine wpList_nil ?_
      refine ⟨⟨⟨wc1,ST34.out.blkAt 1 rfl⟩,rfl⟩,?_⟩
      simp only [Act.put]
      refine wpV_e (by simp only [gtA,gtS,gtZ]<;>rfl) (by rfl) ?_
      go_wp2_with fail
      refine ⟨⟨⟨wc1,ST34.out.blkAt 1 rfl⟩,rfl⟩,?_⟩
      refine wpV_done ?_
      have LL:Hid ((loadVar 100 ⟨b1,0,none⟩).run Tryz.prog wc1= .ok (.agg (h.arr x)) wc1):=Lib.hid (run_loadVar_mid wc1 b1 0 100 (Array.toList (h.arr x)) _ (blk_range (ST34.out.blkAt 0 rfl)) Tryz.underlying100 rfl Tryz.infoHand)
      have LA:Hid ((asAddr (.pointer (some ⟨b1,0,none⟩))).run Tryz.prog wc1= .ok ⟨b1,0,none⟩ wc1):=Lib.hid (by simp [go_sem])
      go_wp2_with fail
      refine bodyPost_ret (v:= .tuple #[.agg (h.arr x), .slice (some ⟨ob,0,none⟩) 1 1]) (by simp [results,Tryz.results49,Sem.run_bind,Result.andThen_ok,LL.out,LA.out]) rfl ?_
      exact ⟨x,_,rfl,ST34.out.out (List.Sublist.refl _) (inC (at_ 0 rfl) (inC (at_ 1 rfl) (inC (at_ 2 rfl) inN))),HG.out⟩
     ·refine wpList_storeW (vs:=h.arr x) (ST32.out.blkAt 0 rfl) (by rfl) 100 _ _ (by rfl) (by rfl) (by rfl) rfl Tryz.infoHand (by rw [←Array.all_toList];rfl) ?_
      intro wb f_ b_
      have ST33:=Lib.hid (show Sta W O p ds [⟨b1,h.arr x,100⟩,⟨b0,h.arr x,100⟩] [] (hrows h x []) wb from ST32.out.store 0 rfl f_ b_)
      clear ST32 f_ b_
      refine wpList_nil ?_
      refine ⟨⟨⟨wb,ST33.out.blkAt 1 rfl⟩,rfl⟩,?_⟩
      simp only [Act.put]
      refine wpV_e (by simp only [gtA,gtS,gtZ]<;>rfl) (by rfl) ?_
      refine wpList_bldOutsH (by rfl) ?_
      refine wpList_nil ?_
      obtain ⟨wc1,hw_⟩:∃ x,x=wb.alloc (.cells (Ho.arr ⟨n,5,false⟩) 81):=⟨_,rfl⟩
      obtain ⟨ob,hob_⟩:∃ b,b=wb.heap.size:=⟨_,rfl⟩
      rw [←hw_, ←hob_]
      have ST34:=Lib.hid (show Sta W O p ds [⟨b1,h.arr x,100⟩,⟨b0,h.arr x,100⟩] [⟨81,8, .slice (some ⟨ob,0,none⟩) 1 1,1,Ho.cells ⟨n,5,false⟩⟩] (hrows h x []) wc1 from hw_▸ST33.out.ownNew ((Fr.refl _ _).alloc _) (xs:=Ho.cells ⟨n,5,false⟩) (n:=1) (by rw [heap_alloc_if,if_pos hob_];rfl) (Nat.le_of_eq hob_.symm) rfl (by decide))
      clear ST33 hw_ hob_
      refine ⟨⟨⟨wc1,ST34.out.blkAt 1 rfl⟩,rfl⟩,?_⟩
      simp only [Act.put,List.setIfInBounds_toArray,List.set_cons_succ,List.set_cons_zero]
      refine wpV_e (by simp only [gtA,gtS,gtZ]<;>rfl) (by rfl) ?_
      go_wp2_with fail
      refine ⟨⟨⟨wc1,ST34.out.blkAt 1 rfl⟩,rfl⟩,?_⟩
      refine wpV_done ?_
      have LL:Hid ((loadVar 100 ⟨b1,0,none⟩).run Tryz.prog wc1= .ok (.agg (h.arr x)) wc1):=Lib.hid (run_loadVar_mid wc1 b1 0 100 (Array.toList (h.arr x)) _ (blk_range (ST34.out.blkAt 0 rfl)) Tryz.underlying100 rfl Tryz.infoHand)
      have LA:Hid ((asAddr (.pointer (some ⟨b1,0,none⟩))).run Tryz.prog wc1= .ok ⟨b1,0,none⟩ wc1):=Lib.hid (by simp [go_sem])
      go_wp2_with fail
      refine bodyPost_ret (v:= .tuple #[.agg (h.arr x), .slice (some ⟨ob,0,none⟩) 1 1]) (by simp [results,Tryz.results49,Sem.run_bind,Result.andThen_ok,LL.out,LA.out]) rfl ?_
      exact ⟨x,_,rfl,ST34.out.out (List.Sublist.refl _) (inC (at_ 0 rfl) (inC (at_ 1 rfl) (inC (at_ 2 rfl) inN))),HG.out⟩
    case true=>
     go_upto_region 5 with fail
     refine wp_region_lit ?_
     refine wpList_load_mid (by rfl) 100 _ (by rfl) b0 0 (by rfl) (Array.toList (h.arr x)) _ (blk_range (ST30.out.blkAt 1 rfl)) Tryz.underlying100 rfl Tryz.infoHand ?_
     go_wp2_with fail
     refine (CT.out _ (ST30.out.enter (hrows h x []) (inC (at_ 0 rfl) (inC (at_ 1 rfl) (inC (at_ 2 rfl) inN))))).mono ?_
     intro e w5 hst
     obtain ⟨xt,ov,rfl,hst2,hg2⟩:=hst
     have ST31:=Lib.hid (show Sta W O p dt [⟨b1,handZ,100⟩,⟨b0,h.arr x,100⟩] [⟨81,8,ov,ot.length,houts ot⟩] (hrows ht xt (hrows h x [])) w5 from ST30.out.leave (inC (at_ 0 rfl) (inC (at_ 1 rfl) (inC (at_ 2 rfl) inN))) hst2)
     have HG31:=Lib.hid hg2
     clear hst2 hg2 ST30
     go_wp2_with (refine wpList_fresh (vs:=ht.arr xt) hh1 hh2 Tryz.infoHand (by rfl) (by rw [←Array.all_toList];rfl) (by rfl) (by rfl) ?_)
     intro w6 f_ b_ l_
     obtain ⟨u,hb_⟩:∃ b,b=w5.heap.size:=⟨_,rfl⟩
     rw [←hb_] at b_ l_ ⊢
     have ST32:=Lib.hid (show Sta W O p dt [⟨u,ht.arr xt,100⟩,⟨b1,handZ,100⟩,⟨b0,h.arr x,100⟩] [⟨81,8,ov,ot.length,houts ot⟩] (hrows ht xt (hrows h x [])) w6 from ST31.out.var f_ b_ (Nat.le_of_eq hb_.symm))
     clear ST31 f_ b_ l_ hb_
     cases kt
     case false=>
      obtain ⟨rfl,rfl,rfl⟩:h=h'∧[⟨n,5,false⟩]=o∧dt=dn:=by
       have hh:=HH.out
       rw [show hOnAsk h n high ds=(h,[⟨n,5,false⟩],dt) by unfold hOnAsk;rw [E1.out,if_neg (by decide),HM.out,if_pos rfl,HT.out,if_neg (by simp)]] at hh
       injection hh with a b
       injection b with b c
       exact ⟨a,b,c⟩
      clear HH E1 HM HT CT CS4 HFE
      go_upto_region 8 with fail
      obtain ⟨wd,hwd⟩:∃ x,x=w6.drew:=⟨_,rfl⟩
      have HWD:=Lib.hid hwd
      have ST33:=Lib.hid (show Sta W O p dt [⟨u,ht.arr xt,100⟩,⟨b1,handZ,100⟩,⟨b0,h.arr x,100⟩] [⟨81,8,ov,ot.length,houts ot⟩] (hrows ht xt (hrows h x [])) wd from hwd▸ST32.out.gr ((Fr.refl _ _).drew))
      clear ST32 hwd
      haveI:Nonempty (WC (fun w=>w.heap[b0]?=some (.cells (h.arr x) 100 (0,0)))):=⟨⟨wd,ST33.out.blkAt 2 rfl⟩⟩
      refine wp_region_plan [2,3,4,5] (Plan.seq [0,1,2] (.fork 3 4 (Plan.seq [4,5] .done) (Plan.seq [3,5] .done))) (fun w'=>∃ z:WC (fun w=>w.heap[b0]?=some (.cells (h.arr x) 100 (0,0))),w'=z.val) (by kernel_rfl) (by kernel_rfl) (fun c a w d v h=>by cases d<;>exact h) (fun c a w d v h=>by cases d<;>exact h) (by rw [←HWD.out];exact ⟨⟨wd,ST33.out.blkAt 2 rfl⟩,rfl⟩) ?_
      rw [←HWD.out]
      clear HWD
      refine wpV_q (by simp only [gtA,gtZ]<;>rfl) (by rfl) (by rfl) ?_
      refine wpQuiet_loadH (by rfl) 100 _ (by rfl) b0 0 (by rfl) (Array.toList (h.arr x)) _ (fun w ⟨z,hz⟩=>hz▸blk_range z.ok) Tryz.underlying100 rfl Tryz.infoHand ?_
      refine wpQuiet_nil ?_
      simp only [Act.put,List.setIfInBounds_toArray,List.set_cons_succ,List.set_cons_zero]
      refine wpV_q (by simp only [gtA,gtS,gtZ]<;>rfl) (by rfl) (by rfl) ?_
      go_big_quiet_step (fail)
      refine wpQuiet_nil ?_
      refine wpV_e (by simp only [gtA,gtS,gtZ]<;>rfl) (by rfl) ?_
      go_wp2_with fail
      refine (CS5.out _).mono ?_
      rintro e wa ⟨rfl,f_⟩
      go_wp2_with fail
      have ST34:=Lib.hid (show Sta W O p dt [⟨u,ht.arr xt,100⟩,⟨b1,handZ,100⟩,⟨b0,h.arr x,100⟩] [⟨81,8,ov,ot.length,houts ot⟩] (hrows ht xt (hrows h x [])) wa from ST33.out.gr f_)
      clear ST33 f_
      refine ⟨⟨⟨wa,ST34.out.blkAt 2 rfl⟩,rfl⟩,?_⟩
      refine wpV_fork (by simp only [gtA,gtS,gtZ]<;>rfl) (by simp only [gtA,gtS,gtZ]<;>rfl) ?_ ?_
      ·refine wpList_bldOutsH (by rfl) ?_
       refine wpList_nil ?_
       obtain ⟨wb,hw_⟩:∃ x,x=wa.alloc (.cells (Ho.arr ⟨n,5,false⟩) 81):=⟨_,rfl⟩
       obtain ⟨ob,hob_⟩:∃ b,b=wa.heap.size:=⟨_,rfl⟩
       rw [←hw_, ←hob_]
       have ST35:=Lib.hid (show Sta W O p dt [⟨u,ht.arr xt,100⟩,⟨b1,handZ,100⟩,⟨b0,h.arr x,100⟩] [⟨81,8, .slice (some ⟨ob,0,none⟩) 1 1,1,Ho.cells ⟨n,5,false⟩⟩,⟨81,8,ov,ot.length,houts ot⟩] (hrows ht xt (hrows h x [])) wb from hw_▸ST34.out.ownNew ((Fr.refl _ _).alloc _) (xs:=Ho.cells ⟨n,5,false⟩) (n:=1) (by rw [heap_alloc_if,if_pos hob_];rfl) (Nat.le_of_eq hob_.symm) rfl (by decide))
       clear ST34 hw_ hob_
       refine ⟨⟨⟨wb,ST35.out.blkAt 2 rfl⟩,rfl⟩,?_⟩
       simp only [Act.put,List.setIfInBounds_toArray,List.set_cons_succ,List.set_cons_zero]
       refine wpV_e (by simp only [gtA,gtS,gtZ]<;>rfl) (by rfl) ?_
       refine wpList_storeW (vs:=h.arr x) (ST35.out.blkAt 1 rfl) (by rfl) 100 _ _ (by rfl) (by rfl) (by rfl) rfl Tryz.infoHand (by rw [←Array.all_toList];rfl) ?_
       intro wc1 f_ b_
       have ST36:=Lib.hid (show Sta W O p dt [⟨u,ht.arr xt,100⟩,⟨b1,h.arr x,100⟩,⟨b0,h.arr x,100⟩] [⟨81,8, .slice (some ⟨ob,0,none⟩) 1 1,1,Ho.cells ⟨n,5,false⟩⟩,⟨81,8,ov,ot.length,houts ot⟩] (hrows ht xt (hrows h x [])) wc1 from ST35.out.store 1 rfl f_ b_)
       clear ST35 f_ b_
       refine wpList_nil ?_
       refine ⟨⟨⟨wc1,ST36.out.blkAt 2 rfl⟩,rfl⟩,?_⟩
       simp only [Act.put]
       refine wpV_e (by simp only [gtA,gtS,gtZ]<;>rfl) (by rfl) ?_
       go_wp2_with fail
       refine ⟨⟨⟨wc1,ST36.out.blkAt 2 rfl⟩,rfl⟩,?_⟩
       refine wpV_done ?_
       have LL:Hid ((loadVar 100 ⟨b1,0,none⟩).run Tryz.prog wc1= .ok (.agg (h.arr x)) wc1):=Lib.hid (run_loadVar_mid wc1 b1 0 100 (Array.toList (h.arr x)) _ (blk_range (ST36.out.blkAt 1 rfl)) Tryz.underlying100 rfl Tryz.infoHand)
       have LA:Hid ((asAddr (.pointer (some ⟨b1,0,none⟩))).run Tryz.prog wc1= .ok ⟨b1,0,none⟩ wc1):=Lib.hid (by simp [go_sem])
       go_wp2_with fail
       refine bodyPost_ret (v:= .tuple #[.agg (h.arr x), .slice (some ⟨ob,0,none⟩) 1 1]) (by simp [results,Tryz.results49,Sem.run_bind,Result.andThen_ok,LL.out,LA.out]) rfl ?_
       exact ⟨x,_,rfl,ST36.out.out (List.Sublist.cons_cons _ (List.nil_sublist _)) (inC (at_ 3 rfl) (inC (at_ 4 rfl) (inC (at_ 5 rfl) inN))),HG.out⟩
      ·refine wpList_storeW (vs:=h.arr x) (ST34.out.blkAt 1 rfl) (by rfl) 100 _ _ (by rfl) (by rfl) (by rfl) rfl Tryz.infoHand (by rw [←Array.all_toList];rfl) ?_
       intro wb f_ b_
       have ST35:=Lib.hid (show Sta W O p dt [⟨u,ht.arr xt,100⟩,⟨b1,h.arr x,100⟩,⟨b0,h.arr x,100⟩] [⟨81,8,ov,ot.length,houts ot⟩] (hrows ht xt (hrows h x [])) wb from ST34.out.store 1 rfl f_ b_)
       clear ST34 f_ b_
       refine wpList_nil ?_
       refine ⟨⟨⟨wb,ST35.out.blkAt 2 rfl⟩,rfl⟩,?_⟩
       simp only [Act.put]
       refine wpV_e (by simp only [gtA,gtS,gtZ]<;>rfl) (by rfl) ?_
       refine wpList_bldOutsH (by rfl) ?_
       refine wpList_nil ?_
       obtain ⟨wc1,hw_⟩:∃ x,x=wb.alloc (.cells (Ho.arr ⟨n,5,false⟩) 81):=⟨_,rfl⟩
       obtain ⟨ob,hob_⟩:∃ b,b=wb.heap.size:=⟨_,rfl⟩
       rw [←hw_, ←hob_]
       have ST36:=Lib.hid (show Sta W O p dt [⟨u,ht.arr xt,100⟩,⟨b1,h.arr x,100⟩,⟨b0,h.arr x,100⟩] [⟨81,8, .slice (some ⟨ob,0,none⟩) 1 1,1,Ho.cells ⟨n,5,false⟩⟩,⟨81,8,ov,ot.length,houts ot⟩] (hrows ht xt (hrows h x [])) wc1 from hw_▸ST35.out.ownNew ((Fr.refl _ _).alloc _) (xs:=Ho.cells ⟨n,5,false⟩) (n:=1) (by rw [heap_alloc_if,if_pos hob_];rfl) (Nat.le_of_eq hob_.symm) rfl (by decide))
       clear ST35 hw_ hob_
       refine ⟨⟨⟨wc1,ST36.out.blkAt 2 rfl⟩,rfl⟩,?_⟩
       simp only [Act.put,List.setIfInBounds_toArray,List.set_cons_succ,List.set_cons_zero]
       refine wpV_e (by simp only [gtA,gtS,gtZ]<;>rfl) (by rfl) ?_
       go_wp2_with fail
       refine ⟨⟨⟨wc1,ST36.out.blkAt 2 rfl⟩,rfl⟩,?_⟩
       refine wpV_done ?_
       have LL:Hid ((loadVar 100 ⟨b1,0,none⟩).run Tryz.prog wc1= .ok (.agg (h.arr x)) wc1):=Lib.hid (run_loadVar_mid wc1 b1 0 100 (Array.toList (h.arr x)) _ (blk_range (ST36.out.blkAt 1 rfl)) Tryz.underlying100 rfl Tryz.infoHand)
       have LA:Hid ((asAddr (.pointer (some ⟨b1,0,none⟩))).run Tryz.prog wc1= .ok ⟨b1,0,none⟩ wc1):=Lib.hid (by simp [go_sem])
       go_wp2_with fail
       refine bodyPost_ret (v:= .tuple #[.agg (h.arr x), .slice (some ⟨ob,0,none⟩) 1 1]) (by simp [results,Tryz.results49,Sem.run_bind,Result.andThen_ok,LL.out,LA.out]) rfl ?_
       exact ⟨x,_,rfl,ST36.out.out (List.Sublist.cons_cons _ (List.nil_sublist _)) (inC (at_ 3 rfl) (inC (at_ 4 rfl) (inC (at_ 5 rfl) inN))),HG.out⟩
     case true=>
      obtain ⟨rfl,rfl,rfl⟩:ht=h'∧ot++[⟨n,4,false⟩]=o∧dt=dn:=by
       have hh:=HH.out
       rw [show hOnAsk h n high ds=(ht,ot++[⟨n,4,false⟩],dt) by unfold hOnAsk;rw [E1.out,if_neg (by decide),HM.out,if_pos rfl,HT.out,if_pos rfl]] at hh
       injection hh with a b
       injection b with b c
       exact ⟨a,b,c⟩
      clear HH E1 HM HT CT CS5
      go_upto_region 7 with fail
      obtain ⟨wd,hwd⟩:∃ x,x=w6.drew:=⟨_,rfl⟩
      have HWD:=Lib.hid hwd
      have ST33:=Lib.hid (show Sta W O p dt [⟨u,ht.arr xt,100⟩,⟨b1,handZ,100⟩,⟨b0,h.arr x,100⟩] [⟨81,8,ov,ot.length,houts ot⟩] (hrows ht xt (hrows h x [])) wd from hwd▸ST32.out.gr ((Fr.refl _ _).drew))
      clear ST32 hwd
      haveI:Nonempty (WC (fun w=>w.heap[u]?=some (.cells (ht.arr xt) 100 (0,0)))):=⟨⟨wd,ST33.out.blkAt 0 rfl⟩⟩
      refine wp_region_plan [3,4,5,6,7] (Plan.seq [0,1,2,3,4,5,6,7] .done) (fun w'=>∃ z:WC (fun w=>w.heap[u]?=some (.cells (ht.arr xt) 100 (0,0))),w'=z.val) (by kernel_rfl) (by kernel_rfl) (fun c a w d v h=>by cases d<;>exact h) (fun c a w d v h=>by cases d<;>exact h) (by rw [←HWD.out];exact ⟨⟨wd,ST33.out.blkAt 0 rfl⟩,rfl⟩) ?_
      rw [←HWD.out]
      clear HWD
      refine wpV_q (by simp only [gtA,gtZ]<;>rfl) (by rfl) (by rfl) ?_
      refine wpQuiet_loadH (by rfl) 100 _ (by rfl) u 0 (by rfl) (Array.toList (ht.arr xt)) _ (fun w ⟨z,hz⟩=>hz▸blk_range z.ok) Tryz.underlying100 rfl Tryz.infoHand ?_
      refine wpQuiet_nil ?_
      simp only [Act.put,List.setIfInBounds_toArray,List.set_cons_succ,List.set_cons_zero]
      refine wpV_q (by simp only [gtA,gtS,gtZ]<;>rfl) (by rfl) (by rfl) ?_
      go_big_quiet_step (fail)
      refine wpQuiet_nil ?_
      refine wpV_q (by simp only [gtA,gtS,gtZ]<;>rfl) (by rfl) (by rfl) ?_
      go_big_quiet_step (fail)
      refine wpQuiet_nil ?_
      refine wpV_e (by simp only [gtA,gtS,gtZ]<;>rfl) (by rfl) ?_
      go_wp2_with fail
      refine (CS4.out _).mono ?_
      rintro e wa ⟨rfl,f_⟩
      go_wp2_with fail
      have ST34:=Lib.hid (show Sta W O p dt [⟨u,ht.arr xt,100⟩,⟨b1,handZ,100⟩,⟨b0,h.arr x,100⟩] [⟨81,8,ov,ot.length,houts ot⟩] (hrows ht xt (hrows h x [])) wa from ST33.out.gr f_)
      clear ST33 f_
      refine ⟨⟨⟨wa,ST34.out.blkAt 0 rfl⟩,rfl⟩,?_⟩
      refine wpV_e (by simp only [gtA,gtS,gtZ]<;>rfl) (by rfl) ?_
      refine wpList_bldOutsH (by rfl) ?_
      refine wpList_nil ?_
      obtain ⟨wb,hw_⟩:∃ x,x=wa.alloc (.cells (Ho.arr ⟨n,4,false⟩) 81):=⟨_,rfl⟩
      obtain ⟨ob,hob_⟩:∃ b,b=wa.heap.size:=⟨_,rfl⟩
      rw [←hw_, ←hob_]
      have ST35:=Lib.hid (show Sta W O p dt [⟨u,ht.arr xt,100⟩,⟨b1,handZ,100⟩,⟨b0,h.arr x,100⟩] [⟨81,8, .slice (some ⟨ob,0,none⟩) 1 1,1,Ho.cells ⟨n,4,false⟩⟩,⟨81,8,ov,ot.length,houts ot⟩] (hrows ht xt (hrows h x [])) wb from hw_▸ST34.out.ownNew ((Fr.refl _ _).alloc _) (xs:=Ho.cells ⟨n,4,false⟩) (n:=1) (by rw [heap_alloc_if,if_pos hob_];rfl) (Nat.le_of_eq hob_.symm) rfl (by decide))
      clear ST34 hw_ hob_
      refine ⟨⟨⟨wb,ST35.out.blkAt 0 rfl⟩,rfl⟩,?_⟩
      simp only [Act.put,List.setIfInBounds_toArray,List.set_cons_succ,List.set_cons_zero]
      refine wpV_e (by simp only [gtA,gtS,gtZ]<;>rfl) (by rfl) ?_
      refine wpList_growOut (by rfl) _ _ (by rfl) ST35.out 1 0 rfl rfl (by rfl) (by rfl) (by rfl) (by have:=HFE.out;omega) ?_
      intro ow wc1 hst
      refine wpList_nil ?_
      have ST36:=Lib.hid (show Sta W O p dt [⟨u,ht.arr xt,100⟩,⟨b1,handZ,100⟩,⟨b0,h.arr x,100⟩] [⟨81,8, .slice (some ⟨ob,0,none⟩) 1 1,1,Ho.cells ⟨n,4,false⟩⟩,⟨81,8,ow,ot.length+1,houts ot++Ho.cells ⟨n,4,false⟩⟩] (hrows ht xt (hrows h x [])) wc1 from hst)
      clear hst ST35
      refine ⟨⟨⟨wc1,ST36.out.blkAt 0 rfl⟩,rfl⟩,?_⟩
      simp only [Act.put,List.setIfInBounds_toArray,List.set_cons_succ,List.set_cons_zero]
      refine wpV_e (by simp only [gtA,gtS,gtZ]<;>rfl) (by rfl) ?_
      refine wpList_storeW (vs:=ht.arr xt) (ST36.out.blkAt 1 rfl) (by rfl) 100 _ _ (by rfl) (by rfl) (by rfl) rfl Tryz.infoHand (by rw [←Array.all_toList];rfl) ?_
      intro wd1 f_ b_
      have ST37:=Lib.hid (show Sta W O p dt [⟨u,ht.arr xt,100⟩,⟨b1,ht.arr xt,100⟩,⟨b0,h.arr x,100⟩] [⟨81,8, .slice (some ⟨ob,0,none⟩) 1 1,1,Ho.cells ⟨n,4,false⟩⟩,⟨81,8,ow,ot.length+1,houts ot++Ho.cells ⟨n,4,false⟩⟩] (hrows ht xt (hrows h x [])) wd1 from ST36.out.store 1 rfl f_ b_)
      clear ST36 f_ b_
      refine wpList_nil ?_
      refine ⟨⟨⟨wd1,ST37.out.blkAt 0 rfl⟩,rfl⟩,?_⟩
      simp only [Act.put]
      refine wpV_e (by simp only [gtA,gtS,gtZ]<;>rfl) (by rfl) ?_
      go_wp2_with fail
      refine ⟨⟨⟨wd1,ST37.out.blkAt 0 rfl⟩,rfl⟩,?_⟩
      refine wpV_done ?_
      have LL:Hid ((loadVar 100 ⟨b1,0,none⟩).run Tryz.prog wd1= .ok (.agg (ht.arr xt)) wd1):=Lib.hid (run_loadVar_mid wd1 b1 0 100 (Array.toList (ht.arr xt)) _ (blk_range (ST37.out.blkAt 1 rfl)) Tryz.underlying100 rfl Tryz.infoHand)
      have LA:Hid ((asAddr (.pointer (some ⟨b1,0,none⟩))).run Tryz.prog wd1= .ok ⟨b1,0,none⟩ wd1):=Lib.hid (by simp [go_sem])
      go_wp2_with fail
      refine bodyPost_ret (v:= .tuple #[.agg (ht.arr xt),ow]) (by simp [results,Tryz.results49,Sem.run_bind,Result.andThen_ok,LL.out,LA.out]) rfl ?_
      have HL:=Lib.hid (show Sta W O p dt [] [⟨81,8,ow,ot.length+1,houts ot++Ho.cells ⟨n,4,false⟩⟩] (hrows ht xt []) wd1 from ST37.out.out (List.Sublist.cons _ (List.Sublist.refl _)) (inC (at_ 0 rfl) (inC (at_ 1 rfl) (inC (at_ 2 rfl) inN))))
      rw [houts_snoc] at HL
      exact ⟨xt,_,rfl,by rw [List.length_append];exact HL.out,HG31.out⟩
end
end Go.Proofs.YtelepohdfcjnfaaGreat
