/-
  TopFrames: send.
-/
import Derived.Test.YtelepohdfcjnfaaGreatZTfSt
import Derived.Test.YtelepohdfcjnfaaGreatZMsgSame
import Derived.Deep.CutRange
import Derived.Deep.CutBlock
namespace Go.Proofs.YtelepohdfcjnfaaGreat
set_option maxHeartbeats 16000000
set_option maxRecDepth 100000
section
open Go.RowKit Go.Proofs
theorem Tryz.infoTStr:(Tryz.prog.info? 9).map (fun i=>(i.zero,i.size,i.bytes))=some (some (.string ⟨#[]⟩),1,16):=by kernel_rfl
def strSz:Value→Nat
 | .string b=>b.size
 | _=>0
abbrev strL (P:List (List UInt8)):List Value:=P.map fun p=> .string ⟨p.toArray⟩
structure TfCut (Wb:World) (O:Ori) (dp:Value) (ds:List Int) (bf:Nat) (bo:Nat→Nat) (mb:Nat) (bs:Nat→Nat) (v:Nat→Value) (ca:Option Addr) (cc:Nat) (CU:List Int) (sp:Nat→List UInt8) (o:Nat→Ov) (x:Nat→OvP) (B':List Blk) (st:Nat→List Sm) (R:List Rw)
  (fr:List UInt8) (P:List (List UInt8)) (s:List UInt8) (vP:Value) (at2:Nat) (w:World):Prop where
 all:P.flatten++s=fr
 ne:∀ x∈P,x≠[]
 len:P.length+s.length≤fr.length
 hat:at2≤CU.length
 sta:Sta Wb O dp ds (tfB bf bo mb bs v ca cc CU at2 sp o x++B') (⟨9,1,vP,P.length,strL P⟩::ownF st v) R w
theorem lv_mem {i:Nat} (h:i<4):(i:Int)+1∈lv4:=by
 have:i=0∨i=1∨i=2∨i=3:=by omega
 rcases this with rfl | rfl | rfl | rfl<;>decide
theorem upq_at {q:Int→Int→List PIt} {a b i j:Int} (l:List PIt) (h:¬ (i=a∧j=b)):upq q a b l i j=q i j:=if_neg h
theorem upq_it (q:Int→Int→List PIt) (a b:Int) (l:List PIt):upq q a b l a b=l:=if_pos ⟨rfl,rfl⟩
theorem TfLinks.brk {q:Int→Int→List PIt} {sp:Nat→List UInt8} {st:Nat→List Sm} {Lw:Nat→Nat→List OLet} {K K':Nat} (h:TfLinks q sp st Lw K) {p t:Nat} (hpt:p≠t) (hK:K≤K'):
  TfLinks (upq (upq q ((p:Int)+1) ((t:Int)+1) [⟨true,[]⟩]) ((t:Int)+1) ((p:Int)+1) [⟨true,[]⟩]) sp st (upd2 (upd2 Lw p t [none]) t p [none]) K':=by
 refine ⟨fun i j hi hj=>?_,fun i hi=>?_,fun i j=>?_,fun m=>Nat.le_trans (h.few m) hK⟩
 ·by_cases e1:i=t∧j=p
  ·obtain ⟨rfl,rfl⟩:=e1
   rw [upq_it,upd2_same]
   exact Link.broken _ _
  ·rw [upq_at _ (by omega),upd2_other _ _ e1]
   by_cases e2:i=p∧j=t
   ·obtain ⟨rfl,rfl⟩:=e2
    rw [upq_it,upd2_same]
    exact Link.broken _ _
   ·rw [upq_at _ (by omega),upd2_other _ _ e2]
    exact h.link i j hi hj
 ·rw [upq_at _ (by omega),upq_at _ (by omega)]
  exact h.self i hi
 ·unfold upq
  repeat' split
  ·simp
  ·simp
  ·exact h.max i j
theorem TfLinks.push {q:Int→Int→List PIt} {sp:Nat→List UInt8} {st:Nat→List Sm} {Lw:Nat→Nat→List OLet} {K:Nat} (h:TfLinks q sp st Lw K) {p t:Nat} (hp:p<4) (ht:t<4) (hpt:p≠t) {y:Sm} {P:List (List UInt8)} (hP:Gr1 (y.m,P)) (hl:P.length+(q ((p:Int)+1) ((t:Int)+1)).length≤64):
  TfLinks (upq q ((p:Int)+1) ((t:Int)+1) (q ((p:Int)+1) ((t:Int)+1)++pcs P)) sp (upd st (p * 4+t) (st (p * 4+t)++[y])) (upd2 Lw p t (Lw p t++[some y.m])) (K+1):=by
 refine ⟨fun i j hi hj=>?_,fun i hi=>?_,fun i j=>?_,fun m=>?_⟩
 ·by_cases e1:i=p∧j=t
  ·obtain ⟨rfl,rfl⟩:=e1
   rw [upq_it,upd2_same,upd_same,List.map_append]
   exact (h.link i j hi hj).push hP
  ·rw [upq_at _ (by omega),upd2_other _ _ e1,upd_other _ _ (by omega)]
   exact h.link i j hi hj
 ·rw [upq_at _ (by omega)]
  exact h.self i hi
 ·unfold upq
  split
  ·rw [List.length_append,List.length_map];omega
  ·exact h.max i j
 ·by_cases e:m=p * 4+t
  ·subst e
   rw [upd_same,List.length_append]
   have:=h.few (p * 4+t)
   simp only [List.length_cons,List.length_nil]
   omega
  ·rw [upd_other _ _ e]
   have:=h.few m
   omega
theorem rowRange8 {W:World} {O:Ori} {q:Value} {ds:List Int} {B:List Blk} {L:List Ow} {R:List Rw} {w:World} {br oo c j:Nat} {outs:List Om} {z:Om} (h:Sta W O q ds B L R w) (hm:(⟨some ⟨br,oo,none⟩,outs.length,c,oms outs⟩:Rw)∈R) {hj:j<outs.length} (hz:z=outs[j]) (_:j<outs.length):
  w.rangeAt br (oo+j * 8+1) [.int .i64 z.m.kind, .int .i64 z.m.node, .int .i64 z.m.walk, .bool z.m.high, .slice z.na z.m.nodes.length z.nc, .slice none 0 0, .slice none 0 0]:=by
 obtain ⟨b2,o2,e,h8⟩:=SlA.elem (f:=Om.cells) (n:=8) (fun _=>rfl) (by decide) (h.row _ hm) j hj
 injection e with e
 injection e with e1 e2
 subst e1 e2 hz
 intro i u hi
 have:=h8 (i+1) u hi
 rw [←Nat.add_assoc,Nat.add_right_comm] at this
 exact this
def TfPush (Wb:World) (dp:Value) (ds:List Int) (bf:Nat) (bo:Nat→Nat) (mb:Nat) (bs:Nat→Nat) (v:Nat→Value) (ca:Option Addr) (cc:Nat) (CU:List Int) (at2:Nat) (sp:Nat→List UInt8) (o:Nat→Ov) (x:Nat→OvP) (B':List Blk) (st:Nat→List Sm) (R:List Rw)
  (lb qb:Nat) (q:Int→Int→List PIt) (p t:Nat) (P:List (List UInt8)) (gp cp:Nat) (j:Nat) (w:World):Prop:=
 ∃ O ps,MeshR w mb lb qb lv4 ps (upq q ((p:Int)+1) ((t:Int)+1) (q ((p:Int)+1) ((t:Int)+1)++pcs (P.take j)))∧
  Sta Wb O dp ds (tfB bf bo mb bs v ca cc CU at2 sp o x++B') (⟨9,1, .slice (some ⟨gp,0,none⟩) P.length cp,P.length,strL P⟩::ownF st v) R w
theorem upq_twice (q:Int→Int→List PIt) (a b:Int) (l k:List PIt):upq (upq q a b l) a b k=upq q a b k:=by
 funext i j
 unfold upq
 split<;>rfl
theorem frameQ_any {N:Nat} (hN:N≤65535) (m:Mq) (a:Option Addr) (c:Nat) (W:World) (hm:MOk N m) (h:SlA W a m.nodes.length c (ints m.nodes)):
  Calls Tryz.prog 24 #[.agg (m.arr a c)] W fun e w'=>e= .returned (.tuple #[.string ⟨m.fr.toArray⟩, .int .i64 0])∧Gr W w':=by
 have hat:MsgAt W m.msg ⟨a,c,none,0,none,0⟩:=⟨by
  have e:m.nodes.flatMap MInt.cells=ints m.nodes:=by
   generalize m.nodes=l
   induction l with
   | nil=>rfl
   | cons x r ih=>rw [List.flatMap_cons,ih];rfl
  show SlA W a m.nodes.length c (m.nodes.flatMap MInt.cells)
  rw [e]
  exact h,SlA.nil W,SlA.nil W⟩
 have hc:=mq_code hN hm
 refine (frame_any m.msg ⟨a,c,none,0,none,0⟩ W (mq_fits m) hat).mono ?_
 rintro e w' ⟨rfl,f⟩
 refine ⟨?_,f⟩
 rw [hc]
 unfold Msg.frame
 rw [if_pos hc]
theorem tfSend_any (W0:World) (bf:Nat) (dp:Value) (bo:Nat→Nat) (mb:Nat) (ca:Option Addr) (cc:Nat) (CU:List Int) (K p:Nat) (outs:List Om) (a:Option Addr) (c:Nat) (B':List Blk) (R0:List Rw) (W:World) (hp:p<4)
  (h:TfSt W0 bf dp bo mb ca cc CU K p (outs.map Om.m) B' R0 W) (har:(⟨a,outs.length,c,oms outs⟩:Rw)∈R0) (hor:∀ y∈outs,y.row∈R0) (hob:∀ y∈outs,OutOk 4 p y.m) (hl:Late (outs.map Om.m)) (hK:K+outs.length≤100000) (hn:outs.length≤70):
  Calls Tryz.prog 10 #[.pointer (some ⟨bf,0,none⟩), .int .i64 p, .slice a outs.length c] W fun e w'=>e= .returned (.bool true)∧TfSt W0 bf dp bo mb ca cc CU (K+outs.length) p [] B' R0 w':=by
 have HAR:=Lib.hid har
 have HOR:=Lib.hid hor
 have HOB:=Lib.hid hob
 have HL:=Lib.hid hl
 have HK:=Lib.hid hK
 have H0:=Lib.hid (show TfSt W0 bf dp bo mb ca cc CU (K+0) p ((outs.drop 0).map Om.m) B' R0 W from h)
 have m1:outs.length≤c∧c≤9223372036854775807:=by
  obtain ⟨Wb,O,o,x,bs,v,ds,R,lb,qb,ps,q,sp,st,Lw,at_,H⟩:=h
  exact ⟨(H.sta.row _ (H.r0 _ har)).le,(H.sta.row _ (H.r0 _ har)).max⟩
 clear h har hor hob hl hK
 go_enter Tryz.func10,Tryz.ntmps10
 go_upto_region 2 with fail
 go_loopw [7] (fun iv wr=>∃ k:Nat,iv= .int .i64 k∧k≤outs.length∧TfSt W0 bf dp bo mb ca cc CU (K+k) p ((outs.drop k).map Om.m) B' R0 wr) (fun iv _=>outs.length-(intOf iv).toNat)
 case atStart=>exact ⟨0,rfl,Nat.zero_le _,H0.out⟩
 case round=>
  obtain ⟨k,rfl,hk,hst⟩:=hrel
  have HST:=Lib.hid hst
  clear hst H0
  by_cases hkl:k<outs.length
  ·obtain ⟨Wb,O,o,x,bs,v,ds,R,lb,qb,ps,q,sp,st,Lw,at_,H⟩:=HST.out
   have HI:=Lib.hid H
   clear H HST
   obtain ⟨br,oo,rfl,ho8⟩:=SlA.elem (f:=Om.cells) (n:=8) (fun _=>rfl) (by decide) (HI.out.sta.row _ (HI.out.r0 _ HAR.out)) k hkl
   have hb:=HOB.out _ (List.getElem_mem hkl)
   have HROW:=Lib.hid (HI.out.r0 _ (HOR.out _ (List.getElem_mem hkl)))
   have hdr:outs.drop k=outs[k]::outs.drop (k+1):=List.drop_eq_getElem_cons hkl
   obtain ⟨z,hz⟩:∃ z,z=outs[k]:=⟨_,rfl⟩
   rw [←hz] at hb HROW ho8 hdr
   have HZ:=Lib.hid hz
   have HDR:=Lib.hid hdr
   have y0:wr.cell? ⟨br,oo+k * 8,none⟩=some (.int .i64 z.m.who):=ho8 0 _ rfl
   have HRG:=Lib.hid (show wr.rangeAt br (oo+k * 8+1) [.int .i64 z.m.kind, .int .i64 z.m.node, .int .i64 z.m.walk, .bool z.m.high, .slice z.na z.m.nodes.length z.nc, .slice none 0 0, .slice none 0 0] from fun i u hi=>by have:=ho8 (i+1) u hi;rw [←Nat.add_assoc,Nat.add_right_comm] at this;exact this)
   have HMS:=Lib.hid hb.msg
   obtain ⟨to_,hto⟩:∃ t:Nat,z.m.who-1=(t:Int):=⟨(z.m.who-1).toNat,by have:=hb.who;omega⟩
   have t4:to_<4:=by have:=hb.who;omega
   have tp:p≠to_:=by have:=hb.who;omega
   have w1:1≤z.m.who∧z.m.who≤4:=by have:=hb.who;omega
   have HTO:=Lib.hid (show z.m.who=(to_:Int)+1 by omega)
   clear hz ho8 hb hdr
   have CE:=Lib.hid (frameQ_any (N:=4) (by decide) z.m.mq z.na z.nc wr HMS.out (HI.out.sta.row _ HROW.out))
   go_upto_region 5 with fail
   clear y0
   go_wp2_with (refine wpList_load_mid (by rfl) 76 _ (by rfl) br (oo+k * 8+1) (by rfl) [.int .i64 z.m.kind, .int .i64 z.m.node, .int .i64 z.m.walk, .bool z.m.high, .slice z.na z.m.nodes.length z.nc, .slice none 0 0, .slice none 0 0] _ HRG.out Tryz.underlying76 rfl Tryz.infoMsg7 ?_)
   refine CE.out.mono ?_
   rintro e w2 ⟨rfl,f2⟩
   have c1:decide ((to_:Int)<0)=false:=decide_eq_false (by omega)
   have c2:decide ((4:Int)≤(to_:Int))=false:=decide_eq_false (by omega)
   have c3:((to_:Int)==(p:Int))=false:=by simp;omega
   have F2:=Lib.hid f2
   clear f2 CE
   generalize hfr:z.m.mq.fr=fr at *
   have HFR:=Lib.hid hfr
   clear hfr
   have T2:=Lib.hid (show TfCut Wb (Ori.at w2) dp ds bf bo mb bs v ca cc CU sp o x B' st R fr [] fr (.slice none 0 0) at_ w2 from ⟨rfl,fun _ h=>(nomatch h),by simp,HI.out.hat,((HI.out.sta.gr F2.out).reK).ownNil 9 1⟩)
   have M2:=Lib.hid (HI.out.mesh.gr F2.out)
   have m38:(38:Nat)<39:=by decide
   go_upto_region 9 with fail
   clear c1 c2 c3 F2 HRG
   go_loopw [9,11] (fun sv pv w=>∃ (P:List (List UInt8)) (s:List UInt8) (at2:Nat),sv= .string ⟨s.toArray⟩∧TfCut Wb (Ori.at w2) dp ds bf bo mb bs v ca cc CU sp o x B' st R fr P s pv at2 w) (fun sv _ _=>strSz sv)
   case atStart=>exact ⟨[],fr,at_,rfl,T2.out⟩
   case round=>
    obtain ⟨P,s,at2,rfl,hcut⟩:=hrel
    have HC:=Lib.hid hcut
    clear hcut T2
    by_cases hs:s=[]
    ·subst hs
     have hfl:P.flatten=fr:=by have:=HC.out.all;rwa [List.append_nil] at this
     have hP0:0<P.length:=by
      cases P with
      | nil=>
       have h1:=HFR.out
       rw [←hfl] at h1
       have h2:=congrArg List.length h1
       rw [frB_length] at h2
       simp at h2
      | cons=>simp
     have HG:=Lib.hid (show Gr1 (z.m.mq,P) from ⟨by rw [hfl];exact HFR.out.symm,fun e=>by have e2:P=[]:=e;rw [e2] at hP0;simp at hP0,HC.out.ne⟩)
     have hPl:P.length≤4098:=by
      have h1:=HC.out.len
      have h2:=HFR.out
      have h3:=fr_len HMS.out
      rw [h2] at h3
      omega
     obtain ⟨gp,cp,rfl⟩:=HC.out.sta.ownForm 0 rfl hP0
     have y1:wr.cell? ⟨bf,4,none⟩=some (.pointer (some ⟨mb,0,none⟩)):=HC.out.sta.cell 0 4 rfl (tf_m ..)
     have M3:=Lib.hid (M2.out.ofKp HC.out.sta.kp)
     obtain ⟨hcp1,hcp2⟩:P.length≤cp∧cp≤9223372036854775807:=by
      obtain ⟨a',c',e9,h9, -⟩:=SlA.of_own (HC.out.sta.ownAt 0 rfl)
      injection e9 with _ _ e9
      have h1:=h9.le
      have h2:=h9.max
      omega
     have hql:=HI.out.lk.max ((p:Int)+1) ((to_:Int)+1)
     have CL:=Lib.hid (meshLen_any M3.out ((p:Int)+1) ((to_:Int)+1))
     obtain ⟨nl,hnl⟩:∃ n,n=(q ((p:Int)+1) ((to_:Int)+1)).length:=⟨_,rfl⟩
     rw [←hnl] at hql CL
     have HNL:=Lib.hid hnl
     clear hnl hfl
     go_wp2_with fail
     refine CL.out.mono ?_
     rintro e w' ⟨rfl,rfl⟩
     clear CL
     by_cases hroom:P.length+nl≤64
     ·have hro:decide ((64:Int)-(nl:Int)<(P.length:Int))=false:=decide_eq_false (by omega)
      have HM:=Lib.hid (show p * 4+to_<16 by omega)
      have HLW:=Lib.hid (show (st (p * 4+to_)).length≤100000 by have h1:=HI.out.lk.few (p * 4+to_);have h2:=HK.out;omega)
      go_upto_region 19 with fail
      clear hro y1
      obtain ⟨w3,hwd⟩:∃ x,x=wr.drew:=⟨_,rfl⟩
      have HWD:=Lib.hid hwd
      have S3:=Lib.hid (show Sta Wb (Ori.at w2) dp ds (tfB bf bo mb bs v ca cc CU at2 sp o x++B') (⟨9,1, .slice (some ⟨gp,0,none⟩) P.length cp,P.length,strL P⟩::ownF st v) R w3 from hwd▸HC.out.sta.gr ((Fr.refl _ _).drew))
      have HAT:=Lib.hid HC.out.hat
      clear hwd HC M3
      haveI:Nonempty (WC (fun w=>w.cell? ⟨bf,21+p * 4+to_,none⟩=some (v (p * 4+to_))∧w.rangeAt br (oo+k * 8+1) [.int .i64 z.m.kind, .int .i64 z.m.node, .int .i64 z.m.walk, .bool z.m.high, .slice z.na z.m.nodes.length z.nc, .slice none 0 0, .slice none 0 0])):=⟨⟨w3,⟨(by rw [Nat.add_assoc];exact S3.out.cell 0 _ rfl (tf_v bo mb bs v _ _ HM.out)),(rowRange8 S3.out (HI.out.r0 _ HAR.out) HZ.out hkl)⟩⟩⟩
      have z0:∀ z:WC (fun w=>w.cell? ⟨bf,21+p * 4+to_,none⟩=some (v (p * 4+to_))∧w.rangeAt br (oo+k * 8+1) [.int .i64 z.m.kind, .int .i64 z.m.node, .int .i64 z.m.walk, .bool z.m.high, .slice z.na z.m.nodes.length z.nc, .slice none 0 0, .slice none 0 0]),z.val.cell? ⟨bf,21+p * 4+to_,none⟩=some (v (p * 4+to_)):=fun z=>z.ok.1
      refine wp_region_lastO 22 [16,17] [] [0,1,2,3,4,5,6,7,8,9,10,11,12,13,14,15,16,17,18,19,20,21] (fun w'=>∃ z:WC (fun w=>w.cell? ⟨bf,21+p * 4+to_,none⟩=some (v (p * 4+to_))∧w.rangeAt br (oo+k * 8+1) [.int .i64 z.m.kind, .int .i64 z.m.node, .int .i64 z.m.walk, .bool z.m.high, .slice z.na z.m.nodes.length z.nc, .slice none 0 0, .slice none 0 0]),w'=z.val) (by kernel_rfl) (by kernel_rfl) (fun c a w d v h=>by cases d<;>exact h) (fun c a w d v h=>by cases d<;>exact h) (by rw [←HWD.out];exact ⟨⟨w3,⟨(by rw [Nat.add_assoc];exact S3.out.cell 0 _ rfl (tf_v bo mb bs v _ _ HM.out)),(rowRange8 S3.out (HI.out.r0 _ HAR.out) HZ.out hkl)⟩⟩,rfl⟩) ?_
      rw [←HWD.out]
      clear HWD
      simp only [List.take]
      refine wpT_q (by simp only [gtA,gtZ]<;>rfl) (by rfl) (by rfl) ?_
      go_big_quiet_step (fail)
      refine wpQuiet_nil ?_
      refine wpT_q (by simp only [gtA,gtS,gtZ]<;>rfl) (by rfl) (by rfl) ?_
      go_big_quiet_step (fail)
      refine wpQuiet_nil ?_
      refine wpT_q (by simp only [gtA,gtS,gtZ]<;>rfl) (by rfl) (by rfl) ?_
      go_big_quiet_step (fail)
      refine wpQuiet_nil ?_
      refine wpT_q (by simp only [gtA,gtS,gtZ]<;>rfl) (by rfl) (by rfl) ?_
      go_big_quiet_step (fail)
      refine wpQuiet_nil ?_
      refine wpT_q (by simp only [gtA,gtS,gtZ]<;>rfl) (by rfl) (by rfl) ?_
      go_big_quiet_step (fail)
      refine wpQuiet_nil ?_
      refine wpT_q (by simp only [gtA,gtS,gtZ]<;>rfl) (by rfl) (by rfl) ?_
      go_big_quiet_step (fail)
      refine wpQuiet_nil ?_
      refine wpT_q (by simp only [gtA,gtS,gtZ]<;>rfl) (by rfl) (by rfl) ?_
      go_big_quiet_step (fail)
      refine wpQuiet_nil ?_
      refine wpT_q (by simp only [gtA,gtS,gtZ]<;>rfl) (by rfl) (by rfl) ?_
      go_big_quiet_step (fail)
      refine wpQuiet_nil ?_
      refine wpT_q (by simp only [gtA,gtS,gtZ]<;>rfl) (by rfl) (by rfl) ?_
      go_big_quiet_step (fail)
      refine wpQuiet_nil ?_
      refine wpT_q (by simp only [gtA,gtS,gtZ]<;>rfl) (by rfl) (by rfl) ?_
      go_big_quiet_step (fail)
      refine wpQuiet_nil ?_
      refine wpT_q (by simp only [gtA,gtS,gtZ]<;>rfl) (by rfl) (by rfl) ?_
      go_big_quiet_step (fail)
      refine wpQuiet_nil ?_
      refine wpT_q (by simp only [gtA,gtS,gtZ]<;>rfl) (by rfl) (by rfl) ?_
      go_big_quiet_step (fail)
      refine wpQuiet_nil ?_
      refine wpT_q (by simp only [gtA,gtS,gtZ]<;>rfl) (by rfl) (by rfl) ?_
      go_big_quiet_step (fail)
      refine wpQuiet_nil ?_
      refine wpT_q (by simp only [gtA,gtS,gtZ]<;>rfl) (by rfl) (by rfl) ?_
      go_big_quiet_step (fail)
      refine wpQuiet_nil ?_
      refine wpT_q (by simp only [gtA,gtS,gtZ]<;>rfl) (by rfl) (by rfl) ?_
      go_big_quiet_step (fail)
      refine wpQuiet_nil ?_
      refine wpT_q (by simp only [gtA,gtS,gtZ]<;>rfl) (by rfl) (by rfl) ?_
      refine wpQuiet_loadH (by rfl) 76 _ (by rfl) br (oo+k * 8+1) (by rfl) [.int .i64 z.m.kind, .int .i64 z.m.node, .int .i64 z.m.walk, .bool z.m.high, .slice z.na z.m.nodes.length z.nc, .slice none 0 0, .slice none 0 0] _ (fun w ⟨z,hz⟩=>hz▸z.ok.2) Tryz.underlying76 rfl Tryz.infoMsg7 ?_
      refine wpQuiet_nil ?_
      simp only [Act.put,List.setIfInBounds_toArray,List.set_cons_succ,List.set_cons_zero]
      refine wpT_e (by simp only [gtA,gtS,gtZ]<;>rfl) (by rfl) ?_
      go_wp2_with fail
      obtain ⟨w4,hw_⟩:∃ x,x=w3.alloc (.cells #[.int .i64 z.m.kind, .int .i64 z.m.node, .int .i64 z.m.walk, .bool z.m.high, .slice z.na z.m.nodes.length z.nc, .slice none 0 0, .slice none 0 0] 76):=⟨_,rfl⟩
      obtain ⟨nb,hob_⟩:∃ b,b=w3.heap.size:=⟨_,rfl⟩
      rw [←hw_, ←hob_]
      have S4:=Lib.hid (show Sta Wb (Ori.at w2) dp ds (tfB bf bo mb bs v ca cc CU at2 sp o x++B') (⟨76,7, .slice (some ⟨nb,0,none⟩) 1 1,1,[.int .i64 z.m.kind, .int .i64 z.m.node, .int .i64 z.m.walk, .bool z.m.high, .slice z.na z.m.nodes.length z.nc, .slice none 0 0, .slice none 0 0]⟩::⟨9,1, .slice (some ⟨gp,0,none⟩) P.length cp,P.length,strL P⟩::ownF st v) R w4 from hw_▸S3.out.ownNew ((Fr.refl _ _).alloc _) (by rw [heap_alloc_if,if_pos hob_]) (Nat.le_of_eq hob_.symm) rfl (by decide))
      clear S3 hw_ hob_
      refine ⟨⟨⟨w4,⟨(by rw [Nat.add_assoc];exact S4.out.cell 0 _ rfl (tf_v bo mb bs v _ _ HM.out)),(rowRange8 S4.out (HI.out.r0 _ HAR.out) HZ.out hkl)⟩⟩,rfl⟩,?_⟩
      refine wpT_e (by simp only [gtA,gtS,gtZ]<;>rfl) (by rfl) ?_
      refine wpList_growT (by rfl) _ _ 34 76 7 104 msgZeroV Tryz.underlying34 Tryz.infoMsg rfl (by decide) (by decide) (by rfl) S4.out (p * 4+to_+2) (by rw [List.getElem?_cons_succ,List.getElem?_cons_succ];exact ownF_at st v HM.out) (by rfl) (by rfl) (own_add (S4.out.ownAt 0 rfl)) (by rfl) rfl (by have:=HLW.out;omega) ?_
      intro v7 w5 hst
      refine wpList_nil ?_
      have S5:=Lib.hid (show Sta Wb (Ori.at w2) dp ds (tfB bf bo mb bs v ca cc CU at2 sp o x++B') (⟨9,1, .slice (some ⟨gp,0,none⟩) P.length cp,P.length,strL P⟩::(ownF st v).set (p * 4+to_) ⟨76,7,v7,(st (p * 4+to_)).length+1,sms (st (p * 4+to_))++[.int .i64 z.m.kind, .int .i64 z.m.node, .int .i64 z.m.walk, .bool z.m.high, .slice z.na z.m.nodes.length z.nc, .slice none 0 0, .slice none 0 0]⟩) R w5 from hst.less (List.Sublist.cons _ (List.Sublist.refl _)) (fun _ h=>h))
      clear hst S4
      refine ⟨⟨⟨w5,⟨(by rw [Nat.add_assoc];exact S5.out.cell 0 _ rfl (tf_v bo mb bs v _ _ HM.out)),(rowRange8 S5.out (HI.out.r0 _ HAR.out) HZ.out hkl)⟩⟩,rfl⟩,?_⟩
      simp only [Act.put,List.setIfInBounds_toArray,List.set_cons_succ,List.set_cons_zero]
      refine wpT_q (by simp only [gtA,gtS,gtZ]<;>rfl) (by rfl) (by rfl) ?_
      go_big_quiet_step (fail)
      refine wpQuiet_nil ?_
      refine wpT_q (by simp only [gtA,gtS,gtZ]<;>rfl) (by rfl) (by rfl) ?_
      go_big_quiet_step (fail)
      refine wpQuiet_nil ?_
      refine wpT_q (by simp only [gtA,gtS,gtZ]<;>rfl) (by rfl) (by rfl) ?_
      go_big_quiet_step (fail)
      refine wpQuiet_nil ?_
      refine wpT_q (by simp only [gtA,gtS,gtZ]<;>rfl) (by rfl) (by rfl) ?_
      go_big_quiet_step (fail)
      refine wpQuiet_nil ?_
      clear this z0
      refine wpT_nil ?_
      simp only [lastQ,List.drop]
      obtain ⟨a7,c7,hv7, -, -, -⟩:=SlA.of_own (S5.out.ownAt (p * 4+to_+1) (by rw [List.getElem?_cons_succ,List.getElem?_set_self (by unfold ownF;rw [List.length_map,List.length_range];exact HM.out)]))
      subst hv7
      have HL2:=Lib.hid (show ownF (upd st (p * 4+to_) (st (p * 4+to_)++[⟨z.m.mq,z.na,z.nc⟩])) (upd v (p * 4+to_) (.slice a7 ((st (p * 4+to_)).length+1) c7))=(ownF st v).set (p * 4+to_) ⟨76,7, .slice a7 ((st (p * 4+to_)).length+1) c7,(st (p * 4+to_)).length+1,sms (st (p * 4+to_))++[.int .i64 z.m.kind, .int .i64 z.m.node, .int .i64 z.m.walk, .bool z.m.high, .slice z.na z.m.nodes.length z.nc, .slice none 0 0, .slice none 0 0]⟩ by
       rw [←ownF_set,sms_snoc,List.length_append]
       rfl)
      have zc:w5.cell? ⟨bf,21+p * 4+to_,none⟩=some (v (p * 4+to_)):=by rw [Nat.add_assoc];exact S5.out.cell 0 _ rfl (tf_v bo mb bs v _ _ HM.out)
      have zf:w5.frozen? ⟨bf,21+p * 4+to_,none⟩=false:=S5.out.froz 0 _ rfl
      go_wp2_with fail
      clear zc zf
      have H6:Hid (TfPush Wb dp ds bf bo mb bs (upd v (p * 4+to_) (.slice a7 ((st (p * 4+to_)).length+1) c7)) ca cc CU at2 sp o x B' (upd st (p * 4+to_) (st (p * 4+to_)++[⟨z.m.mq,z.na,z.nc⟩])) R lb qb q p to_ P gp cp 0 (w5.setCell ⟨bf,21+p * 4+to_,none⟩ (.slice a7 ((st (p * 4+to_)).length+1) c7))):=Lib.hid (by
       have h1:=S5.out.setC 0 rfl (21+p * 4+to_) (.slice a7 ((st (p * 4+to_)).length+1) c7) (by rw [wsN_size];have:=HM.out;omega)
       rw [←HL2.out,Nat.add_assoc,tf_putv bo mb bs v _ _ HM.out] at h1
       refine ⟨_,ps,?_,by rw [Nat.add_assoc];exact h1⟩
       rw [show pcs (P.take 0)=[] by simp,List.append_nil,upq_same,Nat.add_assoc]
       exact M2.out.ofKp h1.kp)
      clear S5 HL2
      generalize w5.setCell ⟨bf,21+p * 4+to_,none⟩ (.slice a7 ((st (p * 4+to_)).length+1) c7)=w6 at *
      go_loopw [13] (fun iv w=>∃ j:Nat,iv= .int .i64 j∧j≤P.length∧TfPush Wb dp ds bf bo mb bs (upd v (p * 4+to_) (.slice a7 ((st (p * 4+to_)).length+1) c7)) ca cc CU at2 sp o x B' (upd st (p * 4+to_) (st (p * 4+to_)++[⟨z.m.mq,z.na,z.nc⟩])) R lb qb q p to_ P gp cp j w) (fun iv _=>P.length-(intOf iv).toNat)
      case atStart=>exact ⟨0,rfl,Nat.zero_le _,H6.out⟩
      case round=>
       obtain ⟨j,rfl,hj,hpu⟩:=hrel
       have HPU:=Lib.hid hpu
       clear hpu H6
       by_cases hjl:j<P.length
       ·obtain ⟨O6,ps6,m6,s6⟩:=HPU.out
        have M6:=Lib.hid m6
        have S6:=Lib.hid s6
        clear HPU m6 s6
        obtain ⟨pj,hpj⟩:∃ y,y=P[j]:=⟨_,rfl⟩
        have HPJ:=Lib.hid hpj
        clear hpj
        go_upto_region 23 with fail
        obtain ⟨wd,hwd⟩:∃ x,x=wr.drew:=⟨_,rfl⟩
        have HWD:=Lib.hid hwd
        have S7:=Lib.hid (show Sta Wb O6 dp ds (tfB bf bo mb bs (upd v (p * 4+to_) (.slice a7 ((st (p * 4+to_)).length+1) c7)) ca cc CU at2 sp o x++B') (⟨9,1, .slice (some ⟨gp,0,none⟩) P.length cp,P.length,strL P⟩::ownF (upd st (p * 4+to_) (st (p * 4+to_)++[⟨z.m.mq,z.na,z.nc⟩])) (upd v (p * 4+to_) (.slice a7 ((st (p * 4+to_)).length+1) c7))) R wd from hwd▸S6.out.gr ((Fr.refl _ _).drew))
        have M7:=Lib.hid (show MeshR wd mb lb qb lv4 ps6 _ from hwd▸M6.out.gr ((Fr.refl _ _).drew))
        have e1:wd.cell? ⟨bf,4,none⟩=some (.pointer (some ⟨mb,0,none⟩)):=S7.out.cell 0 4 rfl (tf_m ..)
        have e2:wd.cell? ⟨gp,j,none⟩=some (.string ⟨pj.toArray⟩):=(S7.out.ownCell 0 rfl j (by rw [List.getElem?_map,List.getElem?_eq_getElem hjl, ←HPJ.out];rfl)).1
        clear hwd S6 M6
        haveI:Nonempty (WC (fun w=>w.cell? ⟨bf,4,none⟩=some (.pointer (some ⟨mb,0,none⟩))∧w.cell? ⟨gp,j,none⟩=some (.string ⟨pj.toArray⟩))):=⟨⟨wd,e1,e2⟩⟩
        have z1:∀ z:WC (fun w=>w.cell? ⟨bf,4,none⟩=some (.pointer (some ⟨mb,0,none⟩))∧w.cell? ⟨gp,j,none⟩=some (.string ⟨pj.toArray⟩)),z.val.cell? ⟨bf,4,none⟩=some (.pointer (some ⟨mb,0,none⟩)):=fun z=>z.ok.1
        have z2:∀ z:WC (fun w=>w.cell? ⟨bf,4,none⟩=some (.pointer (some ⟨mb,0,none⟩))∧w.cell? ⟨gp,j,none⟩=some (.string ⟨pj.toArray⟩)),z.val.cell? ⟨gp,j,none⟩=some (.string ⟨pj.toArray⟩):=fun z=>z.ok.2
        refine wp_region_lastO 12 [] [] [0,1,2,3,4,5,6,7,8,9,10,11] (fun w'=>∃ z:WC (fun w=>w.cell? ⟨bf,4,none⟩=some (.pointer (some ⟨mb,0,none⟩))∧w.cell? ⟨gp,j,none⟩=some (.string ⟨pj.toArray⟩)),w'=z.val) (by kernel_rfl) (by kernel_rfl) (fun c a w d v h=>by cases d<;>exact h) (fun c a w d v h=>by cases d<;>exact h) (by rw [←HWD.out];exact ⟨⟨wd,e1,e2⟩,rfl⟩) ?_
        rw [←HWD.out]
        clear HWD e1 e2
        simp only [List.take]
        refine wpT_q (by simp only [gtA,gtZ]<;>rfl) (by rfl) (by rfl) ?_
        go_big_quiet_step (fail)
        refine wpQuiet_nil ?_
        refine wpT_q (by simp only [gtA,gtS,gtZ]<;>rfl) (by rfl) (by rfl) ?_
        go_big_quiet_step (fail)
        refine wpQuiet_nil ?_
        refine wpT_q (by simp only [gtA,gtS,gtZ]<;>rfl) (by rfl) (by rfl) ?_
        go_big_quiet_step (fail)
        refine wpQuiet_nil ?_
        refine wpT_q (by simp only [gtA,gtS,gtZ]<;>rfl) (by rfl) (by rfl) ?_
        go_big_quiet_step (fail)
        refine wpQuiet_nil ?_
        refine wpT_q (by simp only [gtA,gtS,gtZ]<;>rfl) (by rfl) (by rfl) ?_
        go_big_quiet_step (fail)
        refine wpQuiet_nil ?_
        refine wpT_q (by simp only [gtA,gtS,gtZ]<;>rfl) (by rfl) (by rfl) ?_
        go_big_quiet_step (fail)
        refine wpQuiet_nil ?_
        refine wpT_q (by simp only [gtA,gtS,gtZ]<;>rfl) (by rfl) (by rfl) ?_
        go_big_quiet_step (fail)
        refine wpQuiet_nil ?_
        refine wpT_q (by simp only [gtA,gtS,gtZ]<;>rfl) (by rfl) (by rfl) ?_
        go_big_quiet_step (fail)
        refine wpQuiet_nil ?_
        refine wpT_q (by simp only [gtA,gtS,gtZ]<;>rfl) (by rfl) (by rfl) ?_
        go_big_quiet_step (fail)
        refine wpQuiet_nil ?_
        refine wpT_q (by simp only [gtA,gtS,gtZ]<;>rfl) (by rfl) (by rfl) ?_
        go_big_quiet_step (fail)
        refine wpQuiet_nil ?_
        refine wpT_q (by simp only [gtA,gtS,gtZ]<;>rfl) (by rfl) (by rfl) ?_
        go_big_quiet_step (fail)
        refine wpQuiet_nil ?_
        refine wpT_q (by simp only [gtA,gtS,gtZ]<;>rfl) (by rfl) (by rfl) ?_
        go_big_quiet_step (fail)
        refine wpQuiet_nil ?_
        clear this z1 z2
        refine wpT_nil ?_
        simp only [lastQ,List.drop]
        have CS:=Lib.hid (meshSend_any M7.out ((p:Int)+1) ((to_:Int)+1) pj (lv_mem hp) (lv_mem t4) (by omega) (by
         rw [upq_it,List.length_append,List.length_map,List.length_take, ←HNL.out]
         omega))
        go_wp2_with fail
        refine CS.out.mono ?_
        rintro e w8 ⟨rfl,f8,ps8,m8⟩
        have H8:Hid (TfPush Wb dp ds bf bo mb bs (upd v (p * 4+to_) (.slice a7 ((st (p * 4+to_)).length+1) c7)) ca cc CU at2 sp o x B' (upd st (p * 4+to_) (st (p * 4+to_)++[⟨z.m.mq,z.na,z.nc⟩])) R lb qb q p to_ P gp cp (j+1) w8):=Lib.hid (by
         have s8:=S7.out.mesh f8 HI.out.lbs
         refine ⟨_,ps8,?_,s8⟩
         rw [upq_twice,upq_it,List.append_assoc] at m8
         rw [List.take_succ_eq_append_getElem hjl, ←HPJ.out,show pcs (P.take j++[pj])=pcs (P.take j)++[⟨false,pj⟩] by simp]
         exact m8)
        clear f8 m8 CS S7 M7 HPJ
        go_wp2_with fail
        go_roundw
        case rel=>exact ⟨j+1,by go_num,hjl,H8.out⟩
        case measure=>simp [intOf];omega
       ·have hje:j=P.length:=by omega
        have H9:Hid (TfSt W0 bf dp bo mb ca cc CU (K+(k+1)) p ((outs.drop (k+1)).map Om.m) B' R0 wr):=Lib.hid (by
         obtain ⟨O9,ps9,m9,s9⟩:=HPU.out
         rw [hje,List.take_length] at m9
         have hinv:=HI.out.inv
         rw [HDR.out,List.map_cons] at hinv
         have ht:(z.m.who-1).toNat=to_:=by have:=HTO.out;omega
         have hpm:pushMs p Lw (z.m::(outs.drop (k+1)).map Om.m)=pushMs p (upd2 Lw p to_ (Lw p to_++[some z.m.mq])) ((outs.drop (k+1)).map Om.m):=by
          rw [←ht];rfl
         rw [hpm] at hinv
         refine ⟨Wb,O9,o,x,bs,_,ds,R,lb,qb,ps9,_,sp,_,_,at2,hinv,?_,HAT.out,HI.out.base,⟨HI.out.rows.ov,fun m l hl=>?_,HI.out.rows.cut,HI.out.rows.cur⟩,HI.out.r0,m9,s9.less (List.Sublist.cons _ (List.Sublist.refl _)) (fun _ h=>h)⟩
         ·rw [←Nat.add_assoc]
          exact HI.out.lk.push (y:=⟨z.m.mq,z.na,z.nc⟩) hp t4 tp HG.out (by rw [←HNL.out];omega)
         ·by_cases e:m=p * 4+to_
          ·subst e
           rw [upd_same] at hl
           rcases List.mem_append.1 hl with hl | hl
           ·exact HI.out.rows.way _ l hl
           ·rw [List.mem_singleton.1 hl]
            exact HROW.out
          ·rw [upd_other _ _ e] at hl
           exact HI.out.rows.way _ l hl)
        clear HPU
        go_wp2_with fail
        go_roundw
        case rel=>exact ⟨k+1,by go_num,by omega,H9.out⟩
        case measure=>simp [intOf];omega
     ·have hro:decide ((64:Int)-(nl:Int)<(P.length:Int))=true:=decide_eq_true (by omega)
      have CB:=Lib.hid (meshBreak_any M3.out ((p:Int)+1) ((to_:Int)+1) (lv_mem hp) (lv_mem t4))
      rw [if_neg (show ¬ ((p:Int)+1=(to_:Int)+1) by omega)] at CB
      go_wp2_with fail
      refine CB.out.mono ?_
      rintro e w5 ⟨rfl,f5,ps5,m5⟩
      have H5:Hid (TfSt W0 bf dp bo mb ca cc CU (K+(k+1)) p ((outs.drop (k+1)).map Om.m) B' R0 w5):=Lib.hid (by
       have s5:=(HC.out.sta.less (List.Sublist.cons _ (List.Sublist.refl _)) (fun _ h=>h)).mesh f5 HI.out.lbs
       have hinv:=HI.out.inv
       rw [HDR.out,List.map_cons] at hinv
       have hlt:=HL.out
       rw [←List.take_append_drop k outs,HDR.out,List.map_append,List.map_cons] at hlt
       obtain ⟨-, hl2, -⟩:=List.pairwise_append.1 hlt
       exact ⟨Wb,_,o,x,bs,v,ds,R,lb,qb,ps5,_,sp,st,_,at2,hinv.cut tp HTO.out (fun y hy=>by
        obtain ⟨y',hy',rfl⟩:=List.mem_map.1 hy
        exact HOB.out y' (List.mem_of_mem_drop hy')) (List.pairwise_cons.1 hl2).1,HI.out.lk.brk tp (by omega),HC.out.hat,HI.out.base,HI.out.rows,HI.out.r0,m5,s5⟩)
      clear f5 m5 CB HC HI M2 M3 hro hroom hql hcp1 hcp2 hPl hP0
      go_wp2_with fail
      go_roundw
      case rel=>exact ⟨k+1,by go_num,by omega,H5.out⟩
      case measure=>simp [intOf];omega
    ·have hs0:0<s.length:=List.length_pos_iff.2 hs
     have hne:s.isEmpty=false:=by simpa using hs
     have hsz:=mk_size s
     have y1:wr.cell? ⟨bf,37,none⟩=some (.slice ca CU.length cc):=HC.out.sta.cell 0 37 rfl (tf_c ..)
     have y2:wr.cell? ⟨bf,38,none⟩=some (.int .i64 at2):=HC.out.sta.cell 0 38 rfl (tf_a ..)
     go_upto_region 11 with fail
     clear hne
     by_cases ha:at2<CU.length
     ·obtain ⟨cb,co,rfl,hcell⟩:=SlA.at1 (f:=(.int .u8 ·)) (HC.out.sta.row _ HI.out.rows.cut) at2 ha
      obtain ⟨xn,hxn⟩:∃ n:Nat,CU[at2]=(n:Int):=⟨CU[at2].toNat,by have:=HI.out.rows.cur _ (List.getElem_mem ha);omega⟩
      have hx256:xn<256:=by have:=HI.out.rows.cur _ (List.getElem_mem ha);omega
      rw [hxn] at hcell
      clear hxn
      have hm40:((xn:Int)).tmod 40=((xn % 40:Nat):Int):=rfl
      have hm41:xn % 40<40:=Nat.mod_lt _ (by decide)
      have hcu:CU.length≤9223372036854775807:=by
       have h1:=(HC.out.sta.row _ HI.out.rows.cut).le
       have h2:=(HC.out.sta.row _ HI.out.rows.cut).max
       simp only at h1 h2
       omega
      go_quiet (fail)
      have S1:Hid (Sta Wb (Ori.at w2) dp ds (tfB bf bo mb bs v (some ⟨cb,co,none⟩) cc CU at2 sp o x++B') (⟨9,1,u11,P.length,strL P⟩::ownF st v) R (wr.drewN nq)):=Lib.hid (HC.out.sta.gr (gr_drewN _ _))
      have hc1:(wr.drewN nq).cell? ⟨cb,co+at2,none⟩=some (.int .u8 xn):=hcell
      clear hcell y1 y2
      generalize wr.drewN nq=wa at *
      have y1:wa.cell? ⟨bf,37,none⟩=some (.slice (some ⟨cb,co,none⟩) CU.length cc):=S1.out.cell 0 37 rfl (tf_c ..)
      have y2:wa.cell? ⟨bf,38,none⟩=some (.int .i64 at2):=S1.out.cell 0 38 rfl (tf_a ..)
      go_upto_region 12 with fail
      go_quiet (fail)
      have S2:Hid (Sta Wb (Ori.at w2) dp ds (tfB bf bo mb bs v (some ⟨cb,co,none⟩) cc CU at2 sp o x++B') (⟨9,1,u11,P.length,strL P⟩::ownF st v) R (wa.drewN nq)):=Lib.hid (S1.out.gr (gr_drewN _ _))
      clear hc1 y1 y2 S1
      generalize wa.drewN nq=wb at *
      have y2:wb.cell? ⟨bf,38,none⟩=some (.int .i64 at2):=S2.out.cell 0 38 rfl (tf_a ..)
      have z2:wb.frozen? ⟨bf,38,none⟩=false:=S2.out.froz 0 38 rfl
      obtain ⟨n,hn1,hn2⟩:∃ n:Nat,1≤n∧(1:Int)+(xn:Int) % 40=(n:Int):=⟨1+xn % 40,by omega,by omega⟩
      simp only [hn2]
      go_upto_region 14 with fail
      clear y2 z2
      have S3:Hid (Sta Wb (Ori.at w2) dp ds (tfB bf bo mb bs v (some ⟨cb,co,none⟩) cc CU (at2+1) sp o x++B') (⟨9,1,u11,P.length,strL P⟩::ownF st v) R (wb.setCell ⟨bf,38,none⟩ (.int .i64 ((at2:Int)+1)))):=Lib.hid (by
       have h1:=S2.out.setC 0 rfl 38 (.int .i64 ((at2:Int)+1)) (by rw [wsN_size];decide)
       rw [tf_puta] at h1
       exact h1)
      generalize wb.setCell ⟨bf,38,none⟩ (.int .i64 ((at2:Int)+1))=wc at *
      have hat3:at2+1≤CU.length:=ha
      have C3:=Lib.hid (show TfCut Wb (Ori.at w2) dp ds bf bo mb bs v (some ⟨cb,co,none⟩) cc CU sp o x B' st R fr P s u11 (at2+1) wc from ⟨HC.out.all,HC.out.ne,HC.out.len,hat3,S3.out⟩)
      clear S2 S3 hm40 hm41 hcu HC
      generalize at2+1=at3 at *
      obtain ⟨m,hk1,hk2,hk3,hk4⟩:∃ m:Nat,1≤m∧m≤s.length∧(if (s.length:Int)<(n:Int) then (s.length:Int) else (n:Int))=(m:Int)∧min (n:Int) (s.length:Int)=(m:Int):=⟨min n s.length,by omega,by omega,by split<;>omega,by omega⟩
      have hx3:(⟨s.toArray⟩:ByteArray).extract 0 m=⟨(s.take m).toArray⟩:=by rw [mk_extract,List.drop_zero]
      go_upto_region 15 with fail
      obtain ⟨w4,hw4⟩:∃ w4,w4=wc.alloc (.cells #[.string ⟨(s.take m).toArray⟩] 9):=⟨_,rfl⟩
      have S4:Hid (Sta Wb (Ori.at w2) dp ds (tfB bf bo mb bs v (some ⟨cb,co,none⟩) cc CU at3 sp o x++B') (⟨9,1, .slice (some ⟨wc.heap.size,0,none⟩) 1 1,1,[.string ⟨(s.take m).toArray⟩]⟩::⟨9,1,u11,P.length,strL P⟩::ownF st v) R w4):=Lib.hid (hw4▸C3.out.sta.ownNew ((Fr.refl _ _).alloc _) (by rw [heap_alloc_if,if_pos rfl]) (Nat.le_refl _) rfl (by decide))
      have HW4:=Lib.hid hw4
      clear hw4
      have hbd:P.length+1≤1000000:=by
       have h1:=C3.out.len
       have h2:=HFR.out
       have h3:=fr_len HMS.out
       rw [h2] at h3
       omega
      go_wp2_with (at_builtin;rw [←HW4.out];refine wpList_growT (by rfl) _ _ 108 9 1 16 (.string ⟨#[]⟩) Tryz.underlying108 Tryz.infoTStr rfl (by decide) (by decide) (by rfl) S4.out 1 rfl (by rfl) (by rfl) (own_add (S4.out.ownAt 0 rfl)) (by rfl) rfl hbd ?_)
      intro v7 w5 hst
      have C5:Hid (TfCut Wb (Ori.at w2) dp ds bf bo mb bs v (some ⟨cb,co,none⟩) cc CU sp o x B' st R fr (P++[s.take m]) (s.drop m) v7 at3 w5):=Lib.hid (by
       refine ⟨by rw [List.flatten_append,List.append_assoc, ←C3.out.all];simp,fun y hy=>?_,?_,C3.out.hat,?_⟩
       ·rcases List.mem_append.1 hy with hy | hy
        ·exact C3.out.ne y hy
        ·rw [List.mem_singleton.1 hy]
         intro e
         have:=congrArg List.length e
         rw [List.length_take] at this
         change min m s.length=0 at this
         omega
       ·have:=C3.out.len
        rw [List.length_append,List.length_drop]
        simp only [List.length_cons,List.length_nil]
        omega
       ·have h1:=hst.less (L2:=⟨9,1,v7,P.length+1,strL P++[.string ⟨(s.take m).toArray⟩]⟩::ownF st v) (List.Sublist.cons _ (List.Sublist.refl _)) (fun _ h=>h)
        rw [List.length_append,show strL (P++[s.take m])=strL P++[.string ⟨(s.take m).toArray⟩] by simp [strL]]
        exact h1)
      clear hst S4 HW4 C3 hx3
      have hx4:(⟨s.toArray⟩:ByteArray).extract m s.length=⟨(s.drop m).toArray⟩:=by rw [mk_extract,List.take_length]
      go_wp2_with fail
      go_roundw
      case rel=>exact ⟨P++[s.take m],s.drop m,at3,rfl,C5.out⟩
      case measure=>show (ByteArray.mk (s.drop m).toArray).size<(ByteArray.mk s.toArray).size;rw [mk_size,mk_size,List.length_drop];omega
     ·have hcu:ca=ca:=rfl
      clear hcu
      go_quiet (fail)
      have S1:Hid (Sta Wb (Ori.at w2) dp ds (tfB bf bo mb bs v ca cc CU at2 sp o x++B') (⟨9,1,u11,P.length,strL P⟩::ownF st v) R (wr.drewN nq)):=Lib.hid (HC.out.sta.gr (gr_drewN _ _))
      clear y1 y2
      generalize wr.drewN nq=wc at *
      have C3:=Lib.hid (show TfCut Wb (Ori.at w2) dp ds bf bo mb bs v ca cc CU sp o x B' st R fr P s u11 at2 wc from ⟨HC.out.all,HC.out.ne,HC.out.len,HC.out.hat,S1.out⟩)
      clear S1 HC
      have hx3:(⟨s.toArray⟩:ByteArray).extract 0 s.length=⟨s.toArray⟩:=by rw [mk_extract,List.drop_zero,List.take_length]
      go_upto_region 15 with fail
      obtain ⟨w4,hw4⟩:∃ w4,w4=wc.alloc (.cells #[.string ⟨s.toArray⟩] 9):=⟨_,rfl⟩
      have S4:Hid (Sta Wb (Ori.at w2) dp ds (tfB bf bo mb bs v ca cc CU at2 sp o x++B') (⟨9,1, .slice (some ⟨wc.heap.size,0,none⟩) 1 1,1,[.string ⟨s.toArray⟩]⟩::⟨9,1,u11,P.length,strL P⟩::ownF st v) R w4):=Lib.hid (hw4▸C3.out.sta.ownNew ((Fr.refl _ _).alloc _) (by rw [heap_alloc_if,if_pos rfl]) (Nat.le_refl _) rfl (by decide))
      have HW4:=Lib.hid hw4
      clear hw4
      have hbd:P.length+1≤1000000:=by
       have h1:=C3.out.len
       have h2:=HFR.out
       have h3:=fr_len HMS.out
       rw [h2] at h3
       omega
      go_wp2_with (at_builtin;rw [←HW4.out];refine wpList_growT (by rfl) _ _ 108 9 1 16 (.string ⟨#[]⟩) Tryz.underlying108 Tryz.infoTStr rfl (by decide) (by decide) (by rfl) S4.out 1 rfl (by rfl) (by rfl) (own_add (S4.out.ownAt 0 rfl)) (by rfl) rfl hbd ?_)
      intro v7 w5 hst
      have C5:Hid (TfCut Wb (Ori.at w2) dp ds bf bo mb bs v ca cc CU sp o x B' st R fr (P++[s]) (([]:List UInt8)) v7 at2 w5):=Lib.hid (by
       refine ⟨by rw [List.flatten_append,List.append_assoc, ←C3.out.all];simp,fun y hy=>?_,?_,C3.out.hat,?_⟩
       ·rcases List.mem_append.1 hy with hy | hy
        ·exact C3.out.ne y hy
        ·rw [List.mem_singleton.1 hy]
         intro e
         have:=congrArg List.length e
         change s.length=0 at this
         omega
       ·have:=C3.out.len
        rw [List.length_append]
        simp only [List.length_cons,List.length_nil]
        omega
       ·have h1:=hst.less (L2:=⟨9,1,v7,P.length+1,strL P++[.string ⟨s.toArray⟩]⟩::ownF st v) (List.Sublist.cons _ (List.Sublist.refl _)) (fun _ h=>h)
        rw [List.length_append,show strL (P++[s])=strL P++[.string ⟨s.toArray⟩] by simp [strL]]
        exact h1)
      clear hst S4 HW4 C3 hx3
      have hx4:(⟨s.toArray⟩:ByteArray).extract s.length s.length=⟨(([]:List UInt8)).toArray⟩:=by rw [mk_extract,List.take_length,List.drop_length]
      go_wp2_with fail
      go_roundw
      case rel=>exact ⟨P++[s],([]:List UInt8),at2,rfl,C5.out⟩
      case measure=>show (ByteArray.mk (([]:List UInt8)).toArray).size<(ByteArray.mk s.toArray).size;rw [mk_size,mk_size];exact hs0
  ·have hke:k=outs.length:=by omega
   have HE:Hid (TfSt W0 bf dp bo mb ca cc CU (K+outs.length) p [] B' R0 wr):=Lib.hid (by
    have:=HST.out
    rw [hke,List.drop_length] at this
    exact this)
   go_wp2_with fail
   go_ret
   exact ⟨rfl,HE.out⟩
end
section
open Go.RowKit Go.Proofs
theorem Sta.rowAbove {W:World} {O:Ori} {p:Value} {ds:List Int} {B:List Blk} {L:List Ow} {R:List Rw} {w:World} (h:Sta W O p ds B L R w) {n0:Nat} (hW:W.heap.size≤n0) (hB:∀ x∈B,x.b<n0) (hL:∀ o∈L,∀ k,o.v.ownBlock=some k→k<n0) (hp:∀ k,pblk p k→k<n0)
  {r:Rw} (hr:SlA w r.a r.n r.cap r.cs) (hn:∀ q,r.a=some q→r.cs≠[]→n0≤q.block):Sta W O p ds B L (r::R) w:=
 ⟨h.fr',h.ty,h.dr,h.blk,h.nd,h.own,h.nl,h.nbl,fun x hx=>by
  rcases List.mem_cons.1 hx with rfl | hx
  ·exact hr
  ·exact h.row x hx,fun x hx hne q hq=>by
  rcases List.mem_cons.1 hx with rfl | hx
  ·have h1:=hn q hq hne
   exact ⟨fun e=>by have:=hp _ e;omega,fun y hy e=>by have:=hB y hy;omega,fun o ho e=>by have:=hL o ho _ e;omega, .inr (by omega)⟩
  ·exact h.far x hx hne q hq⟩
theorem Sta.replB {W:World} {O:Ori} {p:Value} {ds:List Int} {B:List Blk} {L:List Ow} {R:List Rw} {w:World} {y:Blk} (h:Sta W O p ds (y::B) L R w) {m:Nat} (hm:m<B.length):Sta W O p ds (B.set m y) L R w:=
 (h.lessB (List.Sublist.cons_cons _ (List.eraseIdx_sublist B m))).permB (set_permO B m y hm)
section
variable {bf:Nat} {bo:Nat→Nat} {mb:Nat} {bs:Nat→Nat} {v:Nat→Value} {ca:Option Addr} {cc:Nat} {CU:List Int} {at2:Nat} {sp:Nat→List UInt8} {o:Nat→Ov} {x:Nat→OvP} {B':List Blk}
abbrev tfX (bf:Nat) (bo:Nat→Nat) (mb:Nat) (bs:Nat→Nat) (v:Nat→Value) (ca:Option Addr) (cc:Nat) (CU:List Int) (at_:Nat) (sp:Nat→List UInt8) (B':List Blk):List Blk:=
 ⟨bf,tfA bo mb bs v (.slice ca CU.length cc) at_,38⟩::(splB bs sp++B')
theorem tf_perm:(tfX bf bo mb bs v ca cc CU at2 sp B'++ovB 4 bo o x).Perm (tfB bf bo mb bs v ca cc CU at2 sp o x++B'):=by
 show (_::(splB bs sp++B'++ovB 4 bo o x)).Perm (_::(splB bs sp++ovB 4 bo o x++B'))
 refine List.Perm.cons _ ?_
 rw [List.append_assoc,List.append_assoc]
 exact (List.perm_append_comm).append_left _
theorem splB_len:(splB bs sp).length=16:=by unfold splB;simp
theorem tf_spl {m:Nat} (hm:m<16):(tfB bf bo mb bs v ca cc CU at2 sp o x++B')[m+1]?=some ⟨bs m, #[.string ⟨(sp m).toArray⟩, .int .i64 0],47⟩:=by
 show (_::(splB bs sp++ovB 4 bo o x++B'))[m+1]?=_
 rw [List.getElem?_cons_succ,List.append_assoc,List.getElem?_append_left (by rw [splB_len];exact hm),splB_at bs sp hm]
theorem tf_setS {m:Nat} (hm:m<16) (b:Nat) (s:List UInt8):(tfB bf bo mb bs v ca cc CU at2 sp o x++B').set (m+1) ⟨b, #[.string ⟨s.toArray⟩, .int .i64 0],47⟩=
  ⟨bf,tfA bo mb bs v (.slice ca CU.length cc) at2,38⟩::(splB (upd bs m b) (upd sp m s)++ovB 4 bo o x++B'):=by
 show (_::(splB bs sp++ovB 4 bo o x++B')).set (m+1) _=_
 rw [List.set_cons_succ,List.append_assoc,List.set_append_left _ _ (by rw [splB_len];exact hm),splB_set,List.append_assoc]
theorem upd_self {α:Type} (f:Nat→α) (i:Nat):upd f i (f i)=f:=by
 funext j
 unfold upd
 split
 ·rename_i h;rw [h]
 ·rfl
end
section
variable {W0:World} {bf:Nat} {dp:Value} {bo:Nat→Nat} {mb:Nat} {ca:Option Addr} {cc:Nat} {CU:List Int} {K p:Nat} {B':List Blk} {R0:List Rw} {w:World}
theorem TfSt.anyp (h:TfSt W0 bf dp bo mb ca cc CU K p [] B' R0 w) (p':Nat):TfSt W0 bf dp bo mb ca cc CU K p' [] B' R0 w:=by
 obtain ⟨Wb,O,o,x,bs,v,ds,R,lb,qb,ps,q,sp,st,Lw,at_,H⟩:=h
 exact ⟨Wb,O,o,x,bs,v,ds,R,lb,qb,ps,q,sp,st,Lw,at_,H.inv,H.lk,H.hat,H.base,H.rows,H.r0,H.mesh,H.sta⟩
theorem TfSt.more (h:TfSt W0 bf dp bo mb ca cc CU K p [] B' R0 w) {K':Nat} (hK:K≤K'):TfSt W0 bf dp bo mb ca cc CU K' p [] B' R0 w:=by
 obtain ⟨Wb,O,o,x,bs,v,ds,R,lb,qb,ps,q,sp,st,Lw,at_,H⟩:=h
 exact ⟨Wb,O,o,x,bs,v,ds,R,lb,qb,ps,q,sp,st,Lw,at_,H.inv,⟨H.lk.link,H.lk.self,H.lk.max,fun m=>Nat.le_trans (H.lk.few m) hK⟩,H.hat,H.base,H.rows,H.r0,H.mesh,H.sta⟩
theorem TfSt.lessB {B2:List Blk} (h:TfSt W0 bf dp bo mb ca cc CU K p [] (B2++B') R0 w):TfSt W0 bf dp bo mb ca cc CU K p [] B' R0 w:=by
 obtain ⟨Wb,O,o,x,bs,v,ds,R,lb,qb,ps,q,sp,st,Lw,at_,H⟩:=h
 exact ⟨Wb,O,o,x,bs,v,ds,R,lb,qb,ps,q,sp,st,Lw,at_,H.inv,H.lk,H.hat,H.base,H.rows,H.r0,H.mesh,H.sta.lessB ((List.Sublist.refl _).append (List.sublist_append_right _ _))⟩
theorem TfSt.lessR {R1:List Rw} (h:TfSt W0 bf dp bo mb ca cc CU K p [] B' R0 w) (h1:∀ r∈R1,r∈R0):TfSt W0 bf dp bo mb ca cc CU K p [] B' R1 w:=by
 obtain ⟨Wb,O,o,x,bs,v,ds,R,lb,qb,ps,q,sp,st,Lw,at_,H⟩:=h
 exact ⟨Wb,O,o,x,bs,v,ds,R,lb,qb,ps,q,sp,st,Lw,at_,H.inv,H.lk,H.hat,H.base,H.rows,fun r hr=>H.r0 r (h1 r hr),H.mesh,H.sta⟩
theorem TfRows.put {o:Nat→Ov} {x:Nat→OvP} {st:Nat→List Sm} {R R2:List Rw} (h:TfRows o x st ca cc CU R) {a:Nat} {o':Ov} {x':OvP} (h1:∀ r∈orows o' x' [],r∈R2) (h2:∀ r∈R,r∈R2):TfRows (upd o a o') (upd x a x') st ca cc CU R2:=
 ⟨fun i hi r hr=>by
  by_cases e:i=a
  ·subst e
   rw [upd_same,upd_same] at hr
   exact h1 r hr
  ·rw [upd_other _ _ e,upd_other _ _ e] at hr
   exact h2 r (h.ov i hi r hr),fun m l hl=>h2 _ (h.way m l hl),h2 _ h.cut,h.cur⟩
theorem TfRows.up {o:Nat→Ov} {x:Nat→OvP} {st:Nat→List Sm} {R R2:List Rw} (h:TfRows o x st ca cc CU R) (h2:∀ r∈R,r∈R2):TfRows o x st ca cc CU R2:=
 ⟨fun i hi r hr=>h2 r (h.ov i hi r hr),fun m l hl=>h2 _ (h.way m l hl),h2 _ h.cut,h.cur⟩
theorem TfRows.sent {o:Nat→Ov} {x:Nat→OvP} {st:Nat→List Sm} {R:List Rw} (h:TfRows o x st ca cc CU R) {m:Nat} {l:List Sm} (hl:∀ y∈l,y.row∈R):TfRows o x (upd st m l) ca cc CU R:=
 ⟨h.ov,fun k y hy=>by
  by_cases e:k=m
  ·subst e
   rw [upd_same] at hy
   exact hl y hy
  ·rw [upd_other _ _ e] at hy
   exact h.way k y hy,h.cut,h.cur⟩
end
theorem TfLinks.turn {q:Int→Int→List PIt} {sp:Nat→List UInt8} {st:Nat→List Sm} {Lw:Nat→Nat→List OLet} {K:Nat} (h:TfLinks q sp st Lw K) {a b:Nat} (ha:a<4) (hb:b<4) (hab:a≠b) {s:List UInt8} {l:List PIt} {t:List Sm} {L:List OLet}
  (hl:Link s l (t.map Sm.m) L) (h64:l.length≤64) (hK:t.length≤K):TfLinks (upq q ((a:Int)+1) ((b:Int)+1) l) (upd sp (a * 4+b) s) (upd st (a * 4+b) t) (upd2 Lw a b L) K:=by
 refine ⟨fun i j hi hj=>?_,fun i hi=>?_,fun i j=>?_,fun m=>?_⟩
 ·by_cases e1:i=a∧j=b
  ·obtain ⟨rfl,rfl⟩:=e1
   rw [upq_it,upd2_same,upd_same,upd_same]
   exact hl
  ·rw [upq_at _ (by omega),upd2_other _ _ e1,upd_other _ _ (by omega),upd_other _ _ (by omega)]
   exact h.link i j hi hj
 ·rw [upq_at _ (by omega)]
  exact h.self i hi
 ·unfold upq
  split
  ·exact h64
  ·exact h.max i j
 ·by_cases e:m=a * 4+b
  ·subst e
   rw [upd_same];exact hK
  ·rw [upd_other _ _ e];exact h.few m
theorem upd2_self {α:Type} (f:Nat→Nat→α) (i j:Nat):upd2 f i j (f i j)=f:=by
 funext a b
 by_cases e:a=i∧b=j
 ·obtain ⟨rfl,rfl⟩:=e;rw [upd2_same]
 ·rw [upd2_other _ _ e]
end
section
open Go.RowKit Go.Proofs
theorem ints_cells (l:List Int):l.flatMap MInt.cells=ints l:=by
 induction l with
 | nil=>rfl
 | cons x r ih=>rw [List.flatMap_cons,ih];rfl
theorem msg_inj {a b:Mq}:a.msg=b.msg↔a=b:=by
 obtain ⟨a1,a2,a3,a4,a5⟩:=a
 obtain ⟨b1,b2,b3,b4,b5⟩:=b
 simp [Mq.msg]
theorem mq_at {w:World} {m:Mq} {a:Option Addr} {c:Nat} (h:SlA w a m.nodes.length c (ints m.nodes)):MsgAt w m.msg ⟨a,c,none,0,none,0⟩:=
 ⟨by show SlA w a m.nodes.length c (m.nodes.flatMap MInt.cells);rw [ints_cells];exact h,SlA.nil w,SlA.nil w⟩
theorem tf_setG (X:Blk) (bs:Nat→Nat) (sp:Nat→List UInt8) (D B':List Blk) {m:Nat} (hm:m<16) (b:Nat) (s:List UInt8):(X::(splB bs sp++D++B')).set (m+1) ⟨b, #[.string ⟨s.toArray⟩, .int .i64 0],47⟩=X::(splB (upd bs m b) (upd sp m s)++D++B'):=by
 rw [List.set_cons_succ,List.append_assoc,List.set_append_left _ _ (by rw [splB_len];exact hm),splB_set,List.append_assoc]
theorem tfCome_any (W0:World) (bf:Nat) (dp:Value) (bo:Nat→Nat) (mb:Nat) (ca:Option Addr) (cc:Nat) (CU:List Int) (K a b:Nat) (R0:List Rw) (W:World) (ha:a<4) (hb:b<4)
  (h:TfSt W0 bf dp bo mb ca cc CU K b [] [] R0 W) (hk9:K≤90000):
  Calls Tryz.prog 13 #[.pointer (some ⟨bf,0,none⟩), .int .i64 a, .int .i64 b,dp] W fun e w'=>e= .returned (.bool true)∧TfSt W0 bf dp bo mb ca cc CU (K+70) b [] [] R0 w':=by
 obtain ⟨Wb,O,o,x,bs,v,ds,R,lb,qb,ps,q,sp,st,Lw,at_,H⟩:=h
 have y1:W.cell? ⟨bf,4,none⟩=some (.pointer (some ⟨mb,0,none⟩)):=H.sta.cell 0 4 rfl (tf_m ..)
 have CT:=meshTake_any H.mesh ((a:Int)+1) ((b:Int)+1)
 have HI:=Lib.hid H
 have HK9:=Lib.hid hk9
 clear hk9
 clear H
 rcases hq:q ((a:Int)+1) ((b:Int)+1) with _ | ⟨y,t⟩
 ·rw [hq] at CT
  simp only [List.headD_nil,List.isEmpty_nil,Bool.not_true,List.tail_nil] at CT
  have hu:=upq_same q ((a:Int)+1) ((b:Int)+1)
  rw [hq] at hu
  rw [hu] at CT
  have C1:=Lib.hid CT
  clear CT hu hq
  go_enter Tryz.func13,Tryz.ntmps13
  go_wp2_with fail
  refine C1.out.mono ?_
  rintro e w1 ⟨rfl,f1,m1⟩
  have H2:Hid (TfSt W0 bf dp bo mb ca cc CU (K+70) b [] [] R0 (w1.alloc (.cells #[.bool false, .string ⟨#[]⟩] 88))):=Lib.hid (by
   have s5:=HI.out.sta.mesh f1 HI.out.lbs
   have g:Gr w1 (w1.alloc (.cells #[.bool false, .string ⟨#[]⟩] 88)):=(Fr.refl _ _).alloc _
   exact TfSt.more ⟨Wb,_,o,x,bs,v,ds,R,lb,qb,ps,q,sp,st,Lw,at_,HI.out.inv,HI.out.lk,HI.out.hat,HI.out.base,HI.out.rows,HI.out.r0,m1.gr g,s5.gr g⟩ (by omega))
  clear f1 m1 C1 y1
  go_wp2_with fail
  go_ret
  exact ⟨rfl,H2.out⟩
 ·have hab:a≠b:=by
   rintro rfl
   rw [HI.out.lk.self (a:Int) (by omega)] at hq
   cases hq
  have hlk:=HI.out.lk.link a b ha hb
  rw [hq] at hlk
  have h64:=HI.out.lk.max ((a:Int)+1) ((b:Int)+1)
  rw [hq] at CT h64
  simp only [List.headD_cons,List.isEmpty_cons,Bool.not_false,List.tail_cons] at CT
  simp only [List.length_cons] at h64
  have C1:=Lib.hid CT
  have HLK:=Lib.hid hlk
  clear CT hlk hq
  obtain ⟨m,hm⟩:∃ m,m=a * 4+b:=⟨_,rfl⟩
  have hm16:m<16:=by omega
  by_cases hy:y.brk=true
  ·obtain ⟨t',hL,hk2⟩:=HLK.out.brk hy
   have HL:=Lib.hid hL
   have HK2:=Lib.hid hk2
   clear hL hk2
   go_enter Tryz.func13,Tryz.ntmps13
   go_wp2_with fail
   refine C1.out.mono ?_
   rintro e w1 ⟨rfl,f1,m1⟩
   have s1:=HI.out.sta.mesh f1 HI.out.lbs
   have M1:=Lib.hid m1
   obtain ⟨w2,hw2⟩:∃ w2,w2=w1.alloc (.cells #[.bool true, .string ⟨y.txt.toArray⟩] 88):=⟨_,rfl⟩
   obtain ⟨w3,hw3⟩:∃ w3,w3=w2.alloc (.cells #[.string ⟨#[]⟩, .int .i64 0] 47):=⟨_,rfl⟩
   have y0:w2.cell? ⟨w1.heap.size,0,none⟩=some (.bool true):=by rw [hw2];exact World.cell?_alloc_at _ _ _ _ rfl
   have S3:Hid (Sta Wb (Ori.at w1) dp ds (⟨w2.heap.size, #[.string ⟨([]:List UInt8).toArray⟩, .int .i64 0],47⟩::(tfB bf bo mb bs v ca cc CU at_ sp o x++[])) (ownF st v) R w3):=Lib.hid (by
    have h1:Sta Wb (Ori.at w1) dp ds (tfB bf bo mb bs v ca cc CU at_ sp o x++[]) (ownF st v) R w2:=s1.gr (by rw [hw2];exact (Fr.refl _ _).alloc _)
    rw [hw3]
    exact h1.box _ _ rfl)
   have G3:Hid (Gr w1 w3):=Lib.hid (by rw [hw3,hw2];exact ((Fr.refl _ _).alloc _).alloc _)
   have HW2:=Lib.hid hw2
   have HW3:=Lib.hid hw3
   clear f1 m1 C1 y1 s1 hw2 hw3
   have z3:w3.cell? ⟨bf,5+a * 4+b,none⟩=some (.pointer (some ⟨bs m,0,none⟩)):=by
    rw [show 5+a * 4+b=5+m by omega]
    exact S3.out.cell 1 _ rfl (tf_s bo mb bs v _ _ hm16)
   have x3:w3.frozen? ⟨bf,5+a * 4+b,none⟩=false:=S3.out.froz 1 _ rfl
   go_upto_region 4 with fail
   rw [←HW2.out]
   go_upto_region 6 with (rw [←HW3.out])
   have S4:Hid (Sta Wb (Ori.at w1) dp ds (tfB bf bo mb (upd bs m w2.heap.size) v ca cc CU at_ (upd sp m []) o x++[]) (ownF st v) R (w3.setCell ⟨bf,5+a * 4+b,none⟩ (.pointer (some ⟨w2.heap.size,0,none⟩)))):=Lib.hid (by
    have h1:=S3.out.setC 1 rfl (5+m) (.pointer (some ⟨w2.heap.size,0,none⟩)) (by rw [wsN_size];omega)
    rw [tf_puts bo mb bs v _ _ hm16] at h1
    rw [show 5+a * 4+b=5+m by omega]
    have h2:=Sta.replB (m:=m+1) (show Sta Wb (Ori.at w1) dp ds (⟨w2.heap.size, #[.string ⟨([]:List UInt8).toArray⟩, .int .i64 0],47⟩::(⟨bf,tfA bo mb (upd bs m w2.heap.size) v (.slice ca CU.length cc) at_,38⟩::(splB bs sp++ovB 4 bo o x++[]))) (ownF st v) R _ from h1) (by rw [List.length_cons,List.length_append,List.length_append,splB_len];omega)
    rw [tf_setG _ bs sp _ _ hm16] at h2
    exact h2)
   clear S3 z3 x3 y0 HW2 HW3 G3
   generalize w3.setCell ⟨bf,5+a * 4+b,none⟩ (.pointer (some ⟨w2.heap.size,0,none⟩))=w4 at *
   generalize w2.heap.size=nb at *
   have y4:w4.cell? ⟨bf,b,none⟩=some (.pointer (some ⟨bo b,0,none⟩)):=S4.out.cell 0 _ rfl (tf_o bo mb _ v _ _ hb)
   have CB:=Lib.hid (ovBroke_any (o b) (x b) ((a:Int)+1) dp ds Wb (Ori.at w1) _ _ R (bo b) w4 ((S4.out.permB tf_perm).ovIn hb (HI.out.rows.ov b hb)) (HI.out.inv.ok b hb))
   go_wp2_with fail
   refine CB.out.mono ?_
   rintro e w5 ⟨rfl,x',s5⟩
   have H5:Hid (TfSt W0 bf dp bo mb ca cc CU (K+70) b [] [] R0 w5):=Lib.hid (by
    have h5:=(s5.ovOut hb).permB tf_perm.symm
    have hlk:=HI.out.lk.turn (s:=[]) (l:=t) (t:=st (a * 4+b)) (L:=t') ha hb hab HK2.out (by omega) (HI.out.lk.few _)
    rw [←hm,upd_self] at hlk
    exact TfSt.more ⟨Wb,_,_,_,_,v,ds,_,lb,qb,ps,_,_,st,_,at_,OInv.broke (n:=⟨o,Lw⟩) HI.out.inv ha hb hab HL.out,hlk,HI.out.hat,HI.out.base,HI.out.rows.put (fun r hr=>(orows_app _ _ _ _).2 (.inl hr)) (fun r hr=>(orows_app _ _ _ _).2 (.inr hr)),fun r hr=>(orows_app _ _ _ _).2 (.inr (HI.out.r0 r hr)),M1.out.ofKp h5.kp,h5⟩ (by omega))
   clear s5 CB S4 y4
   go_wp2_with fail
   go_ret
   exact ⟨rfl,H5.out⟩
  ·have hyf:y.brk=false:=by simpa using hy
   have HMO:=Lib.hid (show ∀ m,some m∈Lw a b→MOk 4 m from fun m hm=>HI.out.inv.msg a ha b hb m hm)
   have HPC:=Lib.hid (HLK.out.piece (N:=4) (by decide) hyf HMO.out)
   clear hy HLK HMO
   go_enter Tryz.func13,Tryz.ntmps13
   go_wp2_with fail
   refine C1.out.mono ?_
   rintro e w1 ⟨rfl,f1,m1⟩
   have s1:=HI.out.sta.mesh f1 HI.out.lbs
   have M1:=Lib.hid m1
   obtain ⟨w2,hw2⟩:∃ w2,w2=w1.alloc (.cells #[.bool false, .string ⟨y.txt.toArray⟩] 88):=⟨_,rfl⟩
   have y0:w2.cell? ⟨w1.heap.size,0,none⟩=some (.bool false):=by rw [hw2];exact World.cell?_alloc_at _ _ _ _ rfl
   have S2:Hid (Sta Wb (Ori.at w1) dp ds (⟨w1.heap.size, #[.bool false, .string ⟨y.txt.toArray⟩],88⟩::(tfB bf bo mb bs v ca cc CU at_ sp o x++[])) (ownF st v) R w2):=Lib.hid (by rw [hw2];exact s1.box _ _ rfl)
   have HW2:=Lib.hid hw2
   clear f1 m1 C1 y1 s1 hw2
   go_upto_region 4 with fail
   rw [←HW2.out]
   clear HW2
   go_upto_region 8 with fail
   clear y0
   obtain ⟨wd,hwd⟩:∃ x,x=w2.drew:=⟨_,rfl⟩
   have HWD:=Lib.hid hwd
   have S3:=Lib.hid (show Sta Wb (Ori.at w1) dp ds (⟨w1.heap.size, #[.bool false, .string ⟨y.txt.toArray⟩],88⟩::(tfB bf bo mb bs v ca cc CU at_ sp o x++[])) (ownF st v) R wd from hwd▸S2.out.gr ((Fr.refl _ _).drew))
   clear hwd S2
   have e1:wd.cell? ⟨bf,5+a * 4+b,none⟩=some (.pointer (some ⟨bs m,0,none⟩)):=by
    rw [show 5+a * 4+b=5+m by omega]
    exact S3.out.cell 1 _ rfl (tf_s bo mb bs v _ _ hm16)
   have e2:wd.cell? ⟨w1.heap.size,1,none⟩=some (.string ⟨y.txt.toArray⟩):=S3.out.cell 0 1 rfl rfl
   have hspl:SplAt wd (bs m) (sp m) 0:=S3.out.blkAt (m+2) (by rw [List.getElem?_cons_succ];exact tf_spl hm16)
   have hlen:(sp m).length+y.txt.length≤1000000:=by
    rcases HPC.out with ⟨-, -, h⟩ | ⟨_,_, -, -, h, -⟩
    ·rw [←hm,List.length_append] at h;omega
    ·rw [←hm,List.length_append] at h;omega
   have CF:=Lib.hid (feed_any hspl hlen)
   clear hlen hspl
   have HM:=Lib.hid hm
   clear hm
   haveI:Nonempty (WC (fun w=>w.cell? ⟨bf,5+a * 4+b,none⟩=some (.pointer (some ⟨bs m,0,none⟩))∧w.cell? ⟨w1.heap.size,1,none⟩=some (.string ⟨y.txt.toArray⟩))):=⟨⟨wd,e1,e2⟩⟩
   have z1:∀ z:WC (fun w=>w.cell? ⟨bf,5+a * 4+b,none⟩=some (.pointer (some ⟨bs m,0,none⟩))∧w.cell? ⟨w1.heap.size,1,none⟩=some (.string ⟨y.txt.toArray⟩)),z.val.cell? ⟨bf,5+a * 4+b,none⟩=some (.pointer (some ⟨bs m,0,none⟩)):=fun z=>z.ok.1
   have z2:∀ z:WC (fun w=>w.cell? ⟨bf,5+a * 4+b,none⟩=some (.pointer (some ⟨bs m,0,none⟩))∧w.cell? ⟨w1.heap.size,1,none⟩=some (.string ⟨y.txt.toArray⟩)),z.val.cell? ⟨w1.heap.size,1,none⟩=some (.string ⟨y.txt.toArray⟩):=fun z=>z.ok.2
   refine wp_region_plan [10] (Plan.seq [0,1,2,3,4,5,6,7,8,9,10,11] .done) (fun w'=>∃ z:WC (fun w=>w.cell? ⟨bf,5+a * 4+b,none⟩=some (.pointer (some ⟨bs m,0,none⟩))∧w.cell? ⟨w1.heap.size,1,none⟩=some (.string ⟨y.txt.toArray⟩)),w'=z.val) (by kernel_rfl) (by kernel_rfl) (fun c a w d v h=>by cases d<;>exact h) (fun c a w d v h=>by cases d<;>exact h) (by rw [←HWD.out];exact ⟨⟨wd,e1,e2⟩,rfl⟩) ?_
   rw [←HWD.out]
   clear HWD e1 e2
   refine wpV_q (by simp only [gtA,gtZ]<;>rfl) (by rfl) (by rfl) ?_
   go_big_quiet_step (fail)
   refine wpQuiet_nil ?_
   refine wpV_q (by simp only [gtA,gtS,gtZ]<;>rfl) (by rfl) (by rfl) ?_
   go_big_quiet_step (fail)
   refine wpQuiet_nil ?_
   refine wpV_q (by simp only [gtA,gtS,gtZ]<;>rfl) (by rfl) (by rfl) ?_
   go_big_quiet_step (fail)
   refine wpQuiet_nil ?_
   refine wpV_q (by simp only [gtA,gtS,gtZ]<;>rfl) (by rfl) (by rfl) ?_
   go_big_quiet_step (fail)
   refine wpQuiet_nil ?_
   refine wpV_q (by simp only [gtA,gtS,gtZ]<;>rfl) (by rfl) (by rfl) ?_
   go_big_quiet_step (fail)
   refine wpQuiet_nil ?_
   refine wpV_q (by simp only [gtA,gtS,gtZ]<;>rfl) (by rfl) (by rfl) ?_
   go_big_quiet_step (fail)
   refine wpQuiet_nil ?_
   refine wpV_q (by simp only [gtA,gtS,gtZ]<;>rfl) (by rfl) (by rfl) ?_
   go_big_quiet_step (fail)
   refine wpQuiet_nil ?_
   refine wpV_q (by simp only [gtA,gtS,gtZ]<;>rfl) (by rfl) (by rfl) ?_
   go_big_quiet_step (fail)
   refine wpQuiet_nil ?_
   refine wpV_q (by simp only [gtA,gtS,gtZ]<;>rfl) (by rfl) (by rfl) ?_
   go_big_quiet_step (fail)
   refine wpQuiet_nil ?_
   refine wpV_q (by simp only [gtA,gtS,gtZ]<;>rfl) (by rfl) (by rfl) ?_
   go_big_quiet_step (fail)
   refine wpQuiet_nil ?_
   refine wpV_e (by simp only [gtA,gtS,gtZ]<;>rfl) (by rfl) ?_
   go_wp2_with fail
   have hpc:=HPC.out
   rw [←HM.out] at hpc
   clear HPC
   rcases hpc with ⟨hf,hlk, -⟩ | ⟨ml,t',hL,hf, -, hmem,hnext⟩
   ·rw [hf] at CF
    refine CF.out.mono ?_
    rintro e w4 h4
    obtain ⟨f4,s4,L4,a4,c4,hL4,rfl, -⟩:=feed_ends h4
    obtain rfl:L4=[]:=List.map_eq_nil_iff.1 hL4
    have S5:=Lib.hid (show Sta Wb (Ori.at w1) dp ds (⟨w1.heap.size, #[.bool false, .string ⟨y.txt.toArray⟩],88⟩::(tfB bf bo mb bs v ca cc CU at_ (upd sp m (sp m++y.txt)) o x++[])) (ownF st v) R w4 by
     have h1:=S3.out.store (m+2) (by rw [List.getElem?_cons_succ];exact tf_spl hm16) f4 s4
     rw [List.set_cons_succ,tf_setS hm16,upd_self] at h1
     exact h1)
    have HD:Hid (TfSt W0 bf dp bo mb ca cc CU (K+70) b [] [] R0 w4):=Lib.hid (by
     have h5:=S5.out.lessB (B2:=tfB bf bo mb bs v ca cc CU at_ (upd sp m (sp m++y.txt)) o x++[]) (List.Sublist.cons _ (List.Sublist.refl _))
     rw [HM.out] at hlk
     have hl:=HI.out.lk.turn (l:=t) (t:=st (a * 4+b)) (L:=Lw a b) ha hb hab hlk (by omega) (HI.out.lk.few _)
     rw [←HM.out,upd_self,upd2_self] at hl
     exact TfSt.more ⟨Wb,_,o,x,bs,v,ds,R,lb,qb,ps,_,_,st,Lw,at_,HI.out.inv,hl,HI.out.hat,HI.out.base,HI.out.rows,HI.out.r0,M1.out.ofKp h5.kp,h5⟩ (by omega))
    clear h4 f4 s4 hL4 CF S3 hlk
    go_wp2_with fail
    refine ⟨⟨⟨w4,⟨(by rw [show 5+a * 4+b=5+m by have:=HM.out;omega];exact S5.out.cell 1 _ rfl (tf_s bo mb bs v _ _ hm16)),S5.out.cell 0 1 rfl rfl⟩⟩,rfl⟩,?_⟩
    refine wpV_q (by simp only [gtA,gtS,gtZ]<;>rfl) (by rfl) (by rfl) ?_
    go_big_quiet_step (fail)
    refine wpQuiet_nil ?_
    refine wpV_done ?_
    clear z1 z2 this S5
    go_upto_region 10 with fail
    go_loopw [12] (fun iv wr=>iv= .int .i64 0∧TfSt W0 bf dp bo mb ca cc CU (K+70) b [] [] R0 wr) (fun _ _=>0)
    case atStart=>exact ⟨rfl,HD.out⟩
    case round=>
     obtain ⟨rfl,hd⟩:=hrel
     have HD2:=Lib.hid hd
     clear hd HD
     obtain ⟨Wb8,O8,o8,x8,bs8,v8,ds8,R8,lb8,qb8,ps8,q8,sp8,st8,Lw8,at8,H8⟩:=HD2.out
     have y5:wr.cell? ⟨bf,5+a * 4+b,none⟩=some (.pointer (some ⟨bs8 m,0,none⟩)):=by
      rw [show 5+a * 4+b=5+m by have:=HM.out;omega]
      exact H8.sta.cell 0 _ rfl (tf_s bo mb bs8 v8 _ _ hm16)
     have hs8:SplAt wr (bs8 m) (sp8 m) 0:=H8.sta.blkAt (m+1) (tf_spl hm16)
     have CB:=Lib.hid (splBad_any hs8)
     clear H8 hs8
     go_wp2_with fail
     refine CB.out.mono ?_
     rintro e w' ⟨rfl,rfl⟩
     go_wp2_with fail
     go_ret
     exact ⟨rfl,HD2.out⟩
   ·have HLL:=Lib.hid hL
    have HNX:=Lib.hid hnext
    have HME:=Lib.hid hmem
    clear hL hnext hmem
    rw [hf] at CF
    refine CF.out.mono ?_
    rintro e w4 h4
    obtain ⟨f4,s4,L4,a4,c4,hL4,rfl,M4⟩:=feed_ends h4
    obtain ⟨pm,rfl⟩:=one_of hL4
    have S5:=Lib.hid (show Sta Wb (Ori.at w1) dp ds (⟨w1.heap.size, #[.bool false, .string ⟨y.txt.toArray⟩],88⟩::(tfB bf bo mb bs v ca cc CU at_ (upd sp m []) o x++[])) (ownF st v) R w4 by
     have h1:=S3.out.store (m+2) (by rw [List.getElem?_cons_succ];exact tf_spl hm16) f4 s4
     rw [List.set_cons_succ,tf_setS hm16,upd_self] at h1
     exact h1)
    obtain ⟨gb,go_,rfl, -⟩:=M4.get 0 (Nat.zero_lt_one)
    have hmo:=M4.own (ml.msg,pm) (List.mem_singleton.2 rfl)
    obtain ⟨q2,q3⟩:=hmo.z2 rfl
    obtain ⟨q4,q5⟩:=hmo.z3 rfl
    have hcs:mpCells (ml.msg,pm)=[.int .i64 ml.kind, .int .i64 ml.node, .int .i64 ml.walk, .bool ml.high, .slice pm.a1 ml.nodes.length pm.c1, .slice none 0 0, .slice none 0 0]:=by
     show [_,_,_,_,_,Value.slice pm.a2 0 pm.c2,Value.slice pm.a3 0 pm.c3]=_
     rw [q2,q3,q4,q5]
     rfl
    have hrow:=M4.row
    rw [List.flatMap_cons,List.flatMap_nil,List.append_nil,hcs] at hrow
    obtain ⟨a9,c9,e9,sl9,bl9, -⟩:=SlA.of_own hrow
    injection e9 with e91 e92 e93
    subst e91 e93
    obtain ⟨a8,c8,e8,sl8,bl8, -⟩:=SlA.of_own hmo.nodes
    injection e8 with e81 e82 e83
    have hni:ml.nodes.flatMap MInt.cells=ints ml.nodes:=by
     generalize ml.nodes=l
     induction l with
     | nil=>rfl
     | cons x r ih=>rw [List.flatMap_cons,ih];rfl
    have hgo:go_=0:=(bl9 _ rfl).2.2
    subst hgo
    have sl7:SlA w4 a8 ml.nodes.length c8 (ints ml.nodes):=by rw [←hni];exact sl8
    have hB5:∀ x_∈(⟨w1.heap.size, #[.bool false, .string ⟨y.txt.toArray⟩],88⟩::(tfB bf bo mb bs v ca cc CU at_ (upd sp m []) o x++[])),x_.b<wd.heap.size:=by
     intro x_ hx
     have e:(⟨w1.heap.size, #[.bool false, .string ⟨y.txt.toArray⟩],88⟩::(tfB bf bo mb bs v ca cc CU at_ (upd sp m []) o x++[]))=List.set (⟨w1.heap.size, #[.bool false, .string ⟨y.txt.toArray⟩],88⟩::(tfB bf bo mb bs v ca cc CU at_ sp o x++[])) (m+2) ⟨bs m, #[.string ⟨([]:List UInt8).toArray⟩, .int .i64 0],47⟩:=by
      rw [List.set_cons_succ,tf_setS hm16,upd_self]
      rfl
     rw [e] at hx
     rcases set_in hx with rfl | ⟨j,_,hj⟩
     ·exact lt_heap (S3.out.blkAt (m+2) (by rw [List.getElem?_cons_succ];exact tf_spl hm16))
     ·exact lt_heap (S3.out.blk _ (List.mem_of_getElem? hj)).1
    have S6:=Lib.hid (show Sta Wb (Ori.at w1) dp ds (⟨w1.heap.size, #[.bool false, .string ⟨y.txt.toArray⟩],88⟩::(tfB bf bo mb bs v ca cc CU at_ (upd sp m []) o x++[])) (ownF st v) (⟨pm.a1,ml.nodes.length,pm.c1,ints ml.nodes⟩::⟨some ⟨gb,0,none⟩,1,c4,[.int .i64 ml.kind, .int .i64 ml.node, .int .i64 ml.walk, .bool ml.high, .slice pm.a1 ml.nodes.length pm.c1, .slice none 0 0, .slice none 0 0]⟩::R) w4 from
     (S5.out.rowAbove S3.out.size hB5 (fun o ho k hk=>(own_in (S3.out.own o ho) hk).2) (fun k hk=>S3.out.lt hk) (r:=⟨some ⟨gb,0,none⟩,1,c4,[.int .i64 ml.kind, .int .i64 ml.node, .int .i64 ml.walk, .bool ml.high, .slice pm.a1 ml.nodes.length pm.c1, .slice none 0 0, .slice none 0 0]⟩) sl9 (fun q hq _=>(bl9 q hq).1)).rowAbove S3.out.size hB5 (fun o ho k hk=>(own_in (S3.out.own o ho) hk).2) (fun k hk=>S3.out.lt hk) (r:=⟨pm.a1,ml.nodes.length,pm.c1,ints ml.nodes⟩) (by rw [show pm.a1=a8 from e81,show pm.c1=c8 from e83];exact sl7) (fun q hq _=>(bl8 q (by rw [←show pm.a1=a8 from e81];exact hq)).1))
    have hc41:1≤c4:=sl9.le
    have hc42:=sl9.max
    clear hB5 S3 S5 f4 s4 hL4 hmo q2 q3 q4 q5 hcs hrow e92 bl9 sl9 e81 e82 e83 bl8 sl8 sl7 hni M4 h4 CF
    go_wp2_with fail
    refine ⟨⟨⟨w4,⟨(by rw [show 5+a * 4+b=5+m by have:=HM.out;omega];exact S6.out.cell 1 _ rfl (tf_s bo mb bs v _ _ hm16)),S6.out.cell 0 1 rfl rfl⟩⟩,rfl⟩,?_⟩
    refine wpV_q (by simp only [gtA,gtS,gtZ]<;>rfl) (by rfl) (by rfl) ?_
    go_big_quiet_step (fail)
    refine wpQuiet_nil ?_
    refine wpV_done ?_
    clear z1 z2 this
    go_upto_region 10 with fail
    go_loopw [12] (fun iv wr=>(iv= .int .i64 0∧wr=w4)∨(iv= .int .i64 1∧TfSt W0 bf dp bo mb ca cc CU (K+70) b [] [] R0 wr)) (fun iv _=>1-(intOf iv).toNat)
    case atStart=>exact .inl ⟨rfl,rfl⟩
    case round=>
     rcases hrel with ⟨rfl,rfl⟩ | ⟨rfl,hd⟩
     case inr=>
      have HD2:=Lib.hid hd
      clear hd
      obtain ⟨Wb8,O8,o8,x8,bs8,v8,ds8,R8,lb8,qb8,ps8,q8,sp8,st8,Lw8,at8,H8⟩:=HD2.out
      have y5:wr.cell? ⟨bf,5+a * 4+b,none⟩=some (.pointer (some ⟨bs8 m,0,none⟩)):=by
       rw [show 5+a * 4+b=5+m by have:=HM.out;omega]
       exact H8.sta.cell 0 _ rfl (tf_s bo mb bs8 v8 _ _ hm16)
      have hs8:SplAt wr (bs8 m) (sp8 m) 0:=H8.sta.blkAt (m+1) (tf_spl hm16)
      have CB:=Lib.hid (splBad_any hs8)
      clear H8 hs8
      go_wp2_with fail
      refine CB.out.mono ?_
      rintro e w' ⟨rfl,rfl⟩
      go_wp2_with fail
      go_ret
      exact ⟨rfl,HD2.out⟩
     case inl=>
      have hn0:0<(st m).length:=by
       obtain ⟨s,hs, -⟩:=List.mem_map.1 HME.out
       exact List.length_pos_of_mem hs
      obtain ⟨gs,cs,hvs⟩:=S6.out.ownForm m (ownF_at st v hm16) hn0
      have HV:=Lib.hid hvs
      obtain ⟨n,hn⟩:∃ n,n=(st m).length:=⟨_,rfl⟩
      rw [←hn] at hn0 HV
      have HN:=Lib.hid hn
      clear hvs hn
      have HGR:=Lib.hid (show ∀ w,Sta Wb (Ori.at w1) dp ds (⟨w1.heap.size, #[.bool false, .string ⟨y.txt.toArray⟩],88⟩::(tfB bf bo mb bs v ca cc CU at_ (upd sp m []) o x++[])) (ownF st v) (⟨pm.a1,ml.nodes.length,pm.c1,ints ml.nodes⟩::⟨some ⟨gb,0,none⟩,1,c4,[.int .i64 ml.kind, .int .i64 ml.node, .int .i64 ml.walk, .bool ml.high, .slice pm.a1 ml.nodes.length pm.c1, .slice none 0 0, .slice none 0 0]⟩::R) w→w.rangeAt gb 0 [(.int .i64 ml.kind),(.int .i64 ml.node),(.int .i64 ml.walk),(.bool ml.high),(.slice pm.a1 ml.nodes.length pm.c1),(.slice none 0 0),(.slice none 0 0)] from fun w s j u hj=>by
       obtain ⟨b2,o2,e,hc⟩:=(s.row ⟨some ⟨gb,0,none⟩,1,c4,[.int .i64 ml.kind, .int .i64 ml.node, .int .i64 ml.walk, .bool ml.high, .slice pm.a1 ml.nodes.length pm.c1, .slice none 0 0, .slice none 0 0]⟩ (List.mem_cons_of_mem _ (List.mem_cons_self ..))).cell j u hj
       injection e with e
       injection e with e1 e2
       subst e1 e2
       exact hc)
      have hncs:n≤cs∧cs≤9223372036854775807:=by
       obtain ⟨a',c',e9,h9, -⟩:=SlA.of_own (S6.out.ownAt m (ownF_at st v hm16))
       rw [HV.out] at e9
       injection e9 with _ _ e9
       have h1:=h9.le
       have h2:=h9.max
       rw [←HN.out] at h1
       omega
      go_upto_region 13 with fail
      generalize hw5:wr=w5 at *
      clear hw5
      go_loopw [13] (fun iv w=>∃ k:Nat,iv= .int .i64 k∧k≤n∧Gr w5 w∧∀ i,i<k→((st m).map Sm.m)[i]?≠some ml) (fun iv _=>n-(intOf iv).toNat)
      case atStart=>exact ⟨0,rfl,Nat.zero_le _,Fr.refl _ _,fun i hi=>absurd hi (Nat.not_lt_zero _)⟩
      case round=>
       obtain ⟨k,rfl,hk,gk,hno⟩:=hrel
       have GK:=Lib.hid gk
       have HNO:=Lib.hid hno
       clear gk hno
       have S7:=Lib.hid (show Sta Wb (Ori.at w1) dp ds (⟨w1.heap.size, #[.bool false, .string ⟨y.txt.toArray⟩],88⟩::(tfB bf bo mb bs v ca cc CU at_ (upd sp m []) o x++[])) (ownF st v) (⟨pm.a1,ml.nodes.length,pm.c1,ints ml.nodes⟩::⟨some ⟨gb,0,none⟩,1,c4,[.int .i64 ml.kind, .int .i64 ml.node, .int .i64 ml.walk, .bool ml.high, .slice pm.a1 ml.nodes.length pm.c1, .slice none 0 0, .slice none 0 0]⟩::R) wr from S6.out.gr GK.out)
       by_cases hkn:k<n
       ·obtain ⟨sk,hsk⟩:∃ s,(st m)[k]?=some s:=⟨_,List.getElem?_eq_getElem (by rw [←HN.out];exact hkn)⟩
        have HSK:=Lib.hid hsk
        clear hsk
        have HSR:=Lib.hid (show ∀ w,Sta Wb (Ori.at w1) dp ds (⟨w1.heap.size, #[.bool false, .string ⟨y.txt.toArray⟩],88⟩::(tfB bf bo mb bs v ca cc CU at_ (upd sp m []) o x++[])) (ownF st v) (⟨pm.a1,ml.nodes.length,pm.c1,ints ml.nodes⟩::⟨some ⟨gb,0,none⟩,1,c4,[.int .i64 ml.kind, .int .i64 ml.node, .int .i64 ml.walk, .bool ml.high, .slice pm.a1 ml.nodes.length pm.c1, .slice none 0 0, .slice none 0 0]⟩::R) w→w.rangeAt gs (k * 7) [(.int .i64 sk.m.kind),(.int .i64 sk.m.node),(.int .i64 sk.m.walk),(.bool sk.m.high),(.slice sk.na sk.m.nodes.length sk.nc),(.slice none 0 0),(.slice none 0 0)] from fun w s j u hj=>by
         have h0:(ownF st v)[m]?=some ⟨76,7, .slice (some ⟨gs,0,none⟩) (st m).length cs,(st m).length,sms (st m)⟩:=by rw [ownF_at st v hm16,HV.out,HN.out]
         refine (s.ownCell m h0 (k * 7+j) ?_).1
         have hl:=(List.getElem?_eq_some_iff.1 HSK.out)
         obtain ⟨hlt,he⟩:=hl
         have hj7:j<7:=by
          have:=(List.getElem?_eq_some_iff.1 hj).1
          simpa using this
         have h2:=flatMap_get Sm.cells 7 (fun _=>rfl) (st m) k j hlt hj7
         unfold sms
         rw [h2,he]
         exact hj)
        have hkc:decide ((k:Int)<(n:Int))=true:=decide_eq_true (by omega)
        go_upto_region 13 with fail
        obtain ⟨wd2,hwd⟩:∃ x,x=wr.drew:=⟨_,rfl⟩
        have HWD:=Lib.hid hwd
        have S8:=Lib.hid (show Sta Wb (Ori.at w1) dp ds (⟨w1.heap.size, #[.bool false, .string ⟨y.txt.toArray⟩],88⟩::(tfB bf bo mb bs v ca cc CU at_ (upd sp m []) o x++[])) (ownF st v) (⟨pm.a1,ml.nodes.length,pm.c1,ints ml.nodes⟩::⟨some ⟨gb,0,none⟩,1,c4,[.int .i64 ml.kind, .int .i64 ml.node, .int .i64 ml.walk, .bool ml.high, .slice pm.a1 ml.nodes.length pm.c1, .slice none 0 0, .slice none 0 0]⟩::R) wd2 from hwd▸S7.out.gr ((Fr.refl _ _).drew))
        have GK2:Hid (Gr w5 wd2):=Lib.hid (hwd▸GK.out.drew)
        clear hwd S7 GK
        haveI:Nonempty (WC (fun w=>w.cell? ⟨bf,21+a * 4+b,none⟩=some (.slice (some ⟨gs,0,none⟩) n cs)∧w.rangeAt gs (k * 7) [(.int .i64 sk.m.kind),(.int .i64 sk.m.node),(.int .i64 sk.m.walk),(.bool sk.m.high),(.slice sk.na sk.m.nodes.length sk.nc),(.slice none 0 0),(.slice none 0 0)]∧w.rangeAt gb 0 [(.int .i64 ml.kind),(.int .i64 ml.node),(.int .i64 ml.walk),(.bool ml.high),(.slice pm.a1 ml.nodes.length pm.c1),(.slice none 0 0),(.slice none 0 0)])):=⟨⟨wd2,⟨(by rw [show 21+a * 4+b=21+m by have:=HM.out;omega, ←HV.out];exact S8.out.cell 1 _ rfl (tf_v bo mb bs v _ _ hm16)),HSR.out wd2 S8.out,HGR.out wd2 S8.out⟩⟩⟩
        have zv:∀ z:WC (fun w=>w.cell? ⟨bf,21+a * 4+b,none⟩=some (.slice (some ⟨gs,0,none⟩) n cs)∧w.rangeAt gs (k * 7) [(.int .i64 sk.m.kind),(.int .i64 sk.m.node),(.int .i64 sk.m.walk),(.bool sk.m.high),(.slice sk.na sk.m.nodes.length sk.nc),(.slice none 0 0),(.slice none 0 0)]∧w.rangeAt gb 0 [(.int .i64 ml.kind),(.int .i64 ml.node),(.int .i64 ml.walk),(.bool ml.high),(.slice pm.a1 ml.nodes.length pm.c1),(.slice none 0 0),(.slice none 0 0)]),z.val.cell? ⟨bf,21+a * 4+b,none⟩=some (.slice (some ⟨gs,0,none⟩) n cs):=fun z=>z.ok.1
        have zs0:∀ z:WC (fun w=>w.cell? ⟨bf,21+a * 4+b,none⟩=some (.slice (some ⟨gs,0,none⟩) n cs)∧w.rangeAt gs (k * 7) [(.int .i64 sk.m.kind),(.int .i64 sk.m.node),(.int .i64 sk.m.walk),(.bool sk.m.high),(.slice sk.na sk.m.nodes.length sk.nc),(.slice none 0 0),(.slice none 0 0)]∧w.rangeAt gb 0 [(.int .i64 ml.kind),(.int .i64 ml.node),(.int .i64 ml.walk),(.bool ml.high),(.slice pm.a1 ml.nodes.length pm.c1),(.slice none 0 0),(.slice none 0 0)]),z.val.cell? ⟨gs,k * 7,none⟩=some (.int .i64 sk.m.kind):=fun z=>z.ok.2.1 0 _ rfl
        have zs1:∀ z:WC (fun w=>w.cell? ⟨bf,21+a * 4+b,none⟩=some (.slice (some ⟨gs,0,none⟩) n cs)∧w.rangeAt gs (k * 7) [(.int .i64 sk.m.kind),(.int .i64 sk.m.node),(.int .i64 sk.m.walk),(.bool sk.m.high),(.slice sk.na sk.m.nodes.length sk.nc),(.slice none 0 0),(.slice none 0 0)]∧w.rangeAt gb 0 [(.int .i64 ml.kind),(.int .i64 ml.node),(.int .i64 ml.walk),(.bool ml.high),(.slice pm.a1 ml.nodes.length pm.c1),(.slice none 0 0),(.slice none 0 0)]),z.val.cell? ⟨gs,k * 7+1,none⟩=some (.int .i64 sk.m.node):=fun z=>z.ok.2.1 1 _ rfl
        have zs2:∀ z:WC (fun w=>w.cell? ⟨bf,21+a * 4+b,none⟩=some (.slice (some ⟨gs,0,none⟩) n cs)∧w.rangeAt gs (k * 7) [(.int .i64 sk.m.kind),(.int .i64 sk.m.node),(.int .i64 sk.m.walk),(.bool sk.m.high),(.slice sk.na sk.m.nodes.length sk.nc),(.slice none 0 0),(.slice none 0 0)]∧w.rangeAt gb 0 [(.int .i64 ml.kind),(.int .i64 ml.node),(.int .i64 ml.walk),(.bool ml.high),(.slice pm.a1 ml.nodes.length pm.c1),(.slice none 0 0),(.slice none 0 0)]),z.val.cell? ⟨gs,k * 7+2,none⟩=some (.int .i64 sk.m.walk):=fun z=>z.ok.2.1 2 _ rfl
        have zs3:∀ z:WC (fun w=>w.cell? ⟨bf,21+a * 4+b,none⟩=some (.slice (some ⟨gs,0,none⟩) n cs)∧w.rangeAt gs (k * 7) [(.int .i64 sk.m.kind),(.int .i64 sk.m.node),(.int .i64 sk.m.walk),(.bool sk.m.high),(.slice sk.na sk.m.nodes.length sk.nc),(.slice none 0 0),(.slice none 0 0)]∧w.rangeAt gb 0 [(.int .i64 ml.kind),(.int .i64 ml.node),(.int .i64 ml.walk),(.bool ml.high),(.slice pm.a1 ml.nodes.length pm.c1),(.slice none 0 0),(.slice none 0 0)]),z.val.cell? ⟨gs,k * 7+3,none⟩=some (.bool sk.m.high):=fun z=>z.ok.2.1 3 _ rfl
        have zs4:∀ z:WC (fun w=>w.cell? ⟨bf,21+a * 4+b,none⟩=some (.slice (some ⟨gs,0,none⟩) n cs)∧w.rangeAt gs (k * 7) [(.int .i64 sk.m.kind),(.int .i64 sk.m.node),(.int .i64 sk.m.walk),(.bool sk.m.high),(.slice sk.na sk.m.nodes.length sk.nc),(.slice none 0 0),(.slice none 0 0)]∧w.rangeAt gb 0 [(.int .i64 ml.kind),(.int .i64 ml.node),(.int .i64 ml.walk),(.bool ml.high),(.slice pm.a1 ml.nodes.length pm.c1),(.slice none 0 0),(.slice none 0 0)]),z.val.cell? ⟨gs,k * 7+4,none⟩=some (.slice sk.na sk.m.nodes.length sk.nc):=fun z=>z.ok.2.1 4 _ rfl
        have zs5:∀ z:WC (fun w=>w.cell? ⟨bf,21+a * 4+b,none⟩=some (.slice (some ⟨gs,0,none⟩) n cs)∧w.rangeAt gs (k * 7) [(.int .i64 sk.m.kind),(.int .i64 sk.m.node),(.int .i64 sk.m.walk),(.bool sk.m.high),(.slice sk.na sk.m.nodes.length sk.nc),(.slice none 0 0),(.slice none 0 0)]∧w.rangeAt gb 0 [(.int .i64 ml.kind),(.int .i64 ml.node),(.int .i64 ml.walk),(.bool ml.high),(.slice pm.a1 ml.nodes.length pm.c1),(.slice none 0 0),(.slice none 0 0)]),z.val.cell? ⟨gs,k * 7+5,none⟩=some (.slice none 0 0):=fun z=>z.ok.2.1 5 _ rfl
        have zs6:∀ z:WC (fun w=>w.cell? ⟨bf,21+a * 4+b,none⟩=some (.slice (some ⟨gs,0,none⟩) n cs)∧w.rangeAt gs (k * 7) [(.int .i64 sk.m.kind),(.int .i64 sk.m.node),(.int .i64 sk.m.walk),(.bool sk.m.high),(.slice sk.na sk.m.nodes.length sk.nc),(.slice none 0 0),(.slice none 0 0)]∧w.rangeAt gb 0 [(.int .i64 ml.kind),(.int .i64 ml.node),(.int .i64 ml.walk),(.bool ml.high),(.slice pm.a1 ml.nodes.length pm.c1),(.slice none 0 0),(.slice none 0 0)]),z.val.cell? ⟨gs,k * 7+6,none⟩=some (.slice none 0 0):=fun z=>z.ok.2.1 6 _ rfl
        have zg0:∀ z:WC (fun w=>w.cell? ⟨bf,21+a * 4+b,none⟩=some (.slice (some ⟨gs,0,none⟩) n cs)∧w.rangeAt gs (k * 7) [(.int .i64 sk.m.kind),(.int .i64 sk.m.node),(.int .i64 sk.m.walk),(.bool sk.m.high),(.slice sk.na sk.m.nodes.length sk.nc),(.slice none 0 0),(.slice none 0 0)]∧w.rangeAt gb 0 [(.int .i64 ml.kind),(.int .i64 ml.node),(.int .i64 ml.walk),(.bool ml.high),(.slice pm.a1 ml.nodes.length pm.c1),(.slice none 0 0),(.slice none 0 0)]),z.val.cell? ⟨gb,0,none⟩=some (.int .i64 ml.kind):=fun z=>by have:=z.ok.2.2 0 _ rfl;rwa [Nat.zero_add] at this
        have zg1:∀ z:WC (fun w=>w.cell? ⟨bf,21+a * 4+b,none⟩=some (.slice (some ⟨gs,0,none⟩) n cs)∧w.rangeAt gs (k * 7) [(.int .i64 sk.m.kind),(.int .i64 sk.m.node),(.int .i64 sk.m.walk),(.bool sk.m.high),(.slice sk.na sk.m.nodes.length sk.nc),(.slice none 0 0),(.slice none 0 0)]∧w.rangeAt gb 0 [(.int .i64 ml.kind),(.int .i64 ml.node),(.int .i64 ml.walk),(.bool ml.high),(.slice pm.a1 ml.nodes.length pm.c1),(.slice none 0 0),(.slice none 0 0)]),z.val.cell? ⟨gb,1,none⟩=some (.int .i64 ml.node):=fun z=>by have:=z.ok.2.2 1 _ rfl;rwa [Nat.zero_add] at this
        have zg2:∀ z:WC (fun w=>w.cell? ⟨bf,21+a * 4+b,none⟩=some (.slice (some ⟨gs,0,none⟩) n cs)∧w.rangeAt gs (k * 7) [(.int .i64 sk.m.kind),(.int .i64 sk.m.node),(.int .i64 sk.m.walk),(.bool sk.m.high),(.slice sk.na sk.m.nodes.length sk.nc),(.slice none 0 0),(.slice none 0 0)]∧w.rangeAt gb 0 [(.int .i64 ml.kind),(.int .i64 ml.node),(.int .i64 ml.walk),(.bool ml.high),(.slice pm.a1 ml.nodes.length pm.c1),(.slice none 0 0),(.slice none 0 0)]),z.val.cell? ⟨gb,2,none⟩=some (.int .i64 ml.walk):=fun z=>by have:=z.ok.2.2 2 _ rfl;rwa [Nat.zero_add] at this
        have zg3:∀ z:WC (fun w=>w.cell? ⟨bf,21+a * 4+b,none⟩=some (.slice (some ⟨gs,0,none⟩) n cs)∧w.rangeAt gs (k * 7) [(.int .i64 sk.m.kind),(.int .i64 sk.m.node),(.int .i64 sk.m.walk),(.bool sk.m.high),(.slice sk.na sk.m.nodes.length sk.nc),(.slice none 0 0),(.slice none 0 0)]∧w.rangeAt gb 0 [(.int .i64 ml.kind),(.int .i64 ml.node),(.int .i64 ml.walk),(.bool ml.high),(.slice pm.a1 ml.nodes.length pm.c1),(.slice none 0 0),(.slice none 0 0)]),z.val.cell? ⟨gb,3,none⟩=some (.bool ml.high):=fun z=>by have:=z.ok.2.2 3 _ rfl;rwa [Nat.zero_add] at this
        have zg4:∀ z:WC (fun w=>w.cell? ⟨bf,21+a * 4+b,none⟩=some (.slice (some ⟨gs,0,none⟩) n cs)∧w.rangeAt gs (k * 7) [(.int .i64 sk.m.kind),(.int .i64 sk.m.node),(.int .i64 sk.m.walk),(.bool sk.m.high),(.slice sk.na sk.m.nodes.length sk.nc),(.slice none 0 0),(.slice none 0 0)]∧w.rangeAt gb 0 [(.int .i64 ml.kind),(.int .i64 ml.node),(.int .i64 ml.walk),(.bool ml.high),(.slice pm.a1 ml.nodes.length pm.c1),(.slice none 0 0),(.slice none 0 0)]),z.val.cell? ⟨gb,4,none⟩=some (.slice pm.a1 ml.nodes.length pm.c1):=fun z=>by have:=z.ok.2.2 4 _ rfl;rwa [Nat.zero_add] at this
        have zg5:∀ z:WC (fun w=>w.cell? ⟨bf,21+a * 4+b,none⟩=some (.slice (some ⟨gs,0,none⟩) n cs)∧w.rangeAt gs (k * 7) [(.int .i64 sk.m.kind),(.int .i64 sk.m.node),(.int .i64 sk.m.walk),(.bool sk.m.high),(.slice sk.na sk.m.nodes.length sk.nc),(.slice none 0 0),(.slice none 0 0)]∧w.rangeAt gb 0 [(.int .i64 ml.kind),(.int .i64 ml.node),(.int .i64 ml.walk),(.bool ml.high),(.slice pm.a1 ml.nodes.length pm.c1),(.slice none 0 0),(.slice none 0 0)]),z.val.cell? ⟨gb,5,none⟩=some (.slice none 0 0):=fun z=>by have:=z.ok.2.2 5 _ rfl;rwa [Nat.zero_add] at this
        have zg6:∀ z:WC (fun w=>w.cell? ⟨bf,21+a * 4+b,none⟩=some (.slice (some ⟨gs,0,none⟩) n cs)∧w.rangeAt gs (k * 7) [(.int .i64 sk.m.kind),(.int .i64 sk.m.node),(.int .i64 sk.m.walk),(.bool sk.m.high),(.slice sk.na sk.m.nodes.length sk.nc),(.slice none 0 0),(.slice none 0 0)]∧w.rangeAt gb 0 [(.int .i64 ml.kind),(.int .i64 ml.node),(.int .i64 ml.walk),(.bool ml.high),(.slice pm.a1 ml.nodes.length pm.c1),(.slice none 0 0),(.slice none 0 0)]),z.val.cell? ⟨gb,6,none⟩=some (.slice none 0 0):=fun z=>by have:=z.ok.2.2 6 _ rfl;rwa [Nat.zero_add] at this
        refine wp_region_plan [27] (Plan.seq [0,1,2,3,4,5,6,7,8,9,10,11,12,13,14,15,16,17,18,19,20,21,22,23,24,25,26,27,28,29] .done) (fun w'=>∃ z:WC (fun w=>w.cell? ⟨bf,21+a * 4+b,none⟩=some (.slice (some ⟨gs,0,none⟩) n cs)∧w.rangeAt gs (k * 7) [(.int .i64 sk.m.kind),(.int .i64 sk.m.node),(.int .i64 sk.m.walk),(.bool sk.m.high),(.slice sk.na sk.m.nodes.length sk.nc),(.slice none 0 0),(.slice none 0 0)]∧w.rangeAt gb 0 [(.int .i64 ml.kind),(.int .i64 ml.node),(.int .i64 ml.walk),(.bool ml.high),(.slice pm.a1 ml.nodes.length pm.c1),(.slice none 0 0),(.slice none 0 0)]),w'=z.val) (by kernel_rfl) (by kernel_rfl) (fun c a w d v h=>by cases d<;>exact h) (fun c a w d v h=>by cases d<;>exact h) (by rw [←HWD.out];exact ⟨⟨wd2,⟨(by rw [show 21+a * 4+b=21+m by have:=HM.out;omega, ←HV.out];exact S8.out.cell 1 _ rfl (tf_v bo mb bs v _ _ hm16)),HSR.out wd2 S8.out,HGR.out wd2 S8.out⟩⟩,rfl⟩) ?_
        rw [←HWD.out]
        clear HWD
        refine wpV_q (by simp only [gtA,gtZ]<;>rfl) (by rfl) (by rfl) ?_
        go_big_quiet_step (fail)
        refine wpQuiet_nil ?_
        refine wpV_q (by simp only [gtA,gtS,gtZ]<;>rfl) (by rfl) (by rfl) ?_
        go_big_quiet_step (fail)
        refine wpQuiet_nil ?_
        refine wpV_q (by simp only [gtA,gtS,gtZ]<;>rfl) (by rfl) (by rfl) ?_
        go_big_quiet_step (fail)
        refine wpQuiet_nil ?_
        refine wpV_q (by simp only [gtA,gtS,gtZ]<;>rfl) (by rfl) (by rfl) ?_
        go_big_quiet_step (fail)
        refine wpQuiet_nil ?_
        refine wpV_q (by simp only [gtA,gtS,gtZ]<;>rfl) (by rfl) (by rfl) ?_
        go_big_quiet_step (fail)
        refine wpQuiet_nil ?_
        refine wpV_q (by simp only [gtA,gtS,gtZ]<;>rfl) (by rfl) (by rfl) ?_
        go_big_quiet_step (fail)
        refine wpQuiet_nil ?_
        refine wpV_q (by simp only [gtA,gtS,gtZ]<;>rfl) (by rfl) (by rfl) ?_
        go_big_quiet_step (fail)
        refine wpQuiet_nil ?_
        refine wpV_q (by simp only [gtA,gtS,gtZ]<;>rfl) (by rfl) (by rfl) ?_
        go_big_quiet_step (fail)
        refine wpQuiet_nil ?_
        refine wpV_q (by simp only [gtA,gtS,gtZ]<;>rfl) (by rfl) (by rfl) ?_
        go_big_quiet_step (fail)
        refine wpQuiet_nil ?_
        refine wpV_q (by simp only [gtA,gtS,gtZ]<;>rfl) (by rfl) (by rfl) ?_
        go_big_quiet_step (fail)
        refine wpQuiet_nil ?_
        refine wpV_q (by simp only [gtA,gtS,gtZ]<;>rfl) (by rfl) (by rfl) ?_
        go_big_quiet_step (fail)
        refine wpQuiet_nil ?_
        refine wpV_q (by simp only [gtA,gtS,gtZ]<;>rfl) (by rfl) (by rfl) ?_
        go_big_quiet_step (fail)
        refine wpQuiet_nil ?_
        refine wpV_q (by simp only [gtA,gtS,gtZ]<;>rfl) (by rfl) (by rfl) ?_
        go_big_quiet_step (fail)
        refine wpQuiet_nil ?_
        refine wpV_q (by simp only [gtA,gtS,gtZ]<;>rfl) (by rfl) (by rfl) ?_
        go_big_quiet_step (fail)
        refine wpQuiet_nil ?_
        refine wpV_q (by simp only [gtA,gtS,gtZ]<;>rfl) (by rfl) (by rfl) ?_
        go_big_quiet_step (fail)
        refine wpQuiet_nil ?_
        refine wpV_q (by simp only [gtA,gtS,gtZ]<;>rfl) (by rfl) (by rfl) ?_
        go_big_quiet_step (fail)
        refine wpQuiet_nil ?_
        refine wpV_q (by simp only [gtA,gtS,gtZ]<;>rfl) (by rfl) (by rfl) ?_
        go_big_quiet_step (fail)
        refine wpQuiet_nil ?_
        refine wpV_q (by simp only [gtA,gtS,gtZ]<;>rfl) (by rfl) (by rfl) ?_
        go_big_quiet_step (fail)
        refine wpQuiet_nil ?_
        refine wpV_q (by simp only [gtA,gtS,gtZ]<;>rfl) (by rfl) (by rfl) ?_
        go_big_quiet_step (fail)
        refine wpQuiet_nil ?_
        refine wpV_q (by simp only [gtA,gtS,gtZ]<;>rfl) (by rfl) (by rfl) ?_
        go_big_quiet_step (fail)
        refine wpQuiet_nil ?_
        refine wpV_q (by simp only [gtA,gtS,gtZ]<;>rfl) (by rfl) (by rfl) ?_
        go_big_quiet_step (fail)
        refine wpQuiet_nil ?_
        refine wpV_q (by simp only [gtA,gtS,gtZ]<;>rfl) (by rfl) (by rfl) ?_
        go_big_quiet_step (fail)
        refine wpQuiet_nil ?_
        refine wpV_q (by simp only [gtA,gtS,gtZ]<;>rfl) (by rfl) (by rfl) ?_
        go_big_quiet_step (fail)
        refine wpQuiet_nil ?_
        refine wpV_q (by simp only [gtA,gtS,gtZ]<;>rfl) (by rfl) (by rfl) ?_
        go_big_quiet_step (fail)
        refine wpQuiet_nil ?_
        refine wpV_q (by simp only [gtA,gtS,gtZ]<;>rfl) (by rfl) (by rfl) ?_
        go_big_quiet_step (fail)
        refine wpQuiet_nil ?_
        refine wpV_q (by simp only [gtA,gtS,gtZ]<;>rfl) (by rfl) (by rfl) ?_
        go_big_quiet_step (fail)
        refine wpQuiet_nil ?_
        refine wpV_q (by simp only [gtA,gtS,gtZ]<;>rfl) (by rfl) (by rfl) ?_
        go_big_quiet_step (fail)
        refine wpQuiet_nil ?_
        refine wpV_e (by simp only [gtA,gtS,gtZ]<;>rfl) (by rfl) ?_
        have CS:=Lib.hid (same_any sk.m.msg ml.msg ⟨sk.na,sk.nc,none,0,none,0⟩ ⟨pm.a1,pm.c1,none,0,none,0⟩ wd2 (mq_at (S8.out.row sk.row (List.mem_cons_of_mem _ (List.mem_cons_of_mem _ (HI.out.rows.way m sk (List.mem_of_getElem? HSK.out)))))) (mq_at (S8.out.row ⟨pm.a1,ml.nodes.length,pm.c1,ints ml.nodes⟩ (List.mem_cons_self ..))))
        go_wp2_with fail
        refine CS.out.mono ?_
        rintro e w6 ⟨rfl,f6⟩
        have S9:=Lib.hid (show Sta Wb (Ori.at w1) dp ds (⟨w1.heap.size, #[.bool false, .string ⟨y.txt.toArray⟩],88⟩::(tfB bf bo mb bs v ca cc CU at_ (upd sp m []) o x++[])) (ownF st v) (⟨pm.a1,ml.nodes.length,pm.c1,ints ml.nodes⟩::⟨some ⟨gb,0,none⟩,1,c4,[.int .i64 ml.kind, .int .i64 ml.node, .int .i64 ml.walk, .bool ml.high, .slice pm.a1 ml.nodes.length pm.c1, .slice none 0 0, .slice none 0 0]⟩::R) w6 from S8.out.gr f6)
        have GK3:Hid (Gr w5 w6):=Lib.hid (Gr.trans GK2.out f6)
        clear f6 CS S8 GK2
        by_cases heq:sk.m=ml
        ·rw [decide_eq_true (msg_inj.2 heq)]
         have HEQ:=Lib.hid heq
         clear heq
         go_wp2_with fail
         refine ⟨⟨⟨w6,⟨(by rw [show 21+a * 4+b=21+m by have:=HM.out;omega, ←HV.out];exact S9.out.cell 1 _ rfl (tf_v bo mb bs v _ _ hm16)),HSR.out w6 S9.out,HGR.out w6 S9.out⟩⟩,rfl⟩,?_⟩
         refine wpV_q (by simp only [gtA,gtS,gtZ]<;>rfl) (by rfl) (by rfl) ?_
         go_big_quiet_step (fail)
         refine wpQuiet_nil ?_
         refine wpV_q (by simp only [gtA,gtS,gtZ]<;>rfl) (by rfl) (by rfl) ?_
         go_big_quiet_step (fail)
         refine wpQuiet_nil ?_
         refine wpV_done ?_
         clear zv zs0 zs1 zs2 zs3 zs4 zs5 zs6 zg0 zg1 zg2 zg3 zg4 zg5 zg6 this hkc
         have yv:w6.cell? ⟨bf,21+a * 4+b,none⟩=some (.slice (some ⟨gs,0,none⟩) n cs):=(by rw [show 21+a * 4+b=21+m by have:=HM.out;omega, ←HV.out];exact S9.out.cell 1 _ rfl (tf_v bo mb bs v _ _ hm16))
         have hkq:((k:Int)==(n:Int))=false:=by simp;omega
         have hkq2:decide ((k:Int)=(n:Int))=false:=decide_eq_false (by omega)
         go_upto_region 17 with fail
         clear yv hkq hkq2
         obtain ⟨w7,hwd⟩:∃ x,x=w6.drew:=⟨_,rfl⟩
         have HWD:=Lib.hid hwd
         have S10:=Lib.hid (show Sta Wb (Ori.at w1) dp ds (⟨w1.heap.size, #[.bool false, .string ⟨y.txt.toArray⟩],88⟩::(tfB bf bo mb bs v ca cc CU at_ (upd sp m []) o x++[])) (ownF st v) (⟨pm.a1,ml.nodes.length,pm.c1,ints ml.nodes⟩::⟨some ⟨gb,0,none⟩,1,c4,[.int .i64 ml.kind, .int .i64 ml.node, .int .i64 ml.walk, .bool ml.high, .slice pm.a1 ml.nodes.length pm.c1, .slice none 0 0, .slice none 0 0]⟩::R) w7 from hwd▸S9.out.gr ((Fr.refl _ _).drew))
         clear hwd S9 GK3
         haveI:Nonempty (WC (fun w=>w.cell? ⟨bf,21+a * 4+b,none⟩=some (.slice (some ⟨gs,0,none⟩) n cs))):=⟨⟨w7,(by rw [show 21+a * 4+b=21+m by have:=HM.out;omega, ←HV.out];exact S10.out.cell 1 _ rfl (tf_v bo mb bs v _ _ hm16))⟩⟩
         have zv:∀ z:WC (fun w=>w.cell? ⟨bf,21+a * 4+b,none⟩=some (.slice (some ⟨gs,0,none⟩) n cs)),z.val.cell? ⟨bf,21+a * 4+b,none⟩=some (.slice (some ⟨gs,0,none⟩) n cs):=fun z=>z.ok
         refine wp_region_lastO 20 [3,15] [] [0,1,2,3,4,5,6,7,8,9,10,11,12,13,14,15,16,17,18,19] (fun w'=>∃ z:WC (fun w=>w.cell? ⟨bf,21+a * 4+b,none⟩=some (.slice (some ⟨gs,0,none⟩) n cs)),w'=z.val) (by kernel_rfl) (by kernel_rfl) (fun c a w d v h=>by cases d<;>exact h) (fun c a w d v h=>by cases d<;>exact h) (by rw [←HWD.out];exact ⟨⟨w7,(by rw [show 21+a * 4+b=21+m by have:=HM.out;omega, ←HV.out];exact S10.out.cell 1 _ rfl (tf_v bo mb bs v _ _ hm16))⟩,rfl⟩) ?_
         rw [←HWD.out]
         clear HWD
         simp only [List.take]
         refine wpT_q (by simp only [gtA,gtZ]<;>rfl) (by rfl) (by rfl) ?_
         go_big_quiet_step (fail)
         refine wpQuiet_nil ?_
         refine wpT_q (by simp only [gtA,gtS,gtZ]<;>rfl) (by rfl) (by rfl) ?_
         go_big_quiet_step (fail)
         refine wpQuiet_nil ?_
         refine wpT_q (by simp only [gtA,gtS,gtZ]<;>rfl) (by rfl) (by rfl) ?_
         go_big_quiet_step (fail)
         refine wpQuiet_nil ?_
         refine wpT_e (by simp only [gtA,gtS,gtZ]<;>rfl) (by rfl) ?_
         go_wp2_with fail
         obtain ⟨w8,hw_⟩:∃ x,x=w7.alloc (.cells #[] 76):=⟨_,rfl⟩
         obtain ⟨nb,hob_⟩:∃ b,b=w7.heap.size:=⟨_,rfl⟩
         rw [←hw_, ←hob_]
         have S11:=Lib.hid (show Sta Wb (Ori.at w1) dp ds (⟨w1.heap.size, #[.bool false, .string ⟨y.txt.toArray⟩],88⟩::(tfB bf bo mb bs v ca cc CU at_ (upd sp m []) o x++[])) (⟨76,7, .slice (some ⟨nb,0,none⟩) 0 0,0,[]⟩::ownF st v) (⟨pm.a1,ml.nodes.length,pm.c1,ints ml.nodes⟩::⟨some ⟨gb,0,none⟩,1,c4,[.int .i64 ml.kind, .int .i64 ml.node, .int .i64 ml.walk, .bool ml.high, .slice pm.a1 ml.nodes.length pm.c1, .slice none 0 0, .slice none 0 0]⟩::R) w8 from hw_▸S10.out.ownNew ((Fr.refl _ _).alloc _) (by rw [heap_alloc_if,if_pos hob_]) (Nat.le_of_eq hob_.symm) rfl (by decide))
         clear S10 hw_ hob_
         refine ⟨⟨⟨w8,(by rw [show 21+a * 4+b=21+m by have:=HM.out;omega, ←HV.out];exact S11.out.cell 1 _ rfl (tf_v bo mb bs v _ _ hm16))⟩,rfl⟩,?_⟩
         refine wpT_q (by simp only [gtA,gtS,gtZ]<;>rfl) (by rfl) (by rfl) ?_
         go_big_quiet_step (fail)
         refine wpQuiet_nil ?_
         refine wpT_q (by simp only [gtA,gtS,gtZ]<;>rfl) (by rfl) (by rfl) ?_
         go_big_quiet_step (fail)
         refine wpQuiet_nil ?_
         refine wpT_q (by simp only [gtA,gtS,gtZ]<;>rfl) (by rfl) (by rfl) ?_
         go_big_quiet_step (fail)
         refine wpQuiet_nil ?_
         refine wpT_q (by simp only [gtA,gtS,gtZ]<;>rfl) (by rfl) (by rfl) ?_
         go_big_quiet_step (fail)
         refine wpQuiet_nil ?_
         refine wpT_q (by simp only [gtA,gtS,gtZ]<;>rfl) (by rfl) (by rfl) ?_
         go_big_quiet_step (fail)
         refine wpQuiet_nil ?_
         refine wpT_q (by simp only [gtA,gtS,gtZ]<;>rfl) (by rfl) (by rfl) ?_
         go_big_quiet_step (fail)
         refine wpQuiet_nil ?_
         refine wpT_q (by simp only [gtA,gtS,gtZ]<;>rfl) (by rfl) (by rfl) ?_
         go_big_quiet_step (fail)
         refine wpQuiet_nil ?_
         refine wpT_q (by simp only [gtA,gtS,gtZ]<;>rfl) (by rfl) (by rfl) ?_
         go_big_quiet_step (fail)
         refine wpQuiet_nil ?_
         refine wpT_q (by simp only [gtA,gtS,gtZ]<;>rfl) (by rfl) (by rfl) ?_
         go_big_quiet_step (fail)
         refine wpQuiet_nil ?_
         refine wpT_q (by simp only [gtA,gtS,gtZ]<;>rfl) (by rfl) (by rfl) ?_
         go_big_quiet_step (fail)
         refine wpQuiet_nil ?_
         refine wpT_q (by simp only [gtA,gtS,gtZ]<;>rfl) (by rfl) (by rfl) ?_
         go_big_quiet_step (fail)
         refine wpQuiet_nil ?_
         obtain ⟨ad,had1,had2⟩:∃ ad:Addr,(if cs=k+1 then some (⟨gs,0,none⟩:Addr) else some ⟨gs,(k+1) * 7,none⟩)=some ad∧∀ j u,(sms ((st m).drop (k+1)))[j]?=some u→w8.cell? (ad.add j)=some u:=by
          have h0:(⟨76,7, .slice (some ⟨nb,0,none⟩) 0 0,0,[]⟩::ownF st v)[m+1]?=some (⟨76,7, .slice (some ⟨gs,0,none⟩) (st m).length cs,(st m).length,sms (st m)⟩:Ow):=by rw [List.getElem?_cons_succ,ownF_at st v hm16,HV.out,HN.out]
          by_cases h1:cs=k+1
          ·refine ⟨⟨gs,0,none⟩,by rw [if_pos h1],fun j u hj=>?_⟩
           have e:((st m).drop (k+1))=[]:=List.drop_eq_nil_of_le (by rw [←HN.out];omega)
           rw [e] at hj
           simp [sms] at hj
          ·refine ⟨⟨gs,(k+1) * 7,none⟩,by rw [if_neg h1],sla_add (n:=n-(k+1)) (c:=cs-(k+1)) ⟨by omega,by omega,fun j u hj=>⟨gs,(k+1) * 7,rfl,(S11.out.ownCell (m+1) h0 ((k+1) * 7+j) ?_).1⟩⟩⟩
           rw [←sms_drop,List.getElem?_drop] at hj
           exact hj
         have HAD1:=Lib.hid had1
         have HAD2:=Lib.hid had2
         clear had1 had2
         have hld:=Lib.hid (show n-(k+1)=((st m).drop (k+1)).length by rw [List.length_drop, ←HN.out])
         refine wpT_e (by simp only [gtA,gtS,gtZ]<;>rfl) (by rfl) ?_
         refine wpList_growT (by rfl) _ _ 34 76 7 104 msgZeroV Tryz.underlying34 Tryz.infoMsg rfl (by decide) (by decide) (by rfl) S11.out 0 rfl (ad:=ad) (m:=n-(k+1)) (c:=cs-(k+1)) (by rw [←HAD1.out];rfl) (by rw [hld.out];exact sms_len _) HAD2.out (by rfl) (sms_one _) (by have h1:=HI.out.lk.few m;have h2:=HK9.out;rw [←HN.out] at h1;omega) ?_
         intro v7 w9 hst
         refine wpList_nil ?_
         have S12:=Lib.hid (show Sta Wb (Ori.at w1) dp ds (⟨w1.heap.size, #[.bool false, .string ⟨y.txt.toArray⟩],88⟩::(tfB bf bo mb bs v ca cc CU at_ (upd sp m []) o x++[])) (⟨76,7,v7,n-(k+1),sms ((st m).drop (k+1))⟩::ownF st v) (⟨pm.a1,ml.nodes.length,pm.c1,ints ml.nodes⟩::⟨some ⟨gb,0,none⟩,1,c4,[.int .i64 ml.kind, .int .i64 ml.node, .int .i64 ml.walk, .bool ml.high, .slice pm.a1 ml.nodes.length pm.c1, .slice none 0 0, .slice none 0 0]⟩::R) w9 by rw [List.set_cons_zero,Nat.zero_add,List.nil_append] at hst;exact hst)
         clear hst S11 HAD2
         refine ⟨⟨⟨w9,(by rw [show 21+a * 4+b=21+m by have:=HM.out;omega, ←HV.out];exact S12.out.cell 1 _ rfl (tf_v bo mb bs v _ _ hm16))⟩,rfl⟩,?_⟩
         simp only [Act.put,List.setIfInBounds_toArray,List.set_cons_succ,List.set_cons_zero]
         refine wpT_q (by simp only [gtA,gtS,gtZ]<;>rfl) (by rfl) (by rfl) ?_
         go_big_quiet_step (fail)
         refine wpQuiet_nil ?_
         refine wpT_q (by simp only [gtA,gtS,gtZ]<;>rfl) (by rfl) (by rfl) ?_
         go_big_quiet_step (fail)
         refine wpQuiet_nil ?_
         refine wpT_q (by simp only [gtA,gtS,gtZ]<;>rfl) (by rfl) (by rfl) ?_
         go_big_quiet_step (fail)
         refine wpQuiet_nil ?_
         refine wpT_q (by simp only [gtA,gtS,gtZ]<;>rfl) (by rfl) (by rfl) ?_
         go_big_quiet_step (fail)
         refine wpQuiet_nil ?_
         rw [HAD1.out]
         clear this zv HAD1
         refine wpT_nil ?_
         simp only [lastQ,List.drop]
         obtain ⟨a7,c7,hv7, -, -, -⟩:=SlA.of_own (S12.out.ownAt 0 rfl)
         subst hv7
         have zc:w9.cell? ⟨bf,21+a * 4+b,none⟩=some (.slice (some ⟨gs,0,none⟩) n cs):=(by rw [show 21+a * 4+b=21+m by have:=HM.out;omega, ←HV.out];exact S12.out.cell 1 _ rfl (tf_v bo mb bs v _ _ hm16))
         have zf:w9.frozen? ⟨bf,21+a * 4+b,none⟩=false:=S12.out.froz 1 _ rfl
         go_upto_region 18 with fail
         clear zc zf
         have S13:Hid (Sta Wb (Ori.at w1) dp ds (tfB bf bo mb bs (upd v m (.slice a7 (n-(k+1)) c7)) ca cc CU at_ (upd sp m []) o x++[⟨w1.heap.size, #[.bool false, .string ⟨y.txt.toArray⟩],88⟩]) (ownF (upd st m ((st m).drop (k+1))) (upd v m (.slice a7 (n-(k+1)) c7))) (⟨pm.a1,ml.nodes.length,pm.c1,ints ml.nodes⟩::⟨some ⟨gb,0,none⟩,1,c4,[.int .i64 ml.kind, .int .i64 ml.node, .int .i64 ml.walk, .bool ml.high, .slice pm.a1 ml.nodes.length pm.c1, .slice none 0 0, .slice none 0 0]⟩::R) (w9.setCell ⟨bf,21+a * 4+b,none⟩ (.slice a7 (n-(k+1)) c7))):=Lib.hid (by
          have h1:=S12.out.setC 1 rfl (21+m) (.slice a7 (n-(k+1)) c7) (by rw [wsN_size];omega)
          rw [tf_putv bo mb bs v _ _ hm16] at h1
          rw [show 21+a * 4+b=21+m by have:=HM.out;omega]
          have h2:=h1.replL (m:=m) (by unfold ownF;rw [List.length_map,List.length_range];exact hm16)
          rw [hld.out,ownF_set] at h2
          rw [hld.out]
          refine h2.permB ?_
          show (tfB bf bo mb bs _ ca cc CU at_ (upd sp m []) o x++[(⟨w1.heap.size, #[.bool false, .string ⟨y.txt.toArray⟩],88⟩:Blk)]).Perm ((⟨w1.heap.size, #[.bool false, .string ⟨y.txt.toArray⟩],88⟩:Blk)::(tfB bf bo mb bs _ ca cc CU at_ (upd sp m []) o x++[]))
          rw [List.append_nil]
          exact List.perm_append_comm)
         clear S12
         generalize w9.setCell ⟨bf,21+a * 4+b,none⟩ (.slice a7 (n-(k+1)) c7)=w10 at *
         generalize upd v m (.slice a7 (n-(k+1)) c7)=v2 at *
         have HLN:=Lib.hid (show Link [] t (((st m).drop (k+1)).map Sm.m) t' by
          rw [List.map_drop]
          exact HNX.out k HNO.out (by rw [List.getElem?_map,HSK.out, ←HEQ.out];rfl))
         clear HSR HSK HEQ HNO HNX HV
         have HMK:=Lib.hid (HI.out.inv.msg a ha b hb ml (by show some ml∈Lw a b;rw [HLL.out];exact List.mem_cons_self ..))
         have HT:=Lib.hid (OInv.take (n:=⟨o,Lw⟩) HI.out.inv ha hb hab HLL.out S13.out.dr.range)
         have HF:=Lib.hid (oFewT (show (oTake (o b) ((a:Int)+1) ml ds).1.h.v.act.length≤64 from by
          have h:(upd o b (oTake (o b) ((a:Int)+1) ml ds).1 b).Ok:=HT.out.1.ok b hb
          rw [upd_same] at h
          exact h.h.v.act.len))
         have HLT:=Lib.hid (late_take (o:=o b) (fr:=(a:Int)+1) (m:=ml) (ds:=ds) (HI.out.inv.ok b hb).h.v (HI.out.inv.net.hi b hb).sane S13.out.dr.range (HI.out.inv.net.am b hb))
         obtain ⟨w11,hwd⟩:∃ x,x=w10.drew:=⟨_,rfl⟩
         have HWD:=Lib.hid hwd
         have S14:=Lib.hid (show Sta Wb (Ori.at w1) dp ds (tfB bf bo mb bs v2 ca cc CU at_ (upd sp m []) o x++[(⟨w1.heap.size, #[.bool false, .string ⟨y.txt.toArray⟩],88⟩:Blk)]) (ownF (upd st m ((st m).drop (k+1))) v2) (⟨pm.a1,ml.nodes.length,pm.c1,ints ml.nodes⟩::⟨some ⟨gb,0,none⟩,1,c4,[.int .i64 ml.kind, .int .i64 ml.node, .int .i64 ml.walk, .bool ml.high, .slice pm.a1 ml.nodes.length pm.c1, .slice none 0 0, .slice none 0 0]⟩::R) w11 from hwd▸S13.out.gr ((Fr.refl _ _).drew))
         clear hwd S13
         have HGR2:=Lib.hid (show ∀ w Wx Ox dx Bx Lx Rx,Sta Wx Ox dp dx Bx Lx Rx w→(⟨some ⟨gb,0,none⟩,1,c4,[.int .i64 ml.kind, .int .i64 ml.node, .int .i64 ml.walk, .bool ml.high, .slice pm.a1 ml.nodes.length pm.c1, .slice none 0 0, .slice none 0 0]⟩:Rw)∈Rx→w.rangeAt gb 0 [(.int .i64 ml.kind),(.int .i64 ml.node),(.int .i64 ml.walk),(.bool ml.high),(.slice pm.a1 ml.nodes.length pm.c1),(.slice none 0 0),(.slice none 0 0)] from fun w Wx Ox dx Bx Lx Rx s hr j u hj=>by
          obtain ⟨b2,o2,e,hc⟩:=(s.row _ hr).cell j u hj
          injection e with e
          injection e with e1 e2
          subst e1 e2
          exact hc)
         have hc1:w11.cell? ⟨bf,b,none⟩=some (.pointer (some ⟨bo b,0,none⟩)):=S14.out.cell 0 _ rfl (tf_o bo mb bs v2 _ _ hb)
         have hc2:=HGR2.out _ _ _ _ _ _ _ S14.out (List.mem_cons_of_mem _ (List.mem_cons_self ..))
         haveI:Nonempty (WC (fun w=>w.cell? ⟨bf,b,none⟩=some (.pointer (some ⟨bo b,0,none⟩))∧w.rangeAt gb 0 [(.int .i64 ml.kind),(.int .i64 ml.node),(.int .i64 ml.walk),(.bool ml.high),(.slice pm.a1 ml.nodes.length pm.c1),(.slice none 0 0),(.slice none 0 0)])):=⟨⟨w11,hc1,hc2⟩⟩
         have zb:∀ z:WC (fun w=>w.cell? ⟨bf,b,none⟩=some (.pointer (some ⟨bo b,0,none⟩))∧w.rangeAt gb 0 [(.int .i64 ml.kind),(.int .i64 ml.node),(.int .i64 ml.walk),(.bool ml.high),(.slice pm.a1 ml.nodes.length pm.c1),(.slice none 0 0),(.slice none 0 0)]),z.val.cell? ⟨bf,b,none⟩=some (.pointer (some ⟨bo b,0,none⟩)):=fun z=>z.ok.1
         have zg0:∀ z:WC (fun w=>w.cell? ⟨bf,b,none⟩=some (.pointer (some ⟨bo b,0,none⟩))∧w.rangeAt gb 0 [(.int .i64 ml.kind),(.int .i64 ml.node),(.int .i64 ml.walk),(.bool ml.high),(.slice pm.a1 ml.nodes.length pm.c1),(.slice none 0 0),(.slice none 0 0)]),z.val.cell? ⟨gb,0,none⟩=some (.int .i64 ml.kind):=fun z=>by have:=z.ok.2 0 _ rfl;rwa [Nat.zero_add] at this
         have zg1:∀ z:WC (fun w=>w.cell? ⟨bf,b,none⟩=some (.pointer (some ⟨bo b,0,none⟩))∧w.rangeAt gb 0 [(.int .i64 ml.kind),(.int .i64 ml.node),(.int .i64 ml.walk),(.bool ml.high),(.slice pm.a1 ml.nodes.length pm.c1),(.slice none 0 0),(.slice none 0 0)]),z.val.cell? ⟨gb,1,none⟩=some (.int .i64 ml.node):=fun z=>by have:=z.ok.2 1 _ rfl;rwa [Nat.zero_add] at this
         have zg2:∀ z:WC (fun w=>w.cell? ⟨bf,b,none⟩=some (.pointer (some ⟨bo b,0,none⟩))∧w.rangeAt gb 0 [(.int .i64 ml.kind),(.int .i64 ml.node),(.int .i64 ml.walk),(.bool ml.high),(.slice pm.a1 ml.nodes.length pm.c1),(.slice none 0 0),(.slice none 0 0)]),z.val.cell? ⟨gb,2,none⟩=some (.int .i64 ml.walk):=fun z=>by have:=z.ok.2 2 _ rfl;rwa [Nat.zero_add] at this
         have zg3:∀ z:WC (fun w=>w.cell? ⟨bf,b,none⟩=some (.pointer (some ⟨bo b,0,none⟩))∧w.rangeAt gb 0 [(.int .i64 ml.kind),(.int .i64 ml.node),(.int .i64 ml.walk),(.bool ml.high),(.slice pm.a1 ml.nodes.length pm.c1),(.slice none 0 0),(.slice none 0 0)]),z.val.cell? ⟨gb,3,none⟩=some (.bool ml.high):=fun z=>by have:=z.ok.2 3 _ rfl;rwa [Nat.zero_add] at this
         have zg4:∀ z:WC (fun w=>w.cell? ⟨bf,b,none⟩=some (.pointer (some ⟨bo b,0,none⟩))∧w.rangeAt gb 0 [(.int .i64 ml.kind),(.int .i64 ml.node),(.int .i64 ml.walk),(.bool ml.high),(.slice pm.a1 ml.nodes.length pm.c1),(.slice none 0 0),(.slice none 0 0)]),z.val.cell? ⟨gb,4,none⟩=some (.slice pm.a1 ml.nodes.length pm.c1):=fun z=>by have:=z.ok.2 4 _ rfl;rwa [Nat.zero_add] at this
         have zg5:∀ z:WC (fun w=>w.cell? ⟨bf,b,none⟩=some (.pointer (some ⟨bo b,0,none⟩))∧w.rangeAt gb 0 [(.int .i64 ml.kind),(.int .i64 ml.node),(.int .i64 ml.walk),(.bool ml.high),(.slice pm.a1 ml.nodes.length pm.c1),(.slice none 0 0),(.slice none 0 0)]),z.val.cell? ⟨gb,5,none⟩=some (.slice none 0 0):=fun z=>by have:=z.ok.2 5 _ rfl;rwa [Nat.zero_add] at this
         have zg6:∀ z:WC (fun w=>w.cell? ⟨bf,b,none⟩=some (.pointer (some ⟨bo b,0,none⟩))∧w.rangeAt gb 0 [(.int .i64 ml.kind),(.int .i64 ml.node),(.int .i64 ml.walk),(.bool ml.high),(.slice pm.a1 ml.nodes.length pm.c1),(.slice none 0 0),(.slice none 0 0)]),z.val.cell? ⟨gb,6,none⟩=some (.slice none 0 0):=fun z=>by have:=z.ok.2 6 _ rfl;rwa [Nat.zero_add] at this
         refine wp_region_plan [15,16] (Plan.seq [0,1,2,3,4,5,6,7,8,9,10,11,12,13,14,15,16,17] .done) (fun w'=>∃ z:WC (fun w=>w.cell? ⟨bf,b,none⟩=some (.pointer (some ⟨bo b,0,none⟩))∧w.rangeAt gb 0 [(.int .i64 ml.kind),(.int .i64 ml.node),(.int .i64 ml.walk),(.bool ml.high),(.slice pm.a1 ml.nodes.length pm.c1),(.slice none 0 0),(.slice none 0 0)]),w'=z.val) (by kernel_rfl) (by kernel_rfl) (fun c a w d v h=>by cases d<;>exact h) (fun c a w d v h=>by cases d<;>exact h) (by rw [←HWD.out];exact ⟨⟨w11,hc1,hc2⟩,rfl⟩) ?_
         rw [←HWD.out]
         clear HWD hc1 hc2
         have CT:=Lib.hid (ovTake_any (o b) (x b) ((a:Int)+1) ml pm.a1 pm.c1 dp ds Wb (Ori.at w1) _ _ (⟨pm.a1,ml.nodes.length,pm.c1,ints ml.nodes⟩::⟨some ⟨gb,0,none⟩,1,c4,[.int .i64 ml.kind, .int .i64 ml.node, .int .i64 ml.walk, .bool ml.high, .slice pm.a1 ml.nodes.length pm.c1, .slice none 0 0, .slice none 0 0]⟩::R) (bo b) w11 ((S14.out.permB tf_perm).ovIn hb (fun r hr=>List.mem_cons_of_mem _ (List.mem_cons_of_mem _ (HI.out.rows.ov b hb r hr)))) (HI.out.inv.ok b hb) (List.mem_cons_self ..) (by have:=HMK.out.walk;omega) (by have:=HMK.out.len;omega))
         refine wpV_q (by simp only [gtA,gtZ]<;>rfl) (by rfl) (by rfl) ?_
         go_big_quiet_step (fail)
         refine wpQuiet_nil ?_
         refine wpV_q (by simp only [gtA,gtS,gtZ]<;>rfl) (by rfl) (by rfl) ?_
         go_big_quiet_step (fail)
         refine wpQuiet_nil ?_
         refine wpV_q (by simp only [gtA,gtS,gtZ]<;>rfl) (by rfl) (by rfl) ?_
         go_big_quiet_step (fail)
         refine wpQuiet_nil ?_
         refine wpV_q (by simp only [gtA,gtS,gtZ]<;>rfl) (by rfl) (by rfl) ?_
         go_big_quiet_step (fail)
         refine wpQuiet_nil ?_
         refine wpV_q (by simp only [gtA,gtS,gtZ]<;>rfl) (by rfl) (by rfl) ?_
         go_big_quiet_step (fail)
         refine wpQuiet_nil ?_
         refine wpV_q (by simp only [gtA,gtS,gtZ]<;>rfl) (by rfl) (by rfl) ?_
         go_big_quiet_step (fail)
         refine wpQuiet_nil ?_
         refine wpV_q (by simp only [gtA,gtS,gtZ]<;>rfl) (by rfl) (by rfl) ?_
         go_big_quiet_step (fail)
         refine wpQuiet_nil ?_
         refine wpV_q (by simp only [gtA,gtS,gtZ]<;>rfl) (by rfl) (by rfl) ?_
         go_big_quiet_step (fail)
         refine wpQuiet_nil ?_
         refine wpV_q (by simp only [gtA,gtS,gtZ]<;>rfl) (by rfl) (by rfl) ?_
         go_big_quiet_step (fail)
         refine wpQuiet_nil ?_
         refine wpV_q (by simp only [gtA,gtS,gtZ]<;>rfl) (by rfl) (by rfl) ?_
         go_big_quiet_step (fail)
         refine wpQuiet_nil ?_
         refine wpV_q (by simp only [gtA,gtS,gtZ]<;>rfl) (by rfl) (by rfl) ?_
         go_big_quiet_step (fail)
         refine wpQuiet_nil ?_
         refine wpV_q (by simp only [gtA,gtS,gtZ]<;>rfl) (by rfl) (by rfl) ?_
         go_big_quiet_step (fail)
         refine wpQuiet_nil ?_
         refine wpV_q (by simp only [gtA,gtS,gtZ]<;>rfl) (by rfl) (by rfl) ?_
         go_big_quiet_step (fail)
         refine wpQuiet_nil ?_
         refine wpV_q (by simp only [gtA,gtS,gtZ]<;>rfl) (by rfl) (by rfl) ?_
         go_big_quiet_step (fail)
         refine wpQuiet_nil ?_
         refine wpV_q (by simp only [gtA,gtS,gtZ]<;>rfl) (by rfl) (by rfl) ?_
         go_big_quiet_step (fail)
         refine wpQuiet_nil ?_
         refine wpV_e (by simp only [gtA,gtS,gtZ]<;>rfl) (by rfl) ?_
         go_wp2_with fail
         refine CT.out.mono ?_
         rintro e w12 ⟨x',ov,l,hl,rfl,s12⟩
         obtain ⟨ra,rc,rfl,s13⟩:=s12.asRow 0 rfl
         have s14:=(s13.ovOut hb).permB tf_perm.symm
         clear s12 s13 CT S14
         rw [List.eraseIdx_cons_zero] at s14
         have hlf:l.length≤70:=by have h1:=HF.out;rw [←hl,List.length_map] at h1;exact h1
         have H15:Hid (TfSt W0 bf dp bo mb ca cc CU K b (l.map Om.m) [(⟨w1.heap.size, #[.bool false, .string ⟨y.txt.toArray⟩],88⟩:Blk)] (⟨ra,l.length,rc,oms l⟩::(l.map Om.row++(⟨some ⟨gb,0,none⟩,1,c4,[.int .i64 ml.kind, .int .i64 ml.node, .int .i64 ml.walk, .bool ml.high, .slice pm.a1 ml.nodes.length pm.c1, .slice none 0 0, .slice none 0 0]⟩:Rw)::R0)) w12):=Lib.hid (by
          have hlk:=HI.out.lk.turn (s:=[]) (l:=t) (t:=(st (a * 4+b)).drop (k+1)) (L:=t') ha hb hab (by have:=HLN.out;rw [HM.out] at this;exact this) (by omega) (by rw [List.length_drop];have:=HI.out.lk.few (a * 4+b);omega)
          rw [←HM.out] at hlk
          have hRR:∀ r∈(⟨pm.a1,ml.nodes.length,pm.c1,ints ml.nodes⟩::⟨some ⟨gb,0,none⟩,1,c4,[.int .i64 ml.kind, .int .i64 ml.node, .int .i64 ml.walk, .bool ml.high, .slice pm.a1 ml.nodes.length pm.c1, .slice none 0 0, .slice none 0 0]⟩::R),r∈(⟨ra,l.length,rc,oms l⟩::(l.map Om.row++orows (oTake (o b) ((a:Int)+1) ml ds).1 x' (⟨pm.a1,ml.nodes.length,pm.c1,ints ml.nodes⟩::⟨some ⟨gb,0,none⟩,1,c4,[.int .i64 ml.kind, .int .i64 ml.node, .int .i64 ml.walk, .bool ml.high, .slice pm.a1 ml.nodes.length pm.c1, .slice none 0 0, .slice none 0 0]⟩::R)):List Rw):=fun r hr=>List.mem_cons_of_mem _ (List.mem_append.2 (.inr ((orows_app _ _ _ _).2 (.inr hr))))
          have hro:=((HI.out.rows.up (R2:=(⟨pm.a1,ml.nodes.length,pm.c1,ints ml.nodes⟩::⟨some ⟨gb,0,none⟩,1,c4,[.int .i64 ml.kind, .int .i64 ml.node, .int .i64 ml.walk, .bool ml.high, .slice pm.a1 ml.nodes.length pm.c1, .slice none 0 0, .slice none 0 0]⟩::R)) (fun r hr=>List.mem_cons_of_mem _ (List.mem_cons_of_mem _ hr))).sent (m:=m) (l:=((st m).drop (k+1))) (fun y hy=>List.mem_cons_of_mem _ (List.mem_cons_of_mem _ (HI.out.rows.way m y (List.mem_of_mem_drop hy))))).put (a:=b) (o':=(oTake (o b) ((a:Int)+1) ml ds).1) (x':=x') (R2:=⟨ra,l.length,rc,oms l⟩::(l.map Om.row++orows (oTake (o b) ((a:Int)+1) ml ds).1 x' (⟨pm.a1,ml.nodes.length,pm.c1,ints ml.nodes⟩::⟨some ⟨gb,0,none⟩,1,c4,[.int .i64 ml.kind, .int .i64 ml.node, .int .i64 ml.walk, .bool ml.high, .slice pm.a1 ml.nodes.length pm.c1, .slice none 0 0, .slice none 0 0]⟩::R))) (fun r hr=>List.mem_cons_of_mem _ (List.mem_append.2 (.inr ((orows_app _ _ _ _).2 (.inl hr))))) hRR
          refine ⟨Wb,_,_,_,bs,v2,_,_,lb,qb,ps,_,_,_,_,at_,by rw [hl];exact HT.out.1,hlk,HI.out.hat,HI.out.base,hro,fun r hr=>?_,M1.out.ofKp s14.kp,s14⟩
          rcases List.mem_cons.1 hr with rfl | hr
          ·exact List.mem_cons_self ..
          ·rcases List.mem_append.1 hr with hr | hr
           ·exact List.mem_cons_of_mem _ (List.mem_append_left _ hr)
           ·rcases List.mem_cons.1 hr with rfl | hr
            ·exact hRR _ (List.mem_cons_of_mem _ (List.mem_cons_self ..))
            ·exact hRR _ (List.mem_cons_of_mem _ (List.mem_cons_of_mem _ (HI.out.r0 r hr))))
         have hc1:w12.cell? ⟨bf,b,none⟩=some (.pointer (some ⟨bo b,0,none⟩)):=s14.cell 0 _ rfl (tf_o bo mb bs v2 _ _ hb)
         have hc2:=HGR2.out _ _ _ _ _ _ _ s14 (List.mem_cons_of_mem _ (List.mem_append.2 (.inr ((orows_app _ _ _ _).2 (.inr (List.mem_cons_of_mem _ (List.mem_cons_self ..)))))))
         have CS:=Lib.hid (tfSend_any W0 bf dp bo mb ca cc CU K b l ra rc [(⟨w1.heap.size, #[.bool false, .string ⟨y.txt.toArray⟩],88⟩:Blk)] (⟨ra,l.length,rc,oms l⟩::(l.map Om.row++(⟨some ⟨gb,0,none⟩,1,c4,[.int .i64 ml.kind, .int .i64 ml.node, .int .i64 ml.walk, .bool ml.high, .slice pm.a1 ml.nodes.length pm.c1, .slice none 0 0, .slice none 0 0]⟩:Rw)::R0)) w12 hb H15.out (List.mem_cons_self ..) (fun y hy=>List.mem_cons_of_mem _ (List.mem_append_left _ (List.mem_map_of_mem hy))) (fun y hy=>HT.out.2 _ (by rw [←hl];exact List.mem_map_of_mem hy)) (by rw [hl];exact HLT.out) (by have:=HK9.out;omega) hlf)
         clear s14 H15 hl
         go_wp2_with fail
         refine ⟨⟨⟨w12,hc1,hc2⟩,rfl⟩,?_⟩
         clear hc1 hc2
         refine wpV_e (by simp only [gtA,gtS,gtZ]<;>rfl) (by rfl) ?_
         go_wp2_with fail
         refine CS.out.mono ?_
         rintro e w13 ⟨rfl,h13⟩
         have H13:=Lib.hid h13
         clear CS h13
         go_wp2_with fail
         have hcl:w13.cell? ⟨bf,b,none⟩=some (.pointer (some ⟨bo b,0,none⟩))∧w13.rangeAt gb 0 [(.int .i64 ml.kind),(.int .i64 ml.node),(.int .i64 ml.walk),(.bool ml.high),(.slice pm.a1 ml.nodes.length pm.c1),(.slice none 0 0),(.slice none 0 0)]:=by
          obtain ⟨Wb9,O9,o9,x9,bs9,v9,ds9,R9,lb9,qb9,ps9,q9,sp9,st9,Lw9,at9,H9⟩:=H13.out
          exact ⟨H9.sta.cell 0 _ rfl (tf_o bo mb bs9 v9 _ _ hb),HGR2.out _ _ _ _ _ _ _ H9.sta (H9.r0 _ (List.mem_cons_of_mem _ (List.mem_append_right _ (List.mem_cons_self ..))))⟩
         refine ⟨⟨⟨w13,hcl⟩,rfl⟩,?_⟩
         clear hcl
         refine wpV_q (by simp only [gtA,gtS,gtZ]<;>rfl) (by rfl) (by rfl) ?_
         go_big_quiet_step (fail)
         refine wpQuiet_nil ?_
         refine wpV_done ?_
         clear this zb zg0 zg1 zg2 zg3 zg4 zg5 zg6
         have HD:Hid (TfSt W0 bf dp bo mb ca cc CU (K+70) b [] [] R0 w13):=Lib.hid (((TfSt.lessB (B':=[]) (B2:=[(⟨w1.heap.size, #[.bool false, .string ⟨y.txt.toArray⟩],88⟩:Blk)]) H13.out).lessR (fun r hr=>List.mem_cons_of_mem _ (List.mem_append_right _ (List.mem_cons_of_mem _ hr)))).more (by omega))
         clear H13 hlf HGR2
         go_wp2_with fail
         go_roundw
         case rel=>exact .inr ⟨by go_num,HD.out⟩
         case measure=>simp [intOf]
        ·rw [decide_eq_false (fun e=>heq (msg_inj.1 e))]
         have HNE:=Lib.hid heq
         clear heq
         go_wp2_with fail
         refine ⟨⟨⟨w6,⟨(by rw [show 21+a * 4+b=21+m by have:=HM.out;omega, ←HV.out];exact S9.out.cell 1 _ rfl (tf_v bo mb bs v _ _ hm16)),HSR.out w6 S9.out,HGR.out w6 S9.out⟩⟩,rfl⟩,?_⟩
         refine wpV_q (by simp only [gtA,gtS,gtZ]<;>rfl) (by rfl) (by rfl) ?_
         go_big_quiet_step (fail)
         refine wpQuiet_nil ?_
         refine wpV_q (by simp only [gtA,gtS,gtZ]<;>rfl) (by rfl) (by rfl) ?_
         go_big_quiet_step (fail)
         refine wpQuiet_nil ?_
         refine wpV_done ?_
         clear zv zs0 zs1 zs2 zs3 zs4 zs5 zs6 zg0 zg1 zg2 zg3 zg4 zg5 zg6 this hkc
         go_wp2_with fail
         go_roundw
         case rel=>
          refine ⟨k+1,by go_num,hkn,GK3.out,fun i hi=>?_⟩
          rcases Nat.lt_or_eq_of_le (Nat.lt_succ_iff.1 hi) with h | h
          ·exact HNO.out i h
          ·rw [h,List.getElem?_map,HSK.out]
           exact fun e=>HNE.out (by simpa using e)
         case measure=>simp [intOf];omega
       ·exfalso
        obtain ⟨i,hi⟩:=List.getElem?_of_mem HME.out
        refine HNO.out i ?_ hi
        have:=(List.getElem?_eq_some_iff.1 hi).1
        rw [List.length_map, ←HN.out] at this
        omega
end
end Go.Proofs.YtelepohdfcjnfaaGreat
