/-
  TopFrames: joins.
-/
import Derived.Test.YtelepohdfcjnfaaGreatZOverTake
import Derived.Test.YtelepohdfcjnfaaGreatZOvSpk
import Derived.Test.YtelepohdfcjnfaaGreatZStrEnds
import Derived.Test.YtelepohdfcjnfaaGreatZMesh
import Derived.Test.YtelepohdfcjnfaaGreatZOpDef
namespace Go.Proofs.YtelepohdfcjnfaaGreat
set_option maxHeartbeats 4000000
set_option maxRecDepth 100000
open Go.RowKit Go.Proofs
def cfgJ:Cf:=⟨2,2,2,1,0,0,3,[2]⟩
theorem tfj_tick:∃ o',oTick (oNew 1 cfgJ) []=(o',[⟨2,1,0,0,false,[]⟩],[]):=⟨_,rfl⟩
theorem tfj_good:(cGood cfgJ&&cIn 1 1 65535)=true:=by decide
abbrev jn1:Msg:=⟨1,0,0,false,[],[],[]⟩
theorem jn1_code:jn1.code=0:=by decide
theorem jn1_frame:jn1.frame=⟨jn1.frB.toArray⟩:=by unfold Msg.frame;rw [if_pos jn1_code]
theorem jn1_feed:feed ([]++jn1.frB)=([jn1],[],0):=by rfl
theorem tfJoins_any (W:World):Calls Tryz.prog 5 #[] W fun e w'=>e= .returned (.bool true)∧Gr W w':=by
 obtain ⟨w1,hw1⟩:∃ w1,w1=W.alloc (.cells #[.int .i64 2] 3):=⟨_,rfl⟩
 have ST1:Hid (Sta W Ori.all (.pointer none) [] [] [] [⟨some ⟨W.heap.size,0,none⟩,1,1,ints [2]⟩] w1):=Lib.hid (by
  have h0:Sta W Ori.all (.pointer none) [] [] [] [] W:=Sta.initR (R:=[]) (fun _ h=>nomatch h)
  obtain ⟨a,cap,e,h⟩:=(h0.ownNew (w':=w1) (b:=W.heap.size) (n:=1) (sz:=1) (e:=3) (xs:=ints [2]) (by rw [hw1];exact (Fr.refl _ _).alloc _) (by rw [hw1,heap_alloc_if,if_pos rfl];rfl) (Nat.le_refl _) rfl (by decide)).asRow 0 rfl
  injection e with e1 e2 e3
  subst e1 e3
  exact h)
 have HW1:=Lib.hid hw1
 have CN:=Lib.hid (fun sa sc w h=>ovNew_any 1 cfgJ sa sc (.pointer none) [] W Ori.all [] [] [] w h)
 unfold NewEnd at CN
 simp only [tfj_good,if_true] at CN
 obtain ⟨o',hT⟩:=tfj_tick
 have CT:=Lib.hid (fun bo x w h=>ovTick_any (oNew 1 cfgJ) x (.pointer none) [] W Ori.all [] [] [] bo w h (oNew_ok 1 cfgJ (by decide)))
 rw [hT] at CT
 simp only at CT
 unfold OEndM at CT
 clear hT hw1
 go_enter Tryz.func5,Tryz.ntmps5
 go_wp2_with (rw [←HW1.out])
 refine (CN.out _ _ _ ST1.out).mono ?_
 rintro e w2 ⟨bo,x,rfl,hst⟩
 have ST2:=Lib.hid hst
 clear hst CN ST1 HW1
 go_wp2_with fail
 refine (CT.out _ _ _ ST2.out).mono ?_
 rintro e w3 ⟨x',ov,l,hl,rfl,hst⟩
 have hlen:=congrArg List.length hl
 simp only [List.length_map,List.length_cons,List.length_nil] at hlen
 obtain ⟨a,rfl⟩:∃ a:Om,l=[a]:=by
  match l,hlen with
  | [a],_=>exact ⟨a,rfl⟩
 have ham:a.m=⟨2,1,0,0,false,[]⟩:=by simpa using hl
 obtain ⟨m,na,nc⟩:=a
 simp only at ham
 subst ham
 obtain ⟨g,c,rfl⟩:=hst.ownForm 0 rfl (by simp)
 have g1:=(hst.ownCell 0 rfl 1 rfl).1
 have g2:=(hst.ownCell 0 rfl 2 rfl).1
 have g3:=(hst.ownCell 0 rfl 3 rfl).1
 have g4:=(hst.ownCell 0 rfl 4 rfl).1
 have g5:=(hst.ownCell 0 rfl 5 rfl).1
 have g6:=(hst.ownCell 0 rfl 6 rfl).1
 have g7:=(hst.ownCell 0 rfl 7 rfl).1
 have hrow:SlA w3 na 0 nc []:=hst.row ⟨na,0,nc,[]⟩ (List.mem_cons_self ..)
 have F3:=Lib.hid (hst.fr.mono (T:=fun _=>False) (fun k _ h=>absurd h (pn_no k)))
 have m1:1≤c:=by
  obtain ⟨a',c',e9,h9, -⟩:=SlA.of_own (hst.ownAt 0 rfl)
  injection e9 with _ _ e9
  have:=h9.le
  rw [←e9] at this
  simpa using this
 have CF:=Lib.hid (frame_any jn1 ⟨na,nc,none,0,none,0⟩ w3 (by unfold Msg.fits;simp) ⟨hrow,SlA.nil _,SlA.nil _⟩)
 rw [jn1_code,jn1_frame] at CF
 clear hst hl CT ST2 hrow
 go_wp2_with fail
 refine CF.out.mono ?_
 rintro e w4 ⟨rfl,f4⟩
 have F4:=Lib.hid (Gr.trans F3.out f4)
 clear f4 CF g1 g2 g3 g4 g5 g6 g7 m1 hlen F3
 generalize hfr:jn1.frB=fr at *
 have HFR:=Lib.hid hfr
 clear hfr
 go_wp2_with fail
 refine (meshNew_any w4).mono ?_
 rintro e w5 ⟨mb,lb,qb,rfl,f5,m5,hmb⟩
 have F5:=Lib.hid (Gr.trans F4.out f5)
 have M5:=Lib.hid m5
 have HLB:=Lib.hid (show W.heap.size≤lb from Nat.le_trans F4.out.size hmb)
 clear f5 m5 F4 hmb
 go_wp2_with fail
 refine (meshUp_any M5.out 1 (by decide) (by decide) (by simp)).mono ?_
 rintro e w6 ⟨rfl,f6,m6⟩
 have F6:=Lib.hid f6
 have M6:=Lib.hid m6
 clear f6 m6 M5
 go_wp2_with fail
 refine (meshUp_any M6.out 2 (by decide) (by decide) (by simp)).mono ?_
 rintro e w7 ⟨rfl,f7,m7⟩
 have F7:=Lib.hid (F6.out.nc f7)
 have M7:=Lib.hid m7
 clear f7 m7 M6 F6
 go_wp2_with fail
 refine (meshSend_any M7.out 1 2 fr (by simp) (by simp) (by decide) (by decide)).mono ?_
 rintro e w8 ⟨rfl,f8,ps8,m8⟩
 have F8:=Lib.hid (F7.out.nc f8)
 have M8:=Lib.hid m8
 clear f8 m8 M7 F7
 go_wp2_with fail
 have hq:upq (fun _ _=>[]) 1 2 ([]++[⟨false,fr⟩]) 1 2=[⟨false,fr⟩]:=rfl
 have CT:=Lib.hid (meshTake_any M8.out 1 2)
 rw [hq] at CT
 simp only [List.headD_cons,List.isEmpty_cons,Bool.not_false] at CT
 clear hq
 refine CT.out.mono ?_
 rintro e w9 ⟨rfl,f9,m9⟩
 clear m9
 obtain ⟨w10,hw10⟩:∃ w10,w10=w9.alloc (.cells #[.bool false, .string ⟨fr.toArray⟩] 88):=⟨_,rfl⟩
 obtain ⟨w11,hw11⟩:∃ w11,w11=w10.alloc (.cells #[.string ⟨#[]⟩, .int .i64 0] 47):=⟨_,rfl⟩
 have F11:Hid (Gr W w11):=Lib.hid (by rw [hw11,hw10];exact ((Fr.trans F5.out (F8.out.nc f9) (fun k hk=> .inr (Nat.le_trans HLB.out hk.2))).alloc _).alloc _)
 have S11:Hid (SplAt w11 w10.heap.size [] 0):=Lib.hid (by unfold SplAt;rw [hw11,heap_alloc_if,if_pos rfl])
 have B11:w11.heap[w9.heap.size]?=some (.cells #[.bool false, .string ⟨fr.toArray⟩] 88 (0,0)):=by
  rw [hw11,heap_alloc_if,if_neg (by rw [hw10];simp),hw10,heap_alloc_if,if_pos rfl]
 have y1:w11.cell? ⟨w9.heap.size,1,none⟩=some (.string ⟨fr.toArray⟩):=by rw [Lib.cell_of_heap B11];rfl
 have HS:Hid (W.heap.size≤w10.heap.size):=Lib.hid (by rw [hw10];have:=(F8.out.nc f9).size;have:=F5.out.size;simp;omega)
 have H10:=Lib.hid hw10
 have H11:=Lib.hid hw11
 clear f9 F8 M8 CT B11 hw10 hw11
 go_wp2_with (first | rw [←H10.out] | rw [←H11.out])
 have hsm:([]:List UInt8).length+fr.length≤1000000:=by rw [←HFR.out];decide
 have C3:=Lib.hid (feed_any S11.out (t:=fr) hsm)
 clear hsm y1 H10 H11
 refine C3.out.mono ?_
 rintro e w12 h12
 obtain ⟨f12, -, L,b,cap',hL,rfl,hM⟩:=feed_ends h12
 rw [←HFR.out,jn1_feed] at hL
 obtain ⟨p,rfl⟩:=one_of hL
 obtain ⟨bb,o,rfl,hc⟩:=hM.get 0 (Nat.zero_lt_one)
 have F12:Hid (Gr W w12):=Lib.hid (Fr.trans F11.out f12 (fun k h=> .inr (by
  have h1:=F11.out.size
  have h2:=S11.out.lt
  rcases Nat.lt_or_ge k W.heap.size with h3 | h3
  ·exfalso
   subst h
   have h4:=HS.out
   omega
  ·exact h3)))
 have c0:w12.cell? ⟨bb,o,none⟩=some (.int .i64 1):=by have:=hc 0 _ rfl;simpa using this
 have hcap:1≤cap':=by
  obtain ⟨a',c',e9,h9, -⟩:=SlA.of_own hM.row
  injection e9 with _ _ e9
  have:=h9.le
  rw [←e9] at this
  simpa using this
 clear f12 hL h12 C3 F11 S11 hM hc
 go_wp2_with fail
 go_ret
 exact ⟨rfl,F12.out⟩
end Go.Proofs.YtelepohdfcjnfaaGreat
