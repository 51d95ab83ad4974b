/-
  slices.Equal at []int, []message.Id, []message.Rec (printed by gen_sleq.py).
-/
import Derived.Test.YtelepohdfcjnfaaGreatZMsgDec
import Derived.Laws.StructEq
import Derived.ChangeKeysEq
namespace Go.Proofs.YtelepohdfcjnfaaGreat
set_option maxHeartbeats 4000000
set_option maxRecDepth 100000
section
open Go.RowKit Go.Proofs
theorem str_beq (a b:ByteArray):(a.toList==b.toList)=decide (a=b):=by
 rw [ByteArray.toList_eq,ByteArray.toList_eq,Bool.eq_iff_iff]
 simp only [beq_iff_eq,decide_eq_true_eq]
 constructor
 ·intro h;apply ByteArray.ext;exact Array.ext' h
 ·intro h;rw [h]
theorem eql_id (w:World) (x y:MId):(Op.equalIn 10000 154 x.val y.val).run Tryz.prog w= .ok (decide (x=y)) w:=by
 obtain ⟨a,b⟩:=x
 obtain ⟨c,d⟩:=y
 simp [go_sem,str_beq]
 by_cases h1:a=c<;>by_cases h2:b=d<;>simp [h1,h2]
theorem eql_rec (w:World) (x y:MRec):(Op.equalIn 10000 157 x.val y.val).run Tryz.prog w= .ok (decide (x=y)) w:=by
 obtain ⟨a1,a2,a3,a4,a5,a6⟩:=x
 obtain ⟨b1,b2,b3,b4,b5,b6⟩:=y
 simp [go_sem,str_beq]
 by_cases h1:a1=b1<;>by_cases h2:a2=b2<;>by_cases h3:a3=b3<;>by_cases h4:a4=b4<;>by_cases h5:a5=b5<;>by_cases h6:a6=b6<;>simp [h1,h2,h3,h4,h5,h6]
theorem take_eq_succ {α:Type} {l1 l2:List α} {k:Nat} (h1:k<l1.length) (h2:k<l2.length) (h:l1.take k=l2.take k) (he:l1[k]=l2[k]):l1.take (k+1)=l2.take (k+1):=by
 rw [List.take_succ_eq_append_getElem h1,List.take_succ_eq_append_getElem h2,h,he]
theorem ne_of_get {α:Type} {l1 l2:List α} {k:Nat} (h1:k<l1.length) (h2:k<l2.length) (he:l1[k]≠l2[k]):l1≠l2:=by
 intro h;subst h;exact he rfl
theorem equal_int (a1 a2:Option Addr) (c1 c2:Nat) (l1 l2:List Int) (w:World) (h1:SlA w a1 l1.length c1 (l1.flatMap MInt.cells)) (h2:SlA w a2 l2.length c2 (l2.flatMap MInt.cells)):
  Calls Tryz.prog 76 #[.slice a1 l1.length c1, .slice a2 l2.length c2] w fun e w'=>e= .returned (.bool (decide (l1=l2)))∧∃ n,w'=w.drewN n:=by
 have hle1:=h1.le
 have hmx1:=h1.max
 have hle2:=h2.le
 have hmx2:=h2.max
 have H1:=Lib.hid h1;clear h1
 have H2:=Lib.hid h2;clear h2
 by_cases hl:l1.length=l2.length
 case neg=>
  have hd:decide (l1=l2)=false:=by simp;intro h;exact hl (by rw [h])
  have HD:=Lib.hid hd
  clear hd
  have hn:decide ((l1.length:Int)=(l2.length:Int))=false:=by simp;omega
  go_enter Tryz.func76,Tryz.ntmps76
  go_wp2_with fail
  go_ret
  exact ⟨by rw [HD.out];rfl,0,rfl⟩
 case pos=>
  have HL:=Lib.hid hl
  obtain ⟨n,hn⟩:∃ n,n=l1.length:=⟨_,rfl⟩
  have hn2:n=l2.length:=by omega
  have HN1:=Lib.hid hn
  have HN2:=Lib.hid hn2
  rw [←hn] at hle1
  rw [←hn2] at hle2
  clear hl
  rw [←hn, ←hn2]
  clear hn hn2
  go_enter Tryz.func76,Tryz.ntmps76
  go_wp2_with fail
  go_loopw [5,13] (fun jv iv wr=>∃ k:Nat,iv= .int .i64 k∧k≤n∧Hid (l1.take k=l2.take k)∧∃ q,wr=w.drewN q) (fun _ iv _=>n-(intOf iv).toNat)
  case atStart=>exact ⟨0,rfl,Nat.zero_le _,Lib.hid rfl,0,rfl⟩
  case round=>
   obtain ⟨k,rfl,hk,HT,q,rfl⟩:=hrel
   by_cases hlt:k<n
   ·have hk1:k<l1.length:=by have:=HN1.out;omega
    have hk2:k<l2.length:=by have:=HN2.out;omega
    obtain ⟨b1,o1,rfl,hc⟩:=H1.out.elem (f:=MInt.cells) (n:=1) (fun _=>rfl) (by decide) k hk1
    have hc1_0:=hc 0 _ rfl
    clear hc
    obtain ⟨b2,o2,rfl,hc⟩:=H2.out.elem (f:=MInt.cells) (n:=1) (fun _=>rfl) (by decide) k hk2
    have hc2_0:=hc 0 _ rfl
    clear hc
    have HS:Hid (l1[k]=l2[k]→l1.take (k+1)=l2.take (k+1)):=Lib.hid (take_eq_succ hk1 hk2 HT.out)
    have HX:Hid (l1[k]≠l2[k]→l1≠l2):=Lib.hid (ne_of_get hk1 hk2)
    generalize l1[k]=x at *
    generalize l2[k]=y at *
    clear hk1 hk2
    simp only [Nat.add_zero,Nat.mul_one] at hc1_0 hc2_0
    by_cases he:x=y
    ·have HS2:=Lib.hid (HS.out he)
     have hb:(x==y)=true:=by simpa using he
     clear HS HX he
     go_wp2_with fail
     go_quiet (fail)
     go_wp2_with fail
     go_roundw
     case rel=>exact ⟨k+1,by go_num,by omega,HS2,_,rfl⟩
     case measure=>simp [intOf];omega
    ·have HX2:=Lib.hid (HX.out he)
     have hb:(x==y)=false:=by simpa using he
     have hb2:decide (x=y)=false:=by simpa using he
     clear HS HX he
     go_wp2_with fail
     go_quiet (fail)
     go_wp2_with fail
     go_ret
     exact ⟨by rw [decide_eq_false HX2.out];rfl,_,World.drewN_drewN w _ _⟩
   ·have hEQ:l1=l2:=by
     have:=HT.out
     rwa [List.take_of_length_le (by have:=HN1.out;omega),List.take_of_length_le (by have:=HN2.out;omega)] at this
    have HE:=Lib.hid hEQ
    clear hEQ
    go_wp2_with fail
    go_ret
    exact ⟨by rw [decide_eq_true HE.out];rfl,q,rfl⟩
theorem equal_id (a1 a2:Option Addr) (c1 c2:Nat) (l1 l2:List MId) (w:World) (h1:SlA w a1 l1.length c1 (l1.flatMap MId.cells)) (h2:SlA w a2 l2.length c2 (l2.flatMap MId.cells)):
  Calls Tryz.prog 77 #[.slice a1 l1.length c1, .slice a2 l2.length c2] w fun e w'=>e= .returned (.bool (decide (l1=l2)))∧∃ n,w'=w.drewN n:=by
 have hle1:=h1.le
 have hmx1:=h1.max
 have hle2:=h2.le
 have hmx2:=h2.max
 have H1:=Lib.hid h1;clear h1
 have H2:=Lib.hid h2;clear h2
 by_cases hl:l1.length=l2.length
 case neg=>
  have hd:decide (l1=l2)=false:=by simp;intro h;exact hl (by rw [h])
  have HD:=Lib.hid hd
  clear hd
  have hn:decide ((l1.length:Int)=(l2.length:Int))=false:=by simp;omega
  go_enter Tryz.func77,Tryz.ntmps77
  go_wp2_with fail
  go_ret
  exact ⟨by rw [HD.out];rfl,0,rfl⟩
 case pos=>
  have HL:=Lib.hid hl
  obtain ⟨n,hn⟩:∃ n,n=l1.length:=⟨_,rfl⟩
  have hn2:n=l2.length:=by omega
  have HN1:=Lib.hid hn
  have HN2:=Lib.hid hn2
  rw [←hn] at hle1
  rw [←hn2] at hle2
  clear hl
  rw [←hn, ←hn2]
  clear hn hn2
  go_enter Tryz.func77,Tryz.ntmps77
  go_wp2_with fail
  go_loopw [5,13] (fun jv iv wr=>∃ k:Nat,iv= .int .i64 k∧k≤n∧Hid (l1.take k=l2.take k)∧∃ q,wr=w.drewN q) (fun _ iv _=>n-(intOf iv).toNat)
  case atStart=>exact ⟨0,rfl,Nat.zero_le _,Lib.hid rfl,0,rfl⟩
  case round=>
   obtain ⟨k,rfl,hk,HT,q,rfl⟩:=hrel
   by_cases hlt:k<n
   ·have hk1:k<l1.length:=by have:=HN1.out;omega
    have hk2:k<l2.length:=by have:=HN2.out;omega
    obtain ⟨b1,o1,rfl,hc⟩:=H1.out.elem (f:=MId.cells) (n:=2) (fun _=>rfl) (by decide) k hk1
    have hc1_0:=hc 0 _ rfl
    have hc1_1:=hc 1 _ rfl
    clear hc
    obtain ⟨b2,o2,rfl,hc⟩:=H2.out.elem (f:=MId.cells) (n:=2) (fun _=>rfl) (by decide) k hk2
    have hc2_0:=hc 0 _ rfl
    have hc2_1:=hc 1 _ rfl
    clear hc
    have HS:Hid (l1[k]=l2[k]→l1.take (k+1)=l2.take (k+1)):=Lib.hid (take_eq_succ hk1 hk2 HT.out)
    have HX:Hid (l1[k]≠l2[k]→l1≠l2):=Lib.hid (ne_of_get hk1 hk2)
    generalize l1[k]=x at *
    generalize l2[k]=y at *
    clear hk1 hk2
    simp only [Nat.add_zero] at hc1_0 hc2_0
    by_cases he:x=y
    ·have HS2:=Lib.hid (HS.out he)
     have hb:∀ w,(Op.equalIn 10000 154 x.val y.val).run Tryz.prog w= .ok true w:=fun w=>by rw [eql_id,decide_eq_true he]
     clear HS HX he
     go_wp2_with fail
     go_quiet (fail)
     go_wp2_with fail
     go_roundw
     case rel=>exact ⟨k+1,by go_num,by omega,HS2,_,rfl⟩
     case measure=>simp [intOf];omega
    ·have HX2:=Lib.hid (HX.out he)
     have hb:∀ w,(Op.equalIn 10000 154 x.val y.val).run Tryz.prog w= .ok false w:=fun w=>by rw [eql_id,decide_eq_false he]
     clear HS HX he
     go_wp2_with fail
     go_quiet (fail)
     go_wp2_with fail
     go_ret
     exact ⟨by rw [decide_eq_false HX2.out];rfl,_,World.drewN_drewN w _ _⟩
   ·have hEQ:l1=l2:=by
     have:=HT.out
     rwa [List.take_of_length_le (by have:=HN1.out;omega),List.take_of_length_le (by have:=HN2.out;omega)] at this
    have HE:=Lib.hid hEQ
    clear hEQ
    go_wp2_with fail
    go_ret
    exact ⟨by rw [decide_eq_true HE.out];rfl,q,rfl⟩
theorem equal_rec (a1 a2:Option Addr) (c1 c2:Nat) (l1 l2:List MRec) (w:World) (h1:SlA w a1 l1.length c1 (l1.flatMap MRec.cells)) (h2:SlA w a2 l2.length c2 (l2.flatMap MRec.cells)):
  Calls Tryz.prog 78 #[.slice a1 l1.length c1, .slice a2 l2.length c2] w fun e w'=>e= .returned (.bool (decide (l1=l2)))∧∃ n,w'=w.drewN n:=by
 have hle1:=h1.le
 have hmx1:=h1.max
 have hle2:=h2.le
 have hmx2:=h2.max
 have H1:=Lib.hid h1;clear h1
 have H2:=Lib.hid h2;clear h2
 by_cases hl:l1.length=l2.length
 case neg=>
  have hd:decide (l1=l2)=false:=by simp;intro h;exact hl (by rw [h])
  have HD:=Lib.hid hd
  clear hd
  have hn:decide ((l1.length:Int)=(l2.length:Int))=false:=by simp;omega
  go_enter Tryz.func78,Tryz.ntmps78
  go_wp2_with fail
  go_ret
  exact ⟨by rw [HD.out];rfl,0,rfl⟩
 case pos=>
  have HL:=Lib.hid hl
  obtain ⟨n,hn⟩:∃ n,n=l1.length:=⟨_,rfl⟩
  have hn2:n=l2.length:=by omega
  have HN1:=Lib.hid hn
  have HN2:=Lib.hid hn2
  rw [←hn] at hle1
  rw [←hn2] at hle2
  clear hl
  rw [←hn, ←hn2]
  clear hn hn2
  go_enter Tryz.func78,Tryz.ntmps78
  go_wp2_with fail
  go_loopw [5,13] (fun jv iv wr=>∃ k:Nat,iv= .int .i64 k∧k≤n∧Hid (l1.take k=l2.take k)∧∃ q,wr=w.drewN q) (fun _ iv _=>n-(intOf iv).toNat)
  case atStart=>exact ⟨0,rfl,Nat.zero_le _,Lib.hid rfl,0,rfl⟩
  case round=>
   obtain ⟨k,rfl,hk,HT,q,rfl⟩:=hrel
   by_cases hlt:k<n
   ·have hk1:k<l1.length:=by have:=HN1.out;omega
    have hk2:k<l2.length:=by have:=HN2.out;omega
    obtain ⟨b1,o1,rfl,hc⟩:=H1.out.elem (f:=MRec.cells) (n:=6) (fun _=>rfl) (by decide) k hk1
    have hc1_0:=hc 0 _ rfl
    have hc1_1:=hc 1 _ rfl
    have hc1_2:=hc 2 _ rfl
    have hc1_3:=hc 3 _ rfl
    have hc1_4:=hc 4 _ rfl
    have hc1_5:=hc 5 _ rfl
    clear hc
    obtain ⟨b2,o2,rfl,hc⟩:=H2.out.elem (f:=MRec.cells) (n:=6) (fun _=>rfl) (by decide) k hk2
    have hc2_0:=hc 0 _ rfl
    have hc2_1:=hc 1 _ rfl
    have hc2_2:=hc 2 _ rfl
    have hc2_3:=hc 3 _ rfl
    have hc2_4:=hc 4 _ rfl
    have hc2_5:=hc 5 _ rfl
    clear hc
    have HS:Hid (l1[k]=l2[k]→l1.take (k+1)=l2.take (k+1)):=Lib.hid (take_eq_succ hk1 hk2 HT.out)
    have HX:Hid (l1[k]≠l2[k]→l1≠l2):=Lib.hid (ne_of_get hk1 hk2)
    generalize l1[k]=x at *
    generalize l2[k]=y at *
    clear hk1 hk2
    simp only [Nat.add_zero] at hc1_0 hc2_0
    by_cases he:x=y
    ·have HS2:=Lib.hid (HS.out he)
     have hb:∀ w,(Op.equalIn 10000 157 x.val y.val).run Tryz.prog w= .ok true w:=fun w=>by rw [eql_rec,decide_eq_true he]
     clear HS HX he
     go_wp2_with fail
     go_quiet (fail)
     go_wp2_with fail
     go_roundw
     case rel=>exact ⟨k+1,by go_num,by omega,HS2,_,rfl⟩
     case measure=>simp [intOf];omega
    ·have HX2:=Lib.hid (HX.out he)
     have hb:∀ w,(Op.equalIn 10000 157 x.val y.val).run Tryz.prog w= .ok false w:=fun w=>by rw [eql_rec,decide_eq_false he]
     clear HS HX he
     go_wp2_with fail
     go_quiet (fail)
     go_wp2_with fail
     go_ret
     exact ⟨by rw [decide_eq_false HX2.out];rfl,_,World.drewN_drewN w _ _⟩
   ·have hEQ:l1=l2:=by
     have:=HT.out
     rwa [List.take_of_length_le (by have:=HN1.out;omega),List.take_of_length_le (by have:=HN2.out;omega)] at this
    have HE:=Lib.hid hEQ
    clear hEQ
    go_wp2_with fail
    go_ret
    exact ⟨by rw [decide_eq_true HE.out];rfl,q,rfl⟩
end
section
open Go.RowKit Go.Proofs
theorem Gr.drewN {w w':World} (h:Gr w w') (n:Nat):Gr w (w'.drewN n):=Fr.drewN h n
theorem Msg.eq_parts (a b:Msg):decide (a=b)=((a.kind==b.kind)&&(a.node==b.node)&&(a.walk==b.walk)&&(a.high==b.high)&&decide (a.nodes=b.nodes)&&decide (a.ids=b.ids)&&decide (a.recs=b.recs)):=by
 cases a;cases b
 rw [Bool.eq_iff_iff]
 simp [and_assoc]
theorem same_any (a b:Msg) (p q:MsgP) (W:World) (ha:MsgAt W a p) (hb:MsgAt W b q):Calls Tryz.prog 40 #[a.val p,b.val q] W fun e w'=>e= .returned (.bool (decide (a=b)))∧Gr W w':=by
 have HR:Hid (decide (a=b)=((a.kind==b.kind)&&(a.node==b.node)&&(a.walk==b.walk)&&(a.high==b.high)&&decide (a.nodes=b.nodes)&&decide (a.ids=b.ids)&&decide (a.recs=b.recs))):=Lib.hid (Msg.eq_parts a b)
 have E5:=Lib.hid (fun w' (f:Gr W w')=>equal_int p.a1 q.a1 p.c1 q.c1 a.nodes b.nodes w' (ha.keep f).nodes (hb.keep f).nodes)
 have E6:=Lib.hid (fun w' (f:Gr W w')=>equal_id p.a2 q.a2 p.c2 q.c2 a.ids b.ids w' (ha.keep f).ids (hb.keep f).ids)
 have E7:=Lib.hid (fun w' (f:Gr W w')=>equal_rec p.a3 q.a3 p.c3 q.c3 a.recs b.recs w' (ha.keep f).recs (hb.keep f).recs)
 generalize decide (a.nodes=b.nodes)=b5 at *
 generalize decide (a.ids=b.ids)=b6 at *
 generalize decide (a.recs=b.recs)=b7 at *
 generalize decide (a=b)=r at *
 clear ha hb
 by_cases h1:a.kind=b.kind
 case neg=>
  have eh1:(a.kind==b.kind)=false:=by simpa using h1
  have dh1:decide (a.kind=b.kind)=false:=by simpa using h1
  clear h1
  obtain rfl:r=false:=by rw [HR.out,eh1];rfl
  clear HR
  go_enter Tryz.func40,Tryz.ntmps40
  go_wp2_with fail
  go_ret
  exact ⟨rfl,((Fr.refl _ _).alloc _).alloc _⟩
 have eh1:(a.kind==b.kind)=true:=by simpa using h1
 have dh1:decide (a.kind=b.kind)=true:=by simpa using h1
 clear h1
 by_cases h2:a.node=b.node
 case neg=>
  have eh2:(a.node==b.node)=false:=by simpa using h2
  have dh2:decide (a.node=b.node)=false:=by simpa using h2
  clear h2
  obtain rfl:r=false:=by rw [HR.out,eh1,eh2];rfl
  clear HR
  go_enter Tryz.func40,Tryz.ntmps40
  go_wp2_with fail
  go_ret
  exact ⟨rfl,((Fr.refl _ _).alloc _).alloc _⟩
 have eh2:(a.node==b.node)=true:=by simpa using h2
 have dh2:decide (a.node=b.node)=true:=by simpa using h2
 clear h2
 by_cases h3:a.walk=b.walk
 case neg=>
  have eh3:(a.walk==b.walk)=false:=by simpa using h3
  have dh3:decide (a.walk=b.walk)=false:=by simpa using h3
  clear h3
  obtain rfl:r=false:=by rw [HR.out,eh1,eh2,eh3];rfl
  clear HR
  go_enter Tryz.func40,Tryz.ntmps40
  go_wp2_with fail
  go_ret
  exact ⟨rfl,((Fr.refl _ _).alloc _).alloc _⟩
 have eh3:(a.walk==b.walk)=true:=by simpa using h3
 have dh3:decide (a.walk=b.walk)=true:=by simpa using h3
 clear h3
 by_cases h4:a.high=b.high
 case neg=>
  have eh4:(a.high==b.high)=false:=by simpa using h4
  clear h4
  obtain rfl:r=false:=by rw [HR.out,eh1,eh2,eh3,eh4];rfl
  clear HR
  go_enter Tryz.func40,Tryz.ntmps40
  go_wp2_with fail
  go_ret
  exact ⟨rfl,((Fr.refl _ _).alloc _).alloc _⟩
 have eh4:(a.high==b.high)=true:=by simpa using h4
 clear h4
 go_enter Tryz.func40,Tryz.ntmps40
 go_wp2_with fail
 refine (E5.out _ (((Fr.refl _ _).alloc _).alloc _)).mono ?_
 rintro e w1 ⟨rfl,n1,rfl⟩
 have F1:=Lib.hid (((Fr.refl (fun _=>False) W).alloc (.cells (a.arr p) 76)).alloc (.cells (b.arr q) 76))
 cases b5
 case false=>
  obtain rfl:r=false:=by rw [HR.out,eh1,eh2,eh3,eh4];rfl
  clear HR
  go_wp2_with fail
  go_ret
  exact ⟨rfl,F1.out.drewN _⟩
 go_wp2_with fail
 refine (E6.out _ (F1.out.drewN _)).mono ?_
 rintro e w2 ⟨rfl,n2,rfl⟩
 cases b6
 case false=>
  obtain rfl:r=false:=by rw [HR.out,eh1,eh2,eh3,eh4];rfl
  clear HR
  go_wp2_with fail
  go_ret
  exact ⟨rfl,F1.out.drewN _⟩
 go_wp2_with fail
 refine (E7.out _ (F1.out.drewN _)).mono ?_
 rintro e w3 ⟨rfl,n3,rfl⟩
 obtain rfl:r=b7:=by rw [HR.out,eh1,eh2,eh3,eh4];rfl
 clear HR
 go_wp2_with fail
 go_ret
 exact ⟨rfl,F1.out.drewN _⟩
end
end Go.Proofs.YtelepohdfcjnfaaGreat
