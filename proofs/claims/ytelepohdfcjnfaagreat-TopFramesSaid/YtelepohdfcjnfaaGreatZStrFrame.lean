/-
  Frames and splitters of streams, on bytes as lists. No program here but the messages' specification.
-/
import Derived.Test.YtelepohdfcjnfaaGreatZMsgSpec
import Derived.Test.YtelepohdfcjnfaaGreatZMsgSame
namespace Go.Proofs.YtelepohdfcjnfaaGreat
set_option maxHeartbeats 2000000
set_option maxRecDepth 100000
section
open Go.RowKit Go.Proofs
def Msg.frB (m:Msg):List UInt8:=numB 2 m.enc.length++m.enc
def Msg.frame (m:Msg):ByteArray:=if m.code=0 then ⟨m.frB.toArray⟩ else ⟨#[]⟩
def nextS (s:List UInt8):Option Msg×List UInt8×Int:=
 if s.length<2 then (none,s,0) else
 if 4096<getNum (s.take 2) then (none,[],3) else
 if s.length<2+getNum (s.take 2) then (none,s,0) else
 match Msg.dec ((s.drop 2).take (getNum (s.take 2))) with
 | .ref c=>(none,[],c)
 | .ok m _=>(some m,s.drop (2+getNum (s.take 2)),0)
def feedN:Nat→List UInt8→List Msg×List UInt8×Int
 | 0,s=>([],s,0)
 | k+1,s=>match nextS s with
  | (none,r)=>([],r)
  | (some m,s',_)=>(m::(feedN k s').1,(feedN k s').2)
def feed (s:List UInt8):List Msg×List UInt8×Int:=feedN s.length s
theorem nextS_some {s s':List UInt8} {m:Msg} {b:Int} (h:nextS s=(some m,s',b)):s'.length+2≤s.length∧b=0:=by
 unfold nextS at h
 split at h
 ·cases h
 ·split at h
  ·cases h
  ·split at h
   ·cases h
   ·split at h
    ·cases h
    ·simp only [Prod.mk.injEq] at h
     obtain ⟨_,rfl,rfl⟩:=h
     refine ⟨?_,rfl⟩
     rw [List.length_drop];omega
theorem feedN_more:∀ (k:Nat) (s:List UInt8),s.length≤k→feedN k s=feed s:=by
 intro k
 induction k using Nat.strongRecOn with
 | ind k ih=>
  intro s hs
  cases k with
  | zero=>
   have:s=[]:=List.eq_nil_of_length_eq_zero (by omega)
   subst this;rfl
  | succ k=>
   unfold feed
   cases hl:s.length with
   | zero=>
    have:s=[]:=List.eq_nil_of_length_eq_zero hl
    subst this;rfl
   | succ n=>
    simp only [feedN]
    cases hn:nextS s with
    | mk o r=>
     cases o with
     | none=>rfl
     | some m=>
      obtain ⟨s',b⟩:=r
      have h2:=(nextS_some hn).1
      simp only
      rw [ih k (by omega) s' (by omega),ih n (by omega) s' (by omega)]
theorem feed_none {s:List UInt8} {r:List UInt8×Int} (h:nextS s=(none,r)):feed s=([],r):=by
 rw [←feedN_more (s.length+1) s (by omega)]
 simp only [feedN,h]
theorem feed_some {s s':List UInt8} {m:Msg} {b:Int} (h:nextS s=(some m,s',b)):feed s=(m::(feed s').1,(feed s').2):=by
 have h2:=(nextS_some h).1
 rw [←feedN_more (s.length+1) s (by omega)]
 simp only [feedN,h]
 rw [feedN_more s.length s' (by omega)]
theorem nextS_bad {a:List UInt8} {s':List UInt8} {c:Int} (h:nextS a=(none,s',c)):(c=0∧s'=a)∨(c≠0∧s'=[]):=by
 unfold nextS at h
 split at h
 ·simp only [Prod.mk.injEq] at h;exact .inl ⟨h.2.2.symm,h.2.1.symm⟩
 ·split at h
  ·simp only [Prod.mk.injEq] at h;exact .inr ⟨by rw [←h.2.2];decide,h.2.1.symm⟩
  ·split at h
   ·simp only [Prod.mk.injEq] at h;exact .inl ⟨h.2.2.symm,h.2.1.symm⟩
   ·split at h
    ·rename_i c' hc
     simp only [Prod.mk.injEq] at h
     refine .inr ⟨?_,h.2.1.symm⟩
     rw [←h.2.2]
     rcases Msg.dec_ref hc with h | h | h<;>rw [h]<;>decide
    ·cases h
theorem frB_length (m:Msg):m.frB.length=2+m.enc.length:=by unfold Msg.frB;rw [List.length_append,numB_length]
theorem frB_get {m:Msg} (h:m.enc.length≤4096) (b:List UInt8):getNum ((m.frB++b).take 2)=m.enc.length:=by
 unfold Msg.frB
 rw [List.append_assoc,List.take_append_of_le_length (by rw [numB_length];omega),List.take_of_length_le (by rw [numB_length];omega)]
 unfold numB
 rw [Int.toNat_natCast]
 exact getNum_bigEnd (by omega)
theorem nextS_frame {m:Msg} (hm:m.may=true) (hf:m.fits) (h:m.enc.length≤4096) (b:List UInt8):nextS (m.frB++b)=(some m,b,0):=by
 unfold nextS
 have hl:=frB_length m
 rw [frB_get h,if_neg (by rw [List.length_append];omega),if_neg (by omega),if_neg (by rw [List.length_append];omega)]
 have hd:((m.frB++b).drop 2).take m.enc.length=m.enc:=by
  unfold Msg.frB
  rw [List.append_assoc,List.drop_append_of_le_length (by rw [numB_length];omega),List.drop_of_length_le (by rw [numB_length];omega),List.nil_append,List.take_append_of_le_length (Nat.le_refl _),List.take_length]
 rw [hd,Msg.dec_enc hm hf h]
 have hd2:(m.frB++b).drop (2+m.enc.length)=b:=by rw [←hl,List.drop_append_of_le_length (Nat.le_refl _),List.drop_length,List.nil_append]
 simp only [hd2]
theorem feed_frames {l:List Msg} (h:∀ m∈l,m.may=true∧m.fits∧m.enc.length≤4096) (b:List UInt8):feed (l.flatMap Msg.frB++b)=(l++(feed b).1,(feed b).2):=by
 induction l with
 | nil=>simp
 | cons m l ih=>
  obtain ⟨h1,h2,h3⟩:=h m (List.mem_cons_self ..)
  rw [List.flatMap_cons,List.append_assoc,feed_some (nextS_frame h1 h2 h3 _),ih (fun x hx=>h x (List.mem_cons_of_mem _ hx))]
  simp
end
section
open Go.RowKit Go.Proofs
theorem frame1_any {B g:Nat} {S:Nat→Prop} {w:World} {b:Nat} {rest enc:List UInt8} {s:ByteArray} (h:WrE B S w b (numB 2 s.size++(s.data.toList++rest)) enc) (hl:enc.length≤1000000)
  (hg:w.cell? ⟨g,0,none⟩=some (.string s)) (hS:¬ S g) (hs:s.size<65536):
  Calls Tryz.prog 58 #[.pointer (some ⟨b,0,none⟩), .pointer (some ⟨g,0,none⟩)] w fun e w'=>e= .returned (.tuple #[])∧WrE B S w' b rest enc∧Fr S w w':=by
 have H:=Lib.hid h;clear h
 have h0:(0:Int)≤(s.size:Int):=by omega
 have h1:(s.size:Int)<18446744073709551616:=by omega
 go_enter Tryz.func58,Tryz.ntmps58
 go_wp2_with fail
 refine (WrE.num H.out hl (by rfl) (by decide) (by decide) (by omega) (by omega)).mono ?_
 rintro e w1 ⟨rfl,h1,f1⟩
 have H1:=Lib.hid h1
 have F1:=Lib.hid f1
 have hg1:w1.cell? ⟨g,0,none⟩=some (.string s):=f1.cell hg hS
 clear h1 f1 hg
 go_wp2_with fail
 refine (WrE.raw H1.out hl).mono ?_
 rintro e w2 ⟨rfl,h2,f2⟩
 have H2:=Lib.hid h2
 have F2:=Lib.hid (F1.out.trans f2 (fun k h=> .inl h))
 clear h2 f2 hg1
 go_wp2_with fail
 go_end0
 exact ⟨rfl,H2.out,F2.out⟩
theorem frame_any (m:Msg) (p:MsgP) (W:World) (hf:m.fits) (hm:MsgAt W m p):
  Calls Tryz.prog 24 #[m.val p] W fun e w'=>e= .returned (.tuple #[.string m.frame, .int .i64 m.code])∧Gr W w':=by
 have hmf:∀ (fn:Fn) (first cap:Array Value) (w:World),(Instr.makeFunc fn first cap).run Tryz.prog w= .ok (.func fn first cap) w:=fun _ _ _ _=>rfl
 have HE:=Lib.hid (fun w1 (f:Gr W w1)=>encode_any m p w1 hf (hm.keep f))
 have HB:Hid (m.code=0→m.out=⟨m.enc.toArray⟩∧m.enc.length≤4096∧m.frame=⟨m.frB.toArray⟩):=Lib.hid (fun h=>⟨by unfold Msg.out;rw [if_pos h],(Msg.code_zero.1 h).2,by unfold Msg.frame;rw [if_pos h]⟩)
 have HN:Hid (m.code≠0→m.out=⟨#[]⟩∧m.frame=⟨#[]⟩):=Lib.hid (fun h=>⟨by unfold Msg.out;rw [if_neg h],by unfold Msg.frame;rw [if_neg h]⟩)
 clear hf hm
 obtain ⟨w0,hw0⟩:∃ w0,w0=W.alloc (.cells #[.int .i64 m.kind, .int .i64 m.node, .int .i64 m.walk, .bool m.high, .slice p.a1 m.nodes.length p.c1, .slice p.a2 m.ids.length p.c2, .slice p.a3 m.recs.length p.c3] 76):=⟨_,rfl⟩
 have F0:=Lib.hid (show Gr W w0 by rw [hw0];exact (Fr.refl _ _).alloc _)
 have B0:=Lib.hid (show Bx w0 W.heap.size (m.cells p) by rw [hw0];exact Bx.new W (m.arr p) 76)
 have HW0:=Lib.hid hw0;clear hw0
 by_cases hc:m.code=0
 ·obtain ⟨ho,hl,hfr⟩:=HB.out hc
  have HC:∀ (w1:World) (g:Nat),w1.cell? ⟨g,0,none⟩=some (.string ⟨m.enc.toArray⟩)→Calls Tryz.prog 56 #[.func (.func 58) #[] #[.pointer (some ⟨g,0,none⟩)]] w1 fun e w'=>e= .returned (.tuple #[.string ⟨m.frB.toArray⟩, .int .i64 0])∧Gr w1 w':=by
   intro w1 g hg
   have hgl:=lt_of_cell hg
   have hsz:=mk_size m.enc
   have hfl:=frB_length m
   refine (packWrite_any 58 #[.pointer (some ⟨g,0,none⟩)] w1 (fun _=>False) (fun x _=>x= .ok m.frB) (fun a w=>enters_fn Tryz.func58 (by kernel_rfl) rfl _ w) (fun _ h=>h.elim) (fun w2 f2 h2=>?_)).mono ?_
   ·have hE:WrE w1.heap.size (wS w1.heap.size) w2 (w1.heap.size+1) (numB 2 (ByteArray.mk m.enc.toArray).size++((ByteArray.mk m.enc.toArray).data.toList++[])) m.frB:=⟨[],_,_,h2,by rw [hsz];simp [Msg.frB]⟩
    refine (frame1_any hE (by omega) (f2.cell hg (fun h=>h)) (by unfold wS;simp only at hgl;omega) (by omega)).mono ?_
    rintro e w' ⟨rfl,h3,f3⟩
    obtain ⟨bs,pp,v,h4,h5⟩:=h3
    rw [List.append_nil] at h5
    subst h5
    exact ⟨f3.mono (fun k _ h=> .inl h), .ok _, .ok _ _ _ h4,rfl⟩
   ·rintro e w' ⟨w0,x,rfl,rfl,_,_,f⟩
    exact ⟨rfl,Fr.mono f (fun k hk h=>by rcases h with h | h;omega;exact h.elim)⟩
  have HP:=Lib.hid HC
  rw [hc,ho] at HE
  rw [hc,hfr]
  clear hc ho hl hfr HB HN HC
  go_enter Tryz.func24,Tryz.ntmps24
  go_wp2_with fail
  rw [←HW0.out]
  have y0:=B0.out 0 _ rfl
  have y1:=B0.out 1 _ rfl
  have y2:=B0.out 2 _ rfl
  have y3:=B0.out 3 _ rfl
  have y4:=B0.out 4 _ rfl
  have y5:=B0.out 5 _ rfl
  have y6:=B0.out 6 _ rfl
  clear HW0
  go_wp2_with fail
  refine (HE.out w0 F0.out).mono ?_
  rintro e w1 ⟨rfl,f1⟩
  have F1:=Lib.hid (Gr.trans F0.out f1);clear f1 y0 y1 y2 y3 y4 y5 y6 HE B0 F0
  go_wp2_with fail
  refine (HP.out _ _ (by rw [World.cell?_alloc_at _ _ _ _ rfl];rfl)).mono ?_
  rintro e w2 ⟨rfl,f2⟩
  have F2:=Lib.hid (Gr.trans (Fr.alloc F1.out (.cells #[.string ⟨m.enc.toArray⟩] 9)) f2);clear f2 F1 HP
  go_wp2_with fail
  go_ret2
  exact ⟨rfl,F2.out⟩
 ·obtain ⟨ho,hfr⟩:=HN.out hc
  have hne:(m.code==0)=false:=by simpa using hc
  rw [ho] at HE
  rw [hfr]
  clear ho hfr HB HN
  generalize m.code=c at *
  go_enter Tryz.func24,Tryz.ntmps24
  go_wp2_with fail
  rw [←HW0.out]
  have y0:=B0.out 0 _ rfl
  have y1:=B0.out 1 _ rfl
  have y2:=B0.out 2 _ rfl
  have y3:=B0.out 3 _ rfl
  have y4:=B0.out 4 _ rfl
  have y5:=B0.out 5 _ rfl
  have y6:=B0.out 6 _ rfl
  clear HW0
  go_wp2_with fail
  refine (HE.out w0 F0.out).mono ?_
  rintro e w1 ⟨rfl,f1⟩
  have F1:=Lib.hid (Gr.trans F0.out f1);clear f1 y0 y1 y2 y3 y4 y5 y6 HE B0 F0
  go_wp2_with fail
  go_ret2
  exact ⟨rfl,F1.out.alloc _⟩
end
end Go.Proofs.YtelepohdfcjnfaaGreat
