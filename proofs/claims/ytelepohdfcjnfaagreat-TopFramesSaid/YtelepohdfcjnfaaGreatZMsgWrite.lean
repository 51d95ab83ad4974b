/-
  Package message: Encode.
-/
import Derived.Test.YtelepohdfcjnfaaGreatZPackM
namespace Go.Proofs.YtelepohdfcjnfaaGreat
set_option maxHeartbeats 4000000
set_option maxRecDepth 100000
open Go.RowKit Go.Proofs
def WrE (B:Nat) (S:Nat→Prop) (w:World) (b:Nat) (rest enc:List UInt8):Prop:=∃ bs p v,WrAt B S w b p v (Lib.byteCells bs)∧bs++rest=enc
theorem WrE.drew {B:Nat} {S:Nat→Prop} {w:World} {b:Nat} {rest enc:List UInt8} (h:WrE B S w b rest enc):WrE B S w.drew b rest enc:=by
 obtain ⟨bs,p,v,h1,h2⟩:=h
 exact ⟨bs,p,v,h1.drew,h2⟩
theorem WrE.wide {B:Nat} {S T:Nat→Prop} {w:World} {b:Nat} {rest enc:List UInt8} (h:WrE B T w b rest enc) (hS:∀ k,T k→S k):WrE B S w b rest enc:=by
 obtain ⟨bs,p,v,h1,h2⟩:=h
 exact ⟨bs,p,v,⟨fun k hk=>hS k (h1.new k hk),hS b h1.self,h1.adr,h1.blk,h1.size,h1.own,fun k cs fr hk hn=>h1.prot k cs fr hk (fun h=>hn (hS k h)),fun q hq=>hS q (h1.mem q hq)⟩,h2⟩
theorem WrE.alloc {B:Nat} {S:Nat→Prop} {w:World} {b:Nat} {rest enc:List UInt8} (h:WrE B S w b rest enc) (cs:Array Value) (e:TypeId) (he:e≠5):WrE B (fun k=>S k∧k≠w.heap.size) (w.alloc (.cells cs e)) b rest enc:=by
 obtain ⟨bs,p,v,h1,h2⟩:=h
 have f:=(Fr.refl (fun _=>False) w).alloc (.cells cs e)
 have h3:WrAt B S (w.alloc (.cells cs e)) b p v (Lib.byteCells bs):=h1.keep f (fun _ _ h=>h.elim) (fun _ _ h=>h.elim)
 refine ⟨bs,p,v,h3.shrink (fun k hk=>⟨h3.new k hk,by simp at hk;omega⟩) ⟨h3.self,Nat.ne_of_lt h1.lt⟩ (fun q hq=>⟨h3.mem q hq,?_⟩) ?_,h2⟩
 ·exact Nat.ne_of_lt (h1.own.lt q hq).2
 ·intro k hk hS hT cs' fr
  have hkq:k=w.heap.size:=by
   apply Classical.byContradiction
   intro hne;exact hT ⟨hS,hne⟩
  subst hkq
  rw [heap_alloc_if,if_pos rfl]
  intro h
  simp only [Option.some.injEq,Obj.cells.injEq] at h
  exact he h.2.1
theorem WrE.num {B:Nat} {S:Nat→Prop} {w:World} {b:Nat} {rest enc:List UInt8} {k:Nat} {n z:Int} (h:WrE B S w b (numB k n++rest) enc) (hl:enc.length≤1000000) (hz:z=k) (h1:1≤k) (h8:k≤8) (hn0:0≤n) (hn:n<256 ^ k):
  Calls Tryz.prog 59 #[.pointer (some ⟨b,0,none⟩), .int .u64 n, .int .i64 z] w fun e w'=>e= .returned (.tuple #[])∧WrE B S w' b rest enc∧Fr S w w':=by
 subst hz
 obtain ⟨bs,p,v,h1',h2⟩:=h
 have hlen:bs.length≤1000000:=by have:=congrArg List.length h2;simp at this;omega
 have hnt:n.toNat<256 ^ k:=by
  obtain ⟨m,rfl⟩:=Int.eq_ofNat_of_zero_le hn0
  simp only [Int.toNat_natCast]
  apply Int.ofNat_lt.1;rw [Int.natCast_pow];exact hn
 have hp:256 ^ k≤256 ^ 8:=Nat.pow_le_pow_right (by decide) h8
 refine (writerNum_any B S w b p v _ n k h1' hn0 (by have:(256:Nat) ^ 8=18446744073709551616:=rfl;omega) (by rw [Lib.byteCells_length];omega) ⟨by omega,by omega,by simpa using hnt⟩).mono ?_
 rintro e w' ⟨rfl,⟨p',v',h3⟩,f⟩
 refine ⟨rfl,⟨bs++numB k n,p',v',?_,by rw [List.append_assoc];exact h2⟩,f⟩
 rw [show Lib.byteCells (bs++numB k n)=Lib.byteCells bs++Lib.byteCells (bigEnd (k:Int).toNat n.toNat) by simp [Lib.byteCells,numB]]
 exact h3
theorem WrE.text {B:Nat} {S:Nat→Prop} {w:World} {b:Nat} {rest enc:List UInt8} {s:ByteArray} (h:WrE B S w b (txB s++rest) enc) (hl:enc.length≤1000000) (hs:s.size≤255):
  Calls Tryz.prog 104 #[.pointer (some ⟨b,0,none⟩), .string s] w fun e w'=>e= .returned (.tuple #[])∧WrE B S w' b rest enc∧Fr S w w':=by
 obtain ⟨bs,p,v,h1',h2⟩:=h
 have hlen:bs.length≤1000000:=by have:=congrArg List.length h2;simp at this;omega
 refine (writerText_any B S w b p v _ s h1' (by rw [Lib.byteCells_length];omega) hs).mono ?_
 rintro e w' ⟨rfl,⟨p',v',h3⟩,f⟩
 refine ⟨rfl,⟨bs++txB s,p',v',?_,by rw [List.append_assoc];exact h2⟩,f⟩
 have e1:Lib.byteCells (bs++txB s)=Lib.byteCells bs++(.int .u8 s.size::Lib.strCells s):=by
  have:s.size % 256=s.size:=Nat.mod_eq_of_lt (by omega)
  simp [Lib.byteCells,txB,Lib.strCells,this]
 rw [e1];exact h3
theorem WrE.raw {B:Nat} {S:Nat→Prop} {w:World} {b:Nat} {rest enc:List UInt8} {s:ByteArray} (h:WrE B S w b (s.data.toList++rest) enc) (hl:enc.length≤1000000):
  Calls Tryz.prog 60 #[.pointer (some ⟨b,0,none⟩), .string s] w fun e w'=>e= .returned (.tuple #[])∧WrE B S w' b rest enc∧Fr S w w':=by
 obtain ⟨bs,p,v,h1',h2⟩:=h
 have hlen:bs.length+s.size≤1000000:=by have:=congrArg List.length h2;simp at this;omega
 refine (writerRaw_any B S w b p v _ s h1' (by rw [Lib.byteCells_length];omega)).mono ?_
 rintro e w' ⟨rfl,⟨v',h3⟩,f⟩
 refine ⟨rfl,⟨bs++s.data.toList, .pointer (some ⟨b,0,none⟩),v',?_,by rw [List.append_assoc];exact h2⟩,f⟩
 have e1:Lib.byteCells (bs++s.data.toList)=Lib.byteCells bs++Lib.strCells s:=by simp [Lib.byteCells,Lib.strCells]
 rw [e1];exact h3
theorem flag_any {B:Nat} {S:Nat→Prop} {w:World} {b:Nat} {rest enc:List UInt8} {x:Bool} (h:WrE B S w b (numB 1 (bitN x)++rest) enc) (hl:enc.length≤1000000):
  Calls Tryz.prog 102 #[.pointer (some ⟨b,0,none⟩), .bool x] w fun e w'=>e= .returned (.tuple #[])∧WrE B S w' b rest enc∧Fr S w w':=by
 have H:=Lib.hid h;clear h
 have HL:=Lib.hid hl;clear hl
 cases x
 ·go_enter Tryz.func102,Tryz.ntmps102
  go_wp2_with fail
  refine (WrE.num (k:=1) (n:=0) H.out HL.out rfl (by decide) (by decide) (by decide) (by decide)).mono ?_
  rintro e w' ⟨rfl,h1,f1⟩
  have R:=Lib.hid (And.intro h1 f1);clear h1 f1
  go_wp2_with fail
  go_end0
  exact ⟨rfl,R.out⟩
 ·go_enter Tryz.func102,Tryz.ntmps102
  go_wp2_with fail
  refine (WrE.num (k:=1) (n:=1) H.out HL.out rfl (by decide) (by decide) (by decide) (by decide)).mono ?_
  rintro e w' ⟨rfl,h1,f1⟩
  have R:=Lib.hid (And.intro h1 f1);clear h1 f1
  go_wp2_with fail
  go_end0
  exact ⟨rfl,R.out⟩
theorem wid_any {B:Nat} {S:Nat→Prop} {w:World} {b:Nat} {rest enc:List UInt8} (x:MId) (h:WrE B S w b (x.enc++rest) enc) (hl:enc.length≤1000000) (hk:x.key.size≤255) (hv:0≤x.ver∧x.ver<256 ^ 8):
  Calls Tryz.prog 103 #[.pointer (some ⟨b,0,none⟩),x.val] w fun e w'=>e= .returned (.tuple #[])∧WrE B S w' b rest enc∧Fr S w w':=by
 have hS:∀ k,w.heap.size≤k→S k:=by obtain ⟨_,_,_,h1,_⟩:=h;exact h1.new
 have h':=h.alloc #[.string x.key, .int .u64 x.ver] 154 (by decide)
 unfold MId.enc at h'
 rw [List.append_assoc] at h'
 have H:=Lib.hid h';clear h h'
 have HL:=Lib.hid hl;clear hl
 have HV:=Lib.hid hv;clear hv
 have BX:=Lib.hid (Bx.new w #[.string x.key, .int .u64 x.ver] 154)
 have HS:=Lib.hid hS;clear hS
 go_enter Tryz.func103,Tryz.ntmps103
 go_wp2_with fail
 refine (WrE.text H.out HL.out hk).mono ?_
 rintro e w1 ⟨rfl,h1,f1⟩
 have BX1:=Lib.hid (BX.out.keep f1 (fun h=>h.2 rfl))
 have k1:=BX1.out 1 _ rfl
 have H1:=Lib.hid h1
 have F1:=Lib.hid f1
 clear h1 f1
 go_wp2_with fail
 refine (WrE.num (k:=8) H1.out HL.out rfl (by decide) (by decide) HV.out.1 HV.out.2).mono ?_
 rintro e w2 ⟨rfl,h2,f2⟩
 have R:=Lib.hid (And.intro (h2.wide (S:=S) (fun k h=>h.1)) ((((Fr.refl S w).alloc _).trans F1.out (fun k h=> .inl h.1)).trans f2 (fun k h=> .inl h.1)))
 clear h2 f2 k1
 go_wp2_with fail
 go_end0
 exact ⟨rfl,R.out⟩
theorem MsgAt.node {w:World} {m:Msg} {p:MsgP} (h:MsgAt w m p) (i:Nat) (hi:i<m.nodes.length):∃ b o,p.a1=some ⟨b,o,none⟩∧w.cell? ⟨b,o+i,none⟩=some (.int .i64 m.nodes[i]):=by
 obtain ⟨b,o,e,hc⟩:=h.nodes.elem (f:=MInt.cells) (n:=1) (fun _=>rfl) (by decide) i hi
 exact ⟨b,o,e,by have:=hc 0 _ rfl;simpa using this⟩
theorem MsgAt.id {w:World} {m:Msg} {p:MsgP} (h:MsgAt w m p) (i:Nat) (hi:i<m.ids.length):∃ b o,p.a2=some ⟨b,o,none⟩∧w.cell? ⟨b,o+i * 2,none⟩=some (.string m.ids[i].key)∧w.cell? ⟨b,o+i * 2+1,none⟩=some (.int .u64 m.ids[i].ver):=by
 obtain ⟨b,o,e,hc⟩:=h.ids.elem (f:=MId.cells) (n:=2) (fun _=>rfl) (by decide) i hi
 exact ⟨b,o,e,by have:=hc 0 _ rfl;simpa using this,hc 1 _ rfl⟩
theorem MsgAt.rcd {w:World} {m:Msg} {p:MsgP} (h:MsgAt w m p) (i:Nat) (hi:i<m.recs.length):∃ b o,p.a3=some ⟨b,o,none⟩∧w.cell? ⟨b,o+i * 6,none⟩=some (.string m.recs[i].key)∧w.cell? ⟨b,o+i * 6+1,none⟩=some (.int .u64 m.recs[i].ver)∧
  w.cell? ⟨b,o+i * 6+2,none⟩=some (.int .i64 m.recs[i].origin)∧w.cell? ⟨b,o+i * 6+3,none⟩=some (.int .i64 m.recs[i].age)∧w.cell? ⟨b,o+i * 6+4,none⟩=some (.bool m.recs[i].gone)∧w.cell? ⟨b,o+i * 6+5,none⟩=some (.string m.recs[i].data):=by
 obtain ⟨b,o,e,hc⟩:=h.recs.elem (f:=MRec.cells) (n:=6) (fun _=>rfl) (by decide) i hi
 exact ⟨b,o,e,by have:=hc 0 _ rfl;simpa using this,hc 1 _ rfl,hc 2 _ rfl,hc 3 _ rfl,hc 4 _ rfl,hc 5 _ rfl⟩
theorem flatMap_le {α:Type} (f:α→List UInt8) (n:Nat):∀ l:List α,(∀ x∈l,(f x).length≤n)→(l.flatMap f).length≤l.length * n
 | [],_=>by simp
 | x::r,h=>by
  have h1:=flatMap_le f n r (fun y hy=>h y (by simp [hy]))
  have h2:=h x (by simp)
  rw [List.flatMap_cons,List.length_append,List.length_cons,Nat.add_mul]
  omega
theorem Msg.enc_le {m:Msg} (hm:m.may=true):m.enc.length≤1000000:=by
 obtain ⟨_,_,_,l1,l2,l3,_,hi,hr⟩:=Msg.may_parts hm
 have h1:=flatMap_le (numB 2) 2 m.nodes (fun x _=>by rw [numB_length];omega)
 have h2:=flatMap_le MId.enc 80 m.ids (fun x hx=>by rw [MId.enc_length];have:=hi x hx;omega)
 have h3:=flatMap_le MRec.enc 150 m.recs (fun x hx=>by rw [MRec.enc_length];obtain ⟨a,b,_⟩:=hr x hx;omega)
 unfold Msg.enc
 simp only [List.length_append,numB_length]
 omega
theorem write_any {B:Nat} {S:Nat→Prop} {w:World} {b:Nat} {enc:List UInt8} (m:Msg) (p:MsgP) (hm:m.may=true) (hf:m.fits) (h:WrE B S w b m.enc enc) (hl:enc.length≤1000000) (hM:∀ w',Fr S w w'→MsgAt w' m p):
  Calls Tryz.prog 57 #[m.val p, .pointer (some ⟨b,0,none⟩)] w fun e w'=>e= .returned (.tuple #[])∧WrE B S w' b [] enc∧Fr S w w':=by
 obtain ⟨⟨k0,k1⟩,⟨n0,n1⟩,⟨q0,q1⟩,l1,l2,l3,hn,hi,hr⟩:=Msg.may_parts hm
 obtain ⟨hf1,hf2⟩:=hf
 have h':=h.alloc #[.int .i64 m.kind, .int .i64 m.node, .int .i64 m.walk, .bool m.high, .slice p.a1 m.nodes.length p.c1, .slice p.a2 m.ids.length p.c2, .slice p.a3 m.recs.length p.c3] 76 (by decide)
 unfold Msg.enc at h'
 have H:=Lib.hid h';clear h h'
 have HL:=Lib.hid hl;clear hl
 have HM:=Lib.hid hM;clear hM
 have HN:=Lib.hid hn;clear hn
 have HI:=Lib.hid hi;clear hi
 have HR:=Lib.hid hr;clear hr
 have HF1:=Lib.hid hf1;clear hf1
 have HF2:=Lib.hid hf2;clear hf2
 obtain ⟨bx,hbx⟩:∃ bx:List Value,bx=m.cells p:=⟨_,rfl⟩
 have BX:=Lib.hid (Bx.new w #[.int .i64 m.kind, .int .i64 m.node, .int .i64 m.walk, .bool m.high, .slice p.a1 m.nodes.length p.c1, .slice p.a2 m.ids.length p.c2, .slice p.a3 m.recs.length p.c3] 76)
 have F0:=Lib.hid ((Fr.refl S w).alloc (.cells #[.int .i64 m.kind, .int .i64 m.node, .int .i64 m.walk, .bool m.high, .slice p.a1 m.nodes.length p.c1, .slice p.a2 m.ids.length p.c2, .slice p.a3 m.recs.length p.c3] 76))
 clear hm hbx bx
 have q16:m.walk≤15:=q1
 go_enter Tryz.func57,Tryz.ntmps57
 go_wp2_with fail
 refine (WrE.num (k:=1) H.out HL.out rfl (by decide) (by decide) (by omega) (by omega)).mono ?_
 rintro e w1 ⟨rfl,h1,f1⟩
 have BX1:=Lib.hid (BX.out.keep f1 (fun h=>h.2 rfl));clear BX H
 have H1:=Lib.hid h1
 have F1:=Lib.hid (F0.out.trans f1 (fun k h=> .inl h.1));clear F0 h1 f1
 have y1:=BX1.out 1 _ rfl
 go_wp2_with fail
 refine (WrE.num (k:=2) H1.out HL.out rfl (by decide) (by decide) (by omega) (by omega)).mono ?_
 rintro e w2 ⟨rfl,h1,f1⟩
 have BX2:=Lib.hid (BX1.out.keep f1 (fun h=>h.2 rfl));clear BX1 H1 y1
 have H2:=Lib.hid h1
 have F2:=Lib.hid (F1.out.trans f1 (fun k h=> .inl h.1));clear F1 h1 f1
 have y1:=BX2.out 2 _ rfl
 go_wp2_with fail
 refine (WrE.num (k:=1) H2.out HL.out rfl (by decide) (by decide) (by omega) (by omega)).mono ?_
 rintro e w3 ⟨rfl,h1,f1⟩
 have BX3:=Lib.hid (BX2.out.keep f1 (fun h=>h.2 rfl));clear BX2 H2 y1
 have H3:=Lib.hid h1
 have F3:=Lib.hid (F2.out.trans f1 (fun k h=> .inl h.1));clear F2 h1 f1
 have y1:=BX3.out 3 _ rfl
 go_wp2_with fail
 refine (flag_any H3.out HL.out).mono ?_
 rintro e w4 ⟨rfl,h1,f1⟩
 have BX4:=Lib.hid (BX3.out.keep f1 (fun h=>h.2 rfl));clear BX3 H3 y1
 have H4:=Lib.hid h1
 have F4:=Lib.hid (F3.out.trans f1 (fun k h=> .inl h.1));clear F3 h1 f1
 have y1:=BX4.out 4 _ rfl
 go_wp2_with fail
 refine (WrE.num (k:=1) H4.out HL.out rfl (by decide) (by decide) (by omega) (by omega)).mono ?_
 rintro e w5 ⟨rfl,h1,f1⟩
 have BX5:=Lib.hid (BX4.out.keep f1 (fun h=>h.2 rfl));clear BX4 H4 y1
 have H5:=Lib.hid h1
 have F5:=Lib.hid (F4.out.trans f1 (fun k h=> .inl h.1));clear F4 h1 f1
 have y1:=BX5.out 4 _ rfl
 go_wp2_with fail
 clear y1
 go_loopw [5,38] (fun _ iv wr=>∃ k:Nat,iv= .int .i64 k∧k≤m.nodes.length∧WrE B (fun k=>S k∧k≠w.heap.size) wr b ((m.nodes.drop k).flatMap (numB 2)++(numB 1 m.ids.length++(m.ids.flatMap MId.enc++(numB 1 m.recs.length++m.recs.flatMap MRec.enc)))) enc∧Fr S w wr∧Bx wr w.heap.size (m.cells p)) (fun _ iv _=>m.nodes.length-(intOf iv).toNat)
 case atStart=>exact ⟨0,rfl,Nat.zero_le _,H5.out,F5.out,BX5.out⟩
 case round=>
  clear H5 F5 BX5
  obtain ⟨k,rfl,hk,h1,f1,bx⟩:=hrel
  have H6:=Lib.hid h1
  have F6:=Lib.hid f1
  have BX6:=Lib.hid bx
  clear h1 f1 bx
  by_cases hlt:k<m.nodes.length
  ·obtain ⟨bb,o,e1,hc⟩:=(HM.out wr F6.out).node k hlt
   obtain ⟨g0,g1⟩:=HN.out _ (List.getElem_mem hlt)
   have H7:=H6.out
   rw [List.drop_eq_getElem_cons hlt,List.flatMap_cons,List.append_assoc] at H7
   have H7:=Lib.hid H7
   generalize m.nodes[k]=x at *
   rw [e1]
   go_wp2_with fail
   refine (WrE.num (k:=2) H7.out HL.out rfl (by decide) (by decide) (by omega) (by omega)).mono ?_
   rintro e w6 ⟨rfl,h1,f1⟩
   have BX7:=Lib.hid (BX6.out.keep f1 (fun h=>h.2 rfl));clear BX6 H6 H7
   have H7:=Lib.hid h1
   have F7:=Lib.hid (F6.out.trans f1 (fun k h=> .inl h.1));clear F6 h1 f1
   go_wp2_with fail
   go_roundw
   case rel=>exact ⟨k+1,by go_num,by omega,H7.out,F7.out,BX7.out⟩
   case measure=>simp [intOf];omega
  ·have h7:=H6.out
   rw [List.drop_of_length_le (by omega),List.flatMap_nil,List.nil_append] at h7
   have H7:=Lib.hid h7;clear h7 H6
   have y1:=BX6.out 5 _ rfl
   go_wp2_with fail
   refine (WrE.num (k:=1) H7.out HL.out rfl (by decide) (by decide) (by omega) (by omega)).mono ?_
   rintro e w7 ⟨rfl,h1,f1⟩
   have BX7:=Lib.hid (BX6.out.keep f1 (fun h=>h.2 rfl));clear BX6 H7 y1
   have H8:=Lib.hid h1
   have F7:=Lib.hid (F6.out.trans f1 (fun k h=> .inl h.1));clear F6 h1 f1
   have y1:=BX7.out 5 _ rfl
   go_wp2_with fail
   clear y1 hlt hk
   go_loopw [7,56] (fun _ iv wr=>∃ k:Nat,iv= .int .i64 k∧k≤m.ids.length∧WrE B (fun k=>S k∧k≠w.heap.size) wr b ((m.ids.drop k).flatMap MId.enc++(numB 1 m.recs.length++m.recs.flatMap MRec.enc)) enc∧Fr S w wr∧Bx wr w.heap.size (m.cells p)) (fun _ iv _=>m.ids.length-(intOf iv).toNat)
   case atStart=>exact ⟨0,rfl,Nat.zero_le _,H8.out,F7.out,BX7.out⟩
   case round=>
    clear H8 F7 BX7
    obtain ⟨k,rfl,hk,h1,f1,bx⟩:=hrel
    have H6:=Lib.hid h1
    have F6:=Lib.hid f1
    have BX6:=Lib.hid bx
    clear h1 f1 bx
    by_cases hlt:k<m.ids.length
    ·obtain ⟨bb,o,e1,hc0,hc1⟩:=(HM.out wr F6.out).id k hlt
     have g0:=HI.out _ (List.getElem_mem hlt)
     have GV:=Lib.hid (HF1.out _ (List.getElem_mem hlt))
     have h7:=H6.out
     rw [List.drop_eq_getElem_cons hlt,List.flatMap_cons,List.append_assoc] at h7
     have h8:=h7.alloc #[.string m.ids[k].key, .int .u64 m.ids[k].ver] 154 (by decide)
     have F8:=Lib.hid (F6.out.alloc (.cells #[.string m.ids[k].key, .int .u64 m.ids[k].ver] 154))
     have hnq:w.heap.size≠wr.heap.size:=by
      have:=lt_of_cell (BX6.out 0 _ rfl)
      simp only at this;omega
     have BX8:=Lib.hid (BX6.out.keep ((Fr.refl (fun _=>False) wr).alloc (.cells #[.string m.ids[k].key, .int .u64 m.ids[k].ver] 154)) (fun h=>h))
     have H8:=Lib.hid h8
     clear h7 h8
     generalize m.ids[k]=x at *
     rw [e1]
     go_wp2_with fail
     refine (wid_any x H8.out HL.out (by omega) (by have:=GV.out;constructor;omega;omega)).mono ?_
     rintro e w8 ⟨rfl,h1,f1⟩
     have BX9:=Lib.hid (BX8.out.keep f1 (fun h=>h.1.2 rfl))
     have H9:=Lib.hid (h1.wide (S:=fun k=>S k∧k≠w.heap.size) (fun k h=>h.1))
     have F9:=Lib.hid (F8.out.trans f1 (fun k h=> .inl h.1.1));clear h1 f1 F6 H6 BX6 BX8 H8 F8
     go_wp2_with fail
     go_roundw
     case rel=>exact ⟨k+1,by go_num,by omega,H9.out,F9.out,BX9.out⟩
     case measure=>simp [intOf];omega
    ·have h7:=H6.out
     rw [List.drop_of_length_le (by omega),List.flatMap_nil,List.nil_append] at h7
     have H7:=Lib.hid h7;clear h7 H6
     have y1:=BX6.out 6 _ rfl
     go_wp2_with fail
     refine (WrE.num (k:=1) H7.out HL.out rfl (by decide) (by decide) (by omega) (by omega)).mono ?_
     rintro e w7 ⟨rfl,h1,f1⟩
     have BX7:=Lib.hid (BX6.out.keep f1 (fun h=>h.2 rfl));clear BX6 H7 y1
     have H8:=Lib.hid h1
     have F7:=Lib.hid (F6.out.trans f1 (fun k h=> .inl h.1));clear F6 h1 f1
     have y1:=BX7.out 6 _ rfl
     go_wp2_with fail
     clear y1 hlt hk
     go_loopw [9,73] (fun _ iv wr=>∃ k:Nat,iv= .int .i64 k∧k≤m.recs.length∧WrE B (fun k=>S k∧k≠w.heap.size) wr b ((m.recs.drop k).flatMap MRec.enc) enc∧Fr S w wr∧Bx wr w.heap.size (m.cells p)) (fun _ iv _=>m.recs.length-(intOf iv).toNat)
     case atStart=>exact ⟨0,rfl,Nat.zero_le _,H8.out,F7.out,BX7.out⟩
     case round=>
      clear H8 F7 BX7
      obtain ⟨k,rfl,hk,h1,f1,bx⟩:=hrel
      have H6:=Lib.hid h1
      have F6:=Lib.hid f1
      have BX6:=Lib.hid bx
      clear h1 f1 bx
      by_cases hlt:k<m.recs.length
      ·obtain ⟨bb,o,e1,hc0,hc1,hc2,hc3,hc4,hc5⟩:=(HM.out wr F6.out).rcd k hlt
       obtain ⟨g0,g1,⟨g2,g3⟩,g4,g5⟩:=HR.out _ (List.getElem_mem hlt)
       have GV:=Lib.hid (HF2.out _ (List.getElem_mem hlt))
       have h7:=H6.out
       rw [List.drop_eq_getElem_cons hlt,List.flatMap_cons] at h7
       unfold MRec.enc at h7
       simp only [List.append_assoc] at h7
       rw [←List.append_assoc,show txB m.recs[k].key++numB 8 m.recs[k].ver=MId.enc ⟨m.recs[k].key,m.recs[k].ver⟩ from rfl] at h7
       have h8:=h7.alloc #[.string m.recs[k].key, .int .u64 m.recs[k].ver, .int .i64 m.recs[k].origin, .int .i64 m.recs[k].age, .bool m.recs[k].gone, .string m.recs[k].data] 157 (by decide)
       have F8:=Lib.hid (F6.out.alloc (.cells #[.string m.recs[k].key, .int .u64 m.recs[k].ver, .int .i64 m.recs[k].origin, .int .i64 m.recs[k].age, .bool m.recs[k].gone, .string m.recs[k].data] 157))
       have hnq:w.heap.size≠wr.heap.size:=by
        have:=lt_of_cell (BX6.out 0 _ rfl)
        simp only at this;omega
       have BX8:=Lib.hid (BX6.out.keep ((Fr.refl (fun _=>False) wr).alloc (.cells #[.string m.recs[k].key, .int .u64 m.recs[k].ver, .int .i64 m.recs[k].origin, .int .i64 m.recs[k].age, .bool m.recs[k].gone, .string m.recs[k].data] 157)) (fun h=>h))
       have BR:=Lib.hid (Bx.new wr #[.string m.recs[k].key, .int .u64 m.recs[k].ver, .int .i64 m.recs[k].origin, .int .i64 m.recs[k].age, .bool m.recs[k].gone, .string m.recs[k].data] 157)
       have H8:=Lib.hid h8
       clear h7 h8
       generalize m.recs[k]=x at *
       rw [e1]
       go_wp2_with fail
       refine (wid_any ⟨x.key,x.ver⟩ H8.out HL.out (by simp only;omega) (by have:=GV.out;simp only;constructor;omega;omega)).mono ?_
       rintro e w8 ⟨rfl,h1,f1⟩
       have BX9:=Lib.hid (BX8.out.keep f1 (fun h=>h.1.2 rfl))
       have BR9:=Lib.hid (BR.out.keep f1 (fun h=>h.2 rfl))
       have H9:=Lib.hid h1
       have F9:=Lib.hid (F8.out.trans f1 (fun k h=> .inl h.1.1));clear h1 f1 F6 H6 BX6 BX8 H8 F8 BR
       have y1:=BR9.out 2 _ rfl
       go_wp2_with fail
       refine (WrE.num (k:=2) H9.out HL.out rfl (by decide) (by decide) (by omega) (by omega)).mono ?_
       rintro e w9 ⟨rfl,h1,f1⟩
       have BX10:=Lib.hid (BX9.out.keep f1 (fun h=>h.1.2 rfl))
       have BR10:=Lib.hid (BR9.out.keep f1 (fun h=>h.2 rfl))
       have H10:=Lib.hid h1
       have F10:=Lib.hid (F9.out.trans f1 (fun k h=> .inl h.1.1));clear h1 f1 y1 BX9 BR9 H9 F9
       have y1:=BR10.out 3 _ rfl
       go_wp2_with fail
       refine (WrE.num (k:=2) H10.out HL.out rfl (by decide) (by decide) (by omega) (by omega)).mono ?_
       rintro e w10 ⟨rfl,h1,f1⟩
       have BX11:=Lib.hid (BX10.out.keep f1 (fun h=>h.1.2 rfl))
       have BR11:=Lib.hid (BR10.out.keep f1 (fun h=>h.2 rfl))
       have H11:=Lib.hid h1
       have F11:=Lib.hid (F10.out.trans f1 (fun k h=> .inl h.1.1));clear h1 f1 y1 BX10 BR10 H10 F10
       have y1:=BR11.out 4 _ rfl
       go_wp2_with fail
       refine (flag_any H11.out HL.out).mono ?_
       rintro e w11 ⟨rfl,h1,f1⟩
       have BX12:=Lib.hid (BX11.out.keep f1 (fun h=>h.1.2 rfl))
       have BR12:=Lib.hid (BR11.out.keep f1 (fun h=>h.2 rfl))
       have H12:=Lib.hid h1
       have F12:=Lib.hid (F11.out.trans f1 (fun k h=> .inl h.1.1));clear h1 f1 y1 BX11 BR11 H11 F11
       have y1:=BR12.out 5 _ rfl
       go_wp2_with fail
       refine (WrE.text H12.out HL.out (by omega)).mono ?_
       rintro e w12 ⟨rfl,h1,f1⟩
       have BX13:=Lib.hid (BX12.out.keep f1 (fun h=>h.1.2 rfl))
       have H13:=Lib.hid (h1.wide (S:=fun k=>S k∧k≠w.heap.size) (fun k h=>h.1))
       have F13:=Lib.hid (F12.out.trans f1 (fun k h=> .inl h.1.1));clear h1 f1 y1 BX12 BR12 H12 F12
       go_wp2_with fail
       go_roundw
       case rel=>exact ⟨k+1,by go_num,by omega,H13.out,F13.out,BX13.out⟩
       case measure=>simp [intOf];omega
      ·have h7:=H6.out
       rw [List.drop_of_length_le (by omega),List.flatMap_nil] at h7
       have R:=Lib.hid (And.intro (h7.wide (S:=S) (fun k h=>h.1)) F6.out);clear h7 H6
       go_wp2_with fail
       go_end0
       exact ⟨rfl,R.out⟩
theorem encode_any (m:Msg) (p:MsgP) (W:World) (hf:m.fits) (hm:MsgAt W m p):
  Calls Tryz.prog 22 #[m.val p] W fun e w'=>e= .returned (.tuple #[.string m.out, .int .i64 m.code])∧Gr W w':=by
 have HM:=Lib.hid (may_any m p)
 cases hmay:m.may
 ·have e1:m.code=1:=by unfold Msg.code;rw [hmay];rfl
  have e2:m.out=⟨#[]⟩:=by unfold Msg.out;rw [e1];rfl
  rw [hmay] at HM
  rw [e1,e2]
  have HA:=Lib.hid hm
  clear hmay e1 e2 hm hf
  go_enter Tryz.func22,Tryz.ntmps22
  go_wp2_with fail
  refine (HM.out _ (HA.out.keep ((Fr.refl _ _).alloc _))).mono ?_
  rintro e w1 ⟨rfl,f1⟩
  have F1:=Lib.hid (((Fr.refl (fun _=>False) W).alloc _).trans f1 (fun _ h=> .inl h));clear f1
  go_wp2_with fail
  go_ret2
  exact ⟨rfl,F1.out⟩
 ·rw [hmay] at HM
  have hmf:∀ (fn:Fn) (first cap:Array Value) (w:World),(Instr.makeFunc fn first cap).run Tryz.prog w= .ok (.func fn first cap) w:=fun _ _ _ _=>rfl
  have hbig:m.enc.length≤1000000:=by
   obtain ⟨_,_,_,l1,l2,l3,_,hi,hr⟩:=Msg.may_parts hmay
   exact Msg.enc_le hmay
  have hC:∀ w1,Gr W w1→Calls Tryz.prog 56 #[.func (.func 57) #[m.val p] #[]] w1 fun e w'=>e= .returned (.tuple #[.string ⟨m.enc.toArray⟩, .int .i64 0])∧Gr w1 w':=by
   intro w1 f01
   refine (packWriteM_any 57 (m.val p) w1 (fun _=>False) (fun x _=>x= .ok m.enc) (fun a w=>enters_fn Tryz.func57 (by kernel_rfl) rfl _ w) (fun _ h=>h.elim) (fun w2 f2 h2=>?_)).mono ?_
   ·have hE:WrE w1.heap.size (wS w1.heap.size) w2 (w1.heap.size+1) m.enc m.enc:=⟨[],_,_,h2,rfl⟩
    refine (write_any m p hmay hf hE hbig (fun w' f=>(hm.keep f01).old (S:=wS w1.heap.size) ((Fr.mono f2 (fun _ _ h=>h.elim)).trans f (fun k h=> .inl h)) (fun k h=>by unfold wS at h;omega))).mono ?_
    rintro e w' ⟨rfl,h3,f3⟩
    obtain ⟨bs,pp,v,h4,h5⟩:=h3
    rw [List.append_nil] at h5
    subst h5
    exact ⟨f3.mono (fun k _ h=> .inl h), .ok _, .ok _ _ _ h4,rfl⟩
   ·rintro e w' ⟨w0,x,rfl,rfl,_,_,f⟩
    exact ⟨rfl,Fr.mono f (fun k hk h=>by rcases h with h | h;omega;exact h.elim)⟩
  have HC:=Lib.hid hC
  have HA:=Lib.hid hm
  have hcode:m.code=if 4096<m.enc.length then 3 else 0:=by unfold Msg.code;rw [if_pos hmay]
  have hout:m.out=if 4096<m.enc.length then ⟨#[]⟩ else ⟨m.enc.toArray⟩:=by
   unfold Msg.out;rw [hcode]
   split<;>simp
  have hsz:=mk_size m.enc
  clear hC hm hmay hf
  generalize m.enc=enc at *
  by_cases hlt:4096<enc.length
  ·rw [if_pos hlt] at hcode hout
   rw [hcode,hout]
   clear hcode hout
   go_enter Tryz.func22,Tryz.ntmps22
   go_wp2_with fail
   refine (HM.out _ (HA.out.keep ((Fr.refl _ _).alloc _))).mono ?_
   rintro e w1 ⟨rfl,f1⟩
   have BX:=Lib.hid (Gr.bx f1)
   have F1:=Lib.hid (((Fr.refl (fun _=>False) W).alloc _).trans f1 (fun _ h=> .inl h));clear f1
   have y0:=BX.out 0 _ rfl
   have y1:=BX.out 1 _ rfl
   have y2:=BX.out 2 _ rfl
   have y3:=BX.out 3 _ rfl
   have y4:=BX.out 4 _ rfl
   have y5:=BX.out 5 _ rfl
   have y6:=BX.out 6 _ rfl
   go_wp2_with fail
   refine (HC.out _ F1.out).mono ?_
   rintro e w2 ⟨rfl,f2⟩
   have F2:=Lib.hid (Gr.trans F1.out f2);clear f2 y0 y1 y2 y3 y4 y5 y6
   go_wp2_with fail
   go_ret2
   exact ⟨rfl,F2.out⟩
  ·rw [if_neg hlt] at hcode hout
   rw [hcode,hout]
   clear hcode hout
   go_enter Tryz.func22,Tryz.ntmps22
   go_wp2_with fail
   refine (HM.out _ (HA.out.keep ((Fr.refl _ _).alloc _))).mono ?_
   rintro e w1 ⟨rfl,f1⟩
   have BX:=Lib.hid (Gr.bx f1)
   have F1:=Lib.hid (((Fr.refl (fun _=>False) W).alloc _).trans f1 (fun _ h=> .inl h));clear f1
   have y0:=BX.out 0 _ rfl
   have y1:=BX.out 1 _ rfl
   have y2:=BX.out 2 _ rfl
   have y3:=BX.out 3 _ rfl
   have y4:=BX.out 4 _ rfl
   have y5:=BX.out 5 _ rfl
   have y6:=BX.out 6 _ rfl
   go_wp2_with fail
   refine (HC.out _ F1.out).mono ?_
   rintro e w2 ⟨rfl,f2⟩
   have F2:=Lib.hid (Gr.trans F1.out f2);clear f2 y0 y1 y2 y3 y4 y5 y6
   go_wp2_with fail
   go_ret2
   exact ⟨rfl,F2.out⟩
end Go.Proofs.YtelepohdfcjnfaaGreat
