/-
  Package view: words of its contracts.
-/
import Derived.Test.YtelepohdfcjnfaaGreatZAppI
import Derived.Test.YtelepohdfcjnfaaGreatZSetBut
import Derived.Test.YtelepohdfcjnfaaGreatZOwn
import Derived.Deep.CutBlock
import Derived.Deep.CutRange
namespace Go.Proofs.YtelepohdfcjnfaaGreat
set_option maxHeartbeats 4000000
set_option maxRecDepth 100000
open Go.RowKit Go.Proofs
structure VwP where
 aa:Option Addr
 ac:Nat
 pa:Option Addr
 pc:Nat
abbrev Vw.arr (v:Vw) (x:VwP):Array Value:= #[.int .i64 v.self, .slice x.aa v.act.length x.ac, .int .i64 v.am, .slice x.pa v.pas.length x.pc, .int .i64 v.pm]
abbrev Vw.val (v:Vw) (x:VwP):Value:= .agg (v.arr x)
structure VwAt (w:World) (v:Vw) (x:VwP):Prop where
 act:SlA w x.aa v.act.length x.ac (ints v.act)
 pas:SlA w x.pa v.pas.length x.pc (ints v.pas)
 good:v.Good
theorem VwAt.keep {S:Nat→Prop} {w w':World} {v:Vw} {x:VwP} (h:VwAt w v x) (f:Fr S w w') (h1:∀ q,x.aa=some q→¬ S q.block) (h2:∀ q,x.pa=some q→¬ S q.block):VwAt w' v x:=
 ⟨h.act.keep f h1,h.pas.keep f h2,h.good⟩
theorem VwAt.gr {w w':World} {v:Vw} {x:VwP} (h:VwAt w v x) (f:Gr w w'):VwAt w' v x:=h.keep f (fun _ _ h=>h) (fun _ _ h=>h)
def VwSep (p:Value) (v:Vw) (x:VwP):Prop:=(v.act≠[]→∀ q,x.aa=some q→¬ pblk p q.block)∧(v.pas≠[]→∀ q,x.pa=some q→¬ pblk p q.block)
theorem VwAt.drawn {p:Value} {w w':World} {v:Vw} {x:VwP} (h:VwAt w v x) (hp:VwSep p v x) (f:Fr (pblk p) w w'):VwAt w' v x:=by
 refine ⟨?_,?_,h.good⟩
 ·by_cases hl:v.act=[]
  ·have h1:=h.act
   rw [hl] at h1 ⊢
   exact ⟨h1.le,h1.max,fun j u hj=>by simp at hj⟩
  ·exact h.act.keep f (hp.1 hl)
 ·by_cases hl:v.pas=[]
  ·have h1:=h.pas
   rw [hl] at h1 ⊢
   exact ⟨h1.le,h1.max,fun j u hj=>by simp at hj⟩
  ·exact h.pas.keep f (hp.2 hl)
def VwFrom (w:World) (v:Vw) (x:VwP) (v':Vw) (y:VwP):Prop:=
 (∀ q,y.aa=some q→(x.aa=some q∧v'.act=v.act)∨w.heap.size≤q.block)∧(∀ q,y.pa=some q→(x.pa=some q∧v'.pas=v.pas)∨w.heap.size≤q.block)
theorem VwFrom.refl (w:World) (v:Vw) (x:VwP):VwFrom w v x v x:=⟨fun _ h=> .inl ⟨h,rfl⟩,fun _ h=> .inl ⟨h,rfl⟩⟩
theorem VwFrom.trans {a b:World} {u v w:Vw} {x y z:VwP} (h:VwFrom a u x v y) (hs:a.heap.size≤b.heap.size) (k:VwFrom b v y w z):VwFrom a u x w z:=
 ⟨fun q hq=>by
  rcases k.1 q hq with h1 | h1
  ·rcases h.1 q h1.1 with h2 | h2
   ·exact .inl ⟨h2.1,h1.2.trans h2.2⟩
   ·exact .inr h2
  ·exact .inr (by omega),fun q hq=>by
  rcases k.2 q hq with h1 | h1
  ·rcases h.2 q h1.1 with h2 | h2
   ·exact .inl ⟨h2.1,h1.2.trans h2.2⟩
   ·exact .inr h2
  ·exact .inr (by omega)⟩
theorem VwFrom.mono {a b:World} {u v:Vw} {x y:VwP} (h:VwFrom b u x v y) (hs:a.heap.size≤b.heap.size):VwFrom a u x v y:=(VwFrom.refl a u x).trans hs h
theorem SlA.moved {S T:Nat→Prop} {w0 w2 w4:World} {a a0:Option Addr} {n n0 cap cap0 B:Nat} {cs cs0:List Value} (h:SlA w2 a n cap cs) (f:Fr S w2 w4) (h0:SlA w0 a0 n0 cap0 cs0) (g:Fr T w0 w4)
  (hf:∀ q,a=some q→(a0=some q∧cs=cs0)∨B≤q.block) (hS:∀ k,S k→k<B) (hT:cs0≠[]→∀ q,a0=some q→¬ T q.block):SlA w4 a n cap cs:=
 ⟨h.le,h.max,fun j u hj=>by
  obtain ⟨b,o,e,hc⟩:=h.cell j u hj
  rcases hf _ e with ⟨h1,h2⟩ | h1
  ·subst h2
   obtain ⟨b',o',e',hc'⟩:=h0.cell j u hj
   rw [e'] at h1
   cases h1
   exact ⟨b,o,e,g.cell hc' (show ¬ T b from hT (fun h=>by rw [h] at hj;simp at hj) _ e')⟩
  ·exact ⟨b,o,e,f.cell hc (fun hs=>by have:=hS _ hs;simp only at h1 this;omega)⟩⟩
theorem VwAt.moved {S T:Nat→Prop} {w0 w1 w2 w4:World} {v v':Vw} {x y:VwP} (h:VwAt w2 v' y) (f:Fr S w2 w4) (h0:VwAt w0 v x) (g:Fr T w0 w4) (hf:VwFrom w1 v x v' y) (hS:∀ k,S k→k<w1.heap.size)
  (hT:(v.act≠[]→∀ q,x.aa=some q→¬ T q.block)∧(v.pas≠[]→∀ q,x.pa=some q→¬ T q.block)):VwAt w4 v' y:=
 ⟨h.act.moved f h0.act g (fun q hq=>(hf.1 q hq).imp (fun ⟨a,b⟩=>⟨a,by rw [b]⟩) id) hS (fun hn=>hT.1 (fun e=>hn (by rw [e];rfl))),h.pas.moved f h0.pas g (fun q hq=>(hf.2 q hq).imp (fun ⟨a,b⟩=>⟨a,by rw [b]⟩) id) hS (fun hn=>hT.2 (fun e=>hn (by rw [e];rfl))),h.good⟩
theorem DrawV.lt {w:World} {p:Value} {ds:List Int} (h:DrawV w p ds):∀ k,pblk p k→k<w.heap.size:=by
 intro k hk
 rcases h with ⟨rfl,_⟩ | ⟨d,rfl,h2⟩
 ·unfold pblk at hk;cases hk
 ·unfold pblk at hk;cases hk;exact h2.lt
theorem VwSep.of_from {w:World} {p:Value} {ds:List Int} {v v':Vw} {x y:VwP} (h:VwSep p v x) (hd:DrawV w p ds) (f:VwFrom w v x v' y):VwSep p v' y:=by
 have hl:=hd.lt
 refine ⟨fun hn q hq hp=>?_,fun hn q hq hp=>?_⟩
 ·rcases f.1 q hq with h1 | h1
  ·exact h.1 (by rw [←h1.2];exact hn) q h1.1 hp
  ·have:=hl _ hp;omega
 ·rcases f.2 q hq with h1 | h1
  ·exact h.2 (by rw [←h1.2];exact hn) q h1.1 hp
  ·have:=hl _ hp;omega
theorem VwSep.none {v:Vw} {x:VwP}:VwSep (.pointer none) v x:=by
 constructor<;>(intro _ q _ h;unfold pblk at h;cases h)
def VEnd (p:Value) (v v':Vw) (ds':List Int) (r:Array Value→Value) (w:World) (x:VwP) (e:Ending) (w':World):Prop:=
 ∃ y,e= .returned (r (v'.arr y))∧VwAt w' v' y∧DrawV w' p ds'∧Fr (pblk p) w w'∧VwFrom w v x v' y
def VEnd0 (v v':Vw) (r:Array Value→Value) (w:World) (x:VwP) (e:Ending) (w':World):Prop:=
 ∃ y,e= .returned (r (v'.arr y))∧VwAt w' v' y∧Gr w w'∧VwFrom w v x v' y
theorem nof {v:Vw} {x:VwP}:(v.act≠[]→∀ q:Addr,x.aa=some q→¬ (fun _:Nat=>False) q.block)∧(v.pas≠[]→∀ q:Addr,x.pa=some q→¬ (fun _:Nat=>False) q.block):=⟨fun _ _ _ h=>h,fun _ _ _ h=>h⟩
theorem blk_keep {S:Nat→Prop} {w w':World} (f:Fr S w w') {b:Nat} {o:Obj} (h:w.heap[b]?=some o) (hS:¬ S b):w'.heap[b]?=some o:=by
 rw [f.block b (Array.getElem?_eq_some_iff.1 h).1 hS];exact h
theorem fr_new {S:Nat→Prop} {W w w':World} {b:Nat} (g:Fr S W w) (f:Fr (fun k=>k=b) w w') (hb:W.heap.size≤b):Fr S W w':=Fr.trans g f (fun k h=> .inr (by omega))
def putAt (cs:Array Value) (o:Nat) (vs:Array Value):Array Value:=(cs.toList.take o++(vs.toList++cs.toList.drop (o+vs.size))).toArray
theorem blk_put {w:World} {b o:Nat} {c vs:Array Value} {e:TypeId} {fz:Nat×Nat} (h:w.heap[b]?=some (.cells c e fz)) (hl:o+vs.size≤c.size):(w.setCells b o vs.toList).heap[b]?=some (.cells (putAt c o vs) e fz):=by
 obtain ⟨c',g1,g2,g3,g4,g5⟩:=heap_setCells b vs.toList o w c e fz h (by simpa using hl)
 rw [g1]
 congr 2
 have hs:(putAt c o vs).size=c.size:=by simp [putAt];omega
 apply Array.ext
 ·omega
 ·intro i h1 h2
  have e1:(putAt c o vs)[i]?=c'[i]?:=by
   unfold putAt
   rw [List.getElem?_toArray]
   by_cases hi:i<o
   ·rw [List.getElem?_append_left (by simp;omega),List.getElem?_take,if_pos hi,g3 i hi];simp
   ·rw [List.getElem?_append_right (by simp;omega)]
    simp only [List.length_take,Array.length_toList]
    rw [Nat.min_eq_left (by omega)]
    by_cases hj:i<o+vs.size
    ·rw [List.getElem?_append_left (by simp;omega)]
     have:=g4 (i-o) (vs[i-o]'(by omega)) (by simp [show i-o<vs.size by omega])
     rw [show o+(i-o)=i by omega] at this
     rw [this]
     simp [show i-o<vs.size by omega]
    ·rw [List.getElem?_append_right (by simp;omega)]
     simp only [Array.length_toList]
     rw [List.getElem?_drop,show o+vs.size+(i-o-vs.size)=i by omega]
     rw [g5 i (by simp;omega)];simp
  rw [Array.getElem?_eq_getElem h1,Array.getElem?_eq_getElem h2] at e1
  exact (Option.some.inj e1).symm
theorem wpList_storeB {ops:Array Oper} {rest:List Oper} {op:Oper} {A:Act} {w:World} {Q:Exit→Act→World→Prop} {b o:Nat} {cs vs:Array Value} {e:TypeId} (hb:w.heap[b]?=some (.cells cs e (0,0))) (hgd:op.guard=none) (ty:TypeId) (x y:Operand) (ho:op.op= .store ty x y)
  (hx:A.eval x= .pointer (some ⟨b,o,none⟩)) (hy:A.eval y= .agg vs) (hl:o+vs.size≤cs.size) (hi:(Tryz.prog.info? ty).map (·.size)=some vs.size) (h1:vs.all (·.oneCell')=true)
  (h:∀ wy,Fr (fun k=>k=b) w wy→wy.heap[b]?=some (.cells (putAt cs o vs) e (0,0))→wpList Tryz.prog ops Q rest (A.put op.dst undef) wy):wpList Tryz.prog ops Q (op::rest) A w:=by
 refine wpList_store_mid hgd ty x y ho b o vs hx hy ?_ hi h1 (h _ (fr_setCells _ _ _ _) (blk_put hb hl))
 intro j hj
 refine ⟨?_,Lib.frozen_of_heap hb _⟩
 rw [Lib.cell_of_heap hb,Array.getElem?_eq_getElem (by omega)]
 rfl
theorem Tryz.zeroView:(Tryz.prog.info? 60).map (fun i=>(i.zero,i.size))=some (some (.agg #[.int .i64 0, .slice none 0 0, .int .i64 0, .slice none 0 0, .int .i64 0]),5):=by kernel_rfl
theorem Tryz.zeroSet:(Tryz.prog.info? 58).map (fun i=>(i.zero,i.size))=some (some (.agg #[.slice none 0 0, .int .i64 0]),2):=by kernel_rfl
theorem Tryz.infoView:(Tryz.prog.info? 60).map (·.size)=some 5:=by kernel_rfl
theorem Tryz.infoSet2:(Tryz.prog.info? 58).map (·.size)=some 2:=by kernel_rfl
theorem info_pair {t:TypeId} {z:Option Value} {n:Nat} (h:(Tryz.prog.info? t).map (fun i=>(i.zero,i.size))=some (z,n)):∃ i,Tryz.prog.info? t=some i∧i.zero=z∧i.size=n:=by
 obtain ⟨i,hi,he⟩:=Option.map_eq_some_iff.1 h
 injection he with h1 h2
 exact ⟨i,hi,h1,h2⟩
abbrev viewZ:Array Value:= #[.int .i64 0, .slice none 0 0, .int .i64 0, .slice none 0 0, .int .i64 0]
theorem wpList_storeW {ops:Array Oper} {rest:List Oper} {op:Oper} {A:Act} {w:World} {Q:Exit→Act→World→Prop} {b:Nat} {cs vs:Array Value} {e:TypeId} (hb:w.heap[b]?=some (.cells cs e (0,0))) (hgd:op.guard=none) (ty:TypeId) (x y:Operand) (ho:op.op= .store ty x y)
  (hx:A.eval x= .pointer (some ⟨b,0,none⟩)) (hy:A.eval y= .agg vs) (hl:vs.size=cs.size) (hi:(Tryz.prog.info? ty).map (·.size)=some vs.size) (h1:vs.all (·.oneCell')=true)
  (h:∀ wy,Fr (fun k=>k=b) w wy→wy.heap[b]?=some (.cells vs e (0,0))→wpList Tryz.prog ops Q rest (A.put op.dst undef) wy):wpList Tryz.prog ops Q (op::rest) A w:=
 wpList_store_mid hgd ty x y ho b 0 vs hx hy (blk_there hb _ (by omega)) hi h1 (h _ (fr_setCells _ _ _ _) (blk_all hb vs hl))
theorem Bx.of_block {w:World} {q:Nat} {cs:Array Value} {e:TypeId} {fz:Nat×Nat} (hb:w.heap[q]?=some (.cells cs e fz)):Bx w q cs.toList:=by
 intro j v hv
 rw [Lib.cell_of_heap hb]
 simpa using hv
def vwNew (self a p:Int):Vw:=⟨self,[],min (max a 0) 64,[],min (max p 0) 64⟩
theorem vwNew_good (self a p:Int):(vwNew self a p).Good:=⟨Good.nil (by simp only [vwNew];omega) (by simp only [vwNew];omega),Good.nil (by simp only [vwNew];omega) (by simp only [vwNew];omega)⟩
def vwNone:VwP:=⟨none,0,none,0⟩
theorem viewNew_any (self a p:Int) (W:World):Calls Tryz.prog 66 #[.int .i64 self, .int .i64 a, .int .i64 p] W fun e w'=>e= .returned ((vwNew self a p).val vwNone)∧Gr W w':=by
 obtain ⟨w1,hw1⟩:∃ w1,w1=W.alloc (.cells viewZ 60):=⟨_,rfl⟩
 have f1:Gr W w1:=by rw [hw1];exact (Fr.refl _ _).alloc _
 have R1:=Lib.hid (show w1.heap[W.heap.size]?=some (.cells viewZ 60 (0,0)) by rw [hw1,heap_alloc_if,if_pos rfl])
 have F1:=Lib.hid f1
 have HW1:=Lib.hid hw1
 obtain ⟨qa,hqa⟩:∃ q,min (max a 0) 64=q:=⟨_,rfl⟩
 obtain ⟨qp,hqp⟩:∃ q,min (max p 0) 64=q:=⟨_,rfl⟩
 have C1:=Lib.hid (fun w=>setNew_any a w)
 have C2:=Lib.hid (fun w=>setNew_any p w)
 unfold vwNew Vw.val Vw.arr vwNone
 rw [hqa,hqp]
 rw [hqa] at C1
 rw [hqp] at C2
 clear hw1 f1 hqa hqp
 go_enter Tryz.func66,Tryz.ntmps66
 go_upto_region 1 with fail
 rw [←HW1.out]
 clear HW1
 go_wp2_with fail
 refine (C1.out _).mono ?_
 rintro e w2 ⟨rfl,f2⟩
 have R2:=Lib.hid (blk_keep f2 R1.out (fun h=>h))
 have F2:=Lib.hid (Gr.trans F1.out f2)
 clear f2 R1 F1 C1
 go_wp2_with fail
 refine (C2.out _).mono ?_
 rintro e w3 ⟨rfl,f3⟩
 have R3:=Lib.hid (blk_keep f3 R2.out (fun h=>h))
 have F3:=Lib.hid (Gr.trans F2.out f3)
 clear f3 R2 F2 C2
 go_wp2_with (refine wpList_storeW (vs:= #[.int .i64 self, .slice none 0 0, .int .i64 qa, .slice none 0 0, .int .i64 qp]) R3.out (by rfl) 60 _ _ (by rfl) (by rfl) (by rfl) rfl Tryz.infoView (by rw [←Array.all_toList];rfl) ?_)
 intro w4 f4 b4
 have F4:=Lib.hid (fr_new F3.out f4 (Nat.le_refl _))
 have R4:=Lib.hid b4
 clear f4 b4 R3 F3
 have L4:Hid ((loadVar 60 ⟨W.heap.size,0,none⟩).run Tryz.prog w4= .ok (.agg #[.int .i64 self, .slice none 0 0, .int .i64 qa, .slice none 0 0, .int .i64 qp]) w4):=Lib.hid (run_loadVar_mid w4 (W.heap.size) 0 60 (Array.toList #[.int .i64 self, .slice none 0 0, .int .i64 qa, .slice none 0 0, .int .i64 qp]) _ (blk_range R4.out) Tryz.underlying60 rfl Tryz.infoView)
 have A4:Hid ((asAddr (.pointer (some ⟨W.heap.size,0,none⟩))).run Tryz.prog w4= .ok ⟨W.heap.size,0,none⟩ w4):=Lib.hid (by simp [go_sem])
 go_wp2_with fail
 refine bodyPost_ret (v:= .agg #[.int .i64 self, .slice none 0 0, .int .i64 qa, .slice none 0 0, .int .i64 qp]) (by simp [results,Tryz.results66,Sem.run_bind,Result.andThen_ok,L4.out,A4.out]) rfl ?_
 exact ⟨rfl,F4.out⟩
theorem viewForget_any (v:Vw) (x:VwP) (n:Int) (W:World) (h:VwAt W v x):Calls Tryz.prog 83 #[v.val x, .int .i64 n] W (VEnd0 v (vForget v n) (fun l=> .agg l) W x):=by
 obtain ⟨w1,hw1⟩:∃ w1,w1=(W.alloc (.cells (v.arr x) 60)).alloc (.cells viewZ 60):=⟨_,rfl⟩
 have f1:Gr W w1:=by rw [hw1];exact ((Fr.refl _ _).alloc _).alloc _
 have V1:=Lib.hid (show w1.heap[W.heap.size]?=some (.cells (v.arr x) 60 (0,0)) by rw [hw1,heap_alloc_if,if_neg (by simp),heap_alloc_if,if_pos rfl])
 have R1:=Lib.hid (show w1.heap[W.heap.size+1]?=some (.cells viewZ 60 (0,0)) by rw [hw1,heap_alloc_if,if_pos (by simp)])
 have s1:W.heap.size+1<w1.heap.size:=by rw [hw1];simp
 have F1:=Lib.hid f1
 have HW1:=Lib.hid hw1
 have H1:=Lib.hid (h.gr f1)
 have CD:=Lib.hid (setDrop3_any x.pa x.pc v.pas v.pm n w1 H1.out.pas h.good.pas)
 unfold SetOut3 at CD
 have HG:=Lib.hid (vForget_good h.good n)
 have e1:=h.pas.le
 have e2:=h.pas.max
 have H0:=Lib.hid h
 obtain ⟨l',hl'⟩:∃ l',l'=sDrop v.pas n:=⟨_,rfl⟩
 unfold VEnd0 vForget
 unfold vForget at HG
 rw [←hl'] at CD HG ⊢
 clear hw1 f1 hl' h
 have y3:=(Bx.of_block V1.out) 3 _ rfl
 have y4:=(Bx.of_block V1.out) 4 _ rfl
 go_enter Tryz.func83,Tryz.ntmps83
 go_upto_region 1 with fail
 rw [←HW1.out]
 clear HW1
 go_wp2_with fail
 refine CD.out.mono ?_
 rintro e w2 ⟨a',cap',rfl,hs',f2,hfr⟩
 have V2:=Lib.hid (blk_keep f2 V1.out (fun h=>h))
 have R2:=Lib.hid (blk_keep f2 R1.out (fun h=>h))
 have F2:=Lib.hid (Gr.trans F1.out f2)
 have H2:=Lib.hid (show VwAt w2 ⟨v.self,v.act,v.am,l',v.pm⟩ ⟨x.aa,x.ac,a',cap'⟩ from ⟨(H1.out.gr f2).act,hs',HG.out⟩)
 have HF:=Lib.hid (show VwFrom w1 v x ⟨v.self,v.act,v.am,l',v.pm⟩ ⟨x.aa,x.ac,a',cap'⟩ from ⟨fun q h=> .inl ⟨h,rfl⟩,hfr⟩)
 clear f2 V1 R1 F1 CD y3 y4 hs' H1 hfr HG
 go_wp2_with (refine wpList_storeB (o:=3) (vs:= #[.slice a' l'.length cap', .int .i64 v.pm]) V2.out (by rfl) 58 _ _ (by rfl) (by rfl) (by rfl) (Nat.le_of_ble_eq_true rfl) Tryz.infoSet2 (by rw [←Array.all_toList];rfl) ?_)
 intro w3 f3 b3
 have V3:=Lib.hid (show w3.heap[W.heap.size]?=some (.cells #[.int .i64 v.self, .slice x.aa v.act.length x.ac, .int .i64 v.am, .slice a' l'.length cap', .int .i64 v.pm] 60 (0,0)) from b3)
 have R3:=Lib.hid (blk_keep f3 R2.out (by omega))
 have F3:=Lib.hid (fr_new F2.out f3 (Nat.le_refl _))
 have K3:=Lib.hid (f3.mono (T:=fun k=>k≤W.heap.size+1) (fun k _ h=>by omega))
 clear f3 b3 V2 R2 F2
 go_upto_region 2 with fail
 refine wp_region_lit ?_
 refine wpList_load_mid (by rfl) 60 _ (by rfl) W.heap.size 0 (by rfl) (Array.toList #[.int .i64 v.self, .slice x.aa v.act.length x.ac, .int .i64 v.am, .slice a' l'.length cap', .int .i64 v.pm]) _ (blk_range V3.out) Tryz.underlying60 rfl Tryz.infoView ?_
 go_wp2_with (refine wpList_storeW (vs:= #[.int .i64 v.self, .slice x.aa v.act.length x.ac, .int .i64 v.am, .slice a' l'.length cap', .int .i64 v.pm]) R3.out (by rfl) 60 _ _ (by rfl) (by rfl) (by rfl) rfl Tryz.infoView (by rw [←Array.all_toList];rfl) ?_)
 intro w4 f4 b4
 have F4:=Lib.hid (fr_new F3.out f4 (show W.heap.size≤W.heap.size+1 by omega))
 have R4:=Lib.hid b4
 have H4:=Lib.hid (H2.out.moved (Fr.trans K3.out f4 (fun k h=> .inl (by omega))) H0.out F4.out HF.out (fun k h=>by omega) nof)
 clear f4 b4 V3 R3 F3 K3
 have L4:Hid ((loadVar 60 ⟨W.heap.size+1,0,none⟩).run Tryz.prog w4= .ok (.agg #[.int .i64 v.self, .slice x.aa v.act.length x.ac, .int .i64 v.am, .slice a' l'.length cap', .int .i64 v.pm]) w4):=Lib.hid (run_loadVar_mid w4 (W.heap.size+1) 0 60 (Array.toList #[.int .i64 v.self, .slice x.aa v.act.length x.ac, .int .i64 v.am, .slice a' l'.length cap', .int .i64 v.pm]) _ (blk_range R4.out) Tryz.underlying60 rfl Tryz.infoView)
 have A4:Hid ((asAddr (.pointer (some ⟨W.heap.size+1,0,none⟩))).run Tryz.prog w4= .ok ⟨W.heap.size+1,0,none⟩ w4):=Lib.hid (by simp [go_sem])
 go_wp2_with fail
 refine bodyPost_ret (v:= .agg #[.int .i64 v.self, .slice x.aa v.act.length x.ac, .int .i64 v.am, .slice a' l'.length cap', .int .i64 v.pm]) (by simp [results,Tryz.results83,Sem.run_bind,Result.andThen_ok,L4.out,A4.out]) rfl ?_
 exact ⟨_,rfl,H4.out,F4.out,HF.out.mono (by omega)⟩
theorem viewJoin_any (v:Vw) (x:VwP) (n:Int) (W:World) (h:VwAt W v x):Calls Tryz.prog 121 #[v.val x, .int .i64 n] W (VEnd0 v (vJoin v n) (fun l=> .tuple #[.agg l, .bool (vJoinOk v n)]) W x):=by
 obtain ⟨iz,hz1,hz2,hz3⟩:=info_pair Tryz.zeroSet
 obtain ⟨w1,hw1⟩:∃ w1,w1=(W.alloc (.cells (v.arr x) 60)).alloc (.cells viewZ 60):=⟨_,rfl⟩
 have f1:Gr W w1:=by rw [hw1];exact ((Fr.refl _ _).alloc _).alloc _
 have V1:=Lib.hid (show w1.heap[W.heap.size]?=some (.cells (v.arr x) 60 (0,0)) by rw [hw1,heap_alloc_if,if_neg (by simp),heap_alloc_if,if_pos rfl])
 have R1:=Lib.hid (show w1.heap[W.heap.size+1]?=some (.cells viewZ 60 (0,0)) by rw [hw1,heap_alloc_if,if_pos (by simp)])
 have s1:W.heap.size+1<w1.heap.size:=by rw [hw1];simp
 have F1:=Lib.hid f1
 have HW1:=Lib.hid hw1
 have H1:=Lib.hid (h.gr f1)
 have CA:=Lib.hid (setAdd3_any x.aa x.ac v.act v.am n w1 H1.out.act h.good.act)
 unfold SetOut3 at CA
 have HG:=Lib.hid (h.good.act.add n)
 have e1:=h.act.le
 have e2:=h.act.max
 have e3:=h.pas.le
 have e4:=h.pas.max
 have H0:=Lib.hid h
 obtain ⟨v',hv'⟩:∃ v',v'=vJoin v n:=⟨_,rfl⟩
 obtain ⟨kk,hkk⟩:∃ k,k=vJoinOk v n:=⟨_,rfl⟩
 unfold VEnd0
 rw [←hv', ←hkk]
 unfold vJoin at hv'
 rw [←hkk] at hv'
 unfold vJoinOk at hkk
 obtain ⟨l',hl'⟩:∃ l',l'=sAdd v.act v.am n:=⟨_,rfl⟩
 obtain ⟨ok,hok⟩:∃ ok,ok=sAddOk v.act v.am n:=⟨_,rfl⟩
 rw [←hl'] at CA HG hv'
 rw [←hok] at CA hkk
 have HV:=Lib.hid hv'
 have HK:=Lib.hid hkk
 clear hw1 f1 hl' hok hv' hkk h
 have y1:=(Bx.of_block V1.out) 1 _ rfl
 have y2:=(Bx.of_block V1.out) 2 _ rfl
 go_enter Tryz.func121,Tryz.ntmps121
 go_upto_region 1 with fail
 rw [←HW1.out]
 clear HW1
 go_wp2_with fail
 refine CA.out.mono ?_
 rintro e w2 ⟨a',cap',rfl,hs',f2,hfr⟩
 have V2:=Lib.hid (blk_keep f2 V1.out (fun h=>h))
 have R2:=Lib.hid (blk_keep f2 R1.out (fun h=>h))
 have F2:=Lib.hid (Gr.trans F1.out f2)
 have H2:=Lib.hid (show VwAt w2 ⟨v.self,l',v.am,v.pas,v.pm⟩ ⟨a',cap',x.pa,x.pc⟩ from ⟨hs',(H1.out.gr f2).pas,⟨HG.out,H0.out.good.pas⟩⟩)
 have HF:=Lib.hid (show VwFrom w1 v x ⟨v.self,l',v.am,v.pas,v.pm⟩ ⟨a',cap',x.pa,x.pc⟩ from ⟨hfr,fun q h=> .inl ⟨h,rfl⟩⟩)
 have e5:=hs'.le
 have e6:=hs'.max
 have s2:=f2.size
 clear f2 V1 R1 F1 CA y1 y2 hs' H1 hfr HG
 go_wp2_with (refine wpList_fresh (vs:= #[.slice a' l'.length cap', .int .i64 v.am]) hz1 hz2 Tryz.infoSet2 (by rfl) (by rw [←Array.all_toList];rfl) (by rfl) (by rfl) ?_)
 intro w3 f3 b3 l3
 have V3:=Lib.hid (blk_keep f3 V2.out (fun h=>h))
 have R3:=Lib.hid (blk_keep f3 R2.out (fun h=>h))
 have F3:=Lib.hid (Gr.trans F2.out f3)
 have H3:=Lib.hid (H2.out.gr f3)
 have s3:=f3.size
 obtain ⟨z,hz⟩:∃ z,z=w2.heap.size:=⟨_,rfl⟩
 rw [←hz] at b3 l3 ⊢
 have Z3:=Lib.hid b3
 have hqz:W.heap.size+1<z:=by omega
 clear f3 b3 V2 R2 F2 H2 hz
 have y0:=(Bx.of_block V3.out) 0 _ rfl
 cases ok
 case false=>
  obtain rfl:kk=false:=by have:=HK.out;simpa using this
  obtain rfl:v'=v:=by have:=HV.out;simpa using this
  go_upto_region 3 with fail
  refine wp_region_lit ?_
  refine wpList_load_mid (by rfl) 60 _ (by rfl) W.heap.size 0 (by rfl) (Array.toList (v'.arr x)) _ (blk_range V3.out) Tryz.underlying60 rfl Tryz.infoView ?_
  go_wp2_with (refine wpList_storeW (vs:=v'.arr x) R3.out (by rfl) 60 _ _ (by rfl) (by rfl) (by rfl) rfl Tryz.infoView (by rw [←Array.all_toList];rfl) ?_)
  intro w8 f8 b8
  have F8:=Lib.hid (fr_new F3.out f8 (show W.heap.size≤W.heap.size+1 by omega))
  have R8:=Lib.hid b8
  have H8:=Lib.hid (H0.out.gr F8.out)
  clear f8 b8
  have L8:Hid ((loadVar 60 ⟨W.heap.size+1,0,none⟩).run Tryz.prog w8= .ok (.agg (v'.arr x)) w8):=Lib.hid (run_loadVar_mid w8 (W.heap.size+1) 0 60 (Array.toList (v'.arr x)) _ (blk_range R8.out) Tryz.underlying60 rfl Tryz.infoView)
  have A8:Hid ((asAddr (.pointer (some ⟨W.heap.size+1,0,none⟩))).run Tryz.prog w8= .ok ⟨W.heap.size+1,0,none⟩ w8):=Lib.hid (by simp [go_sem])
  go_wp2_with fail
  refine bodyPost_ret (v:= .tuple #[.agg (v'.arr x), .bool false]) (by simp [results,Tryz.results121,Sem.run_bind,Result.andThen_ok,L8.out,A8.out]) rfl ?_
  exact ⟨x,rfl,H8.out,F8.out,VwFrom.refl _ _ _⟩
 case true=>
  by_cases hself:n=v.self
  ·have hse:(n==v.self)=true:=by simpa using hself
   obtain rfl:kk=false:=by have:=HK.out;rw [hse] at this;simpa using this
   obtain rfl:v'=v:=by have:=HV.out;simpa using this
   clear hself
   go_upto_region 3 with fail
   refine wp_region_lit ?_
   refine wpList_load_mid (by rfl) 60 _ (by rfl) W.heap.size 0 (by rfl) (Array.toList (v'.arr x)) _ (blk_range V3.out) Tryz.underlying60 rfl Tryz.infoView ?_
   go_wp2_with (refine wpList_storeW (vs:=v'.arr x) R3.out (by rfl) 60 _ _ (by rfl) (by rfl) (by rfl) rfl Tryz.infoView (by rw [←Array.all_toList];rfl) ?_)
   intro w8 f8 b8
   have F8:=Lib.hid (fr_new F3.out f8 (show W.heap.size≤W.heap.size+1 by omega))
   have R8:=Lib.hid b8
   have H8:=Lib.hid (H0.out.gr F8.out)
   clear f8 b8
   have L8:Hid ((loadVar 60 ⟨W.heap.size+1,0,none⟩).run Tryz.prog w8= .ok (.agg (v'.arr x)) w8):=Lib.hid (run_loadVar_mid w8 (W.heap.size+1) 0 60 (Array.toList (v'.arr x)) _ (blk_range R8.out) Tryz.underlying60 rfl Tryz.infoView)
   have A8:Hid ((asAddr (.pointer (some ⟨W.heap.size+1,0,none⟩))).run Tryz.prog w8= .ok ⟨W.heap.size+1,0,none⟩ w8):=Lib.hid (by simp [go_sem])
   go_wp2_with fail
   refine bodyPost_ret (v:= .tuple #[.agg (v'.arr x), .bool false]) (by simp [results,Tryz.results121,Sem.run_bind,Result.andThen_ok,L8.out,A8.out]) rfl ?_
   exact ⟨x,rfl,H8.out,F8.out,VwFrom.refl _ _ _⟩
  ·have hse:(n==v.self)=false:=by simpa using hself
   obtain rfl:kk=true:=by have:=HK.out;rw [hse] at this;simpa using this
   have HV2:=Lib.hid (show v'=vForget ⟨v.self,l',v.am,v.pas,v.pm⟩ n by have:=HV.out;rw [if_pos rfl] at this;exact this)
   clear hself HV HK
   have z0:=(Bx.of_block Z3.out) 0 _ rfl
   have z1:=(Bx.of_block Z3.out) 1 _ rfl
   go_upto_region 4 with fail
   go_wp2_with (refine wpList_storeB (o:=1) (vs:= #[.slice a' l'.length cap', .int .i64 v.am]) V3.out (by rfl) 58 _ _ (by rfl) (by rfl) (by rfl) (Nat.le_of_ble_eq_true rfl) Tryz.infoSet2 (by rw [←Array.all_toList];rfl) ?_)
   intro w4 f4 b4
   have V4:=Lib.hid (show w4.heap[W.heap.size]?=some (.cells #[.int .i64 v.self, .slice a' l'.length cap', .int .i64 v.am, .slice x.pa v.pas.length x.pc, .int .i64 v.pm] 60 (0,0)) from b4)
   have R4:=Lib.hid (blk_keep f4 R3.out (by omega))
   have F4:=Lib.hid (fr_new F3.out f4 (Nat.le_refl _))
   have H4:=Lib.hid (H3.out.moved f4 H0.out F4.out HF.out (fun k h=>by omega) nof)
   have CF:=Lib.hid (viewForget_any ⟨v.self,l',v.am,v.pas,v.pm⟩ ⟨a',cap',x.pa,x.pc⟩ n w4 H4.out)
   unfold VEnd0 at CF
   rw [←HV2.out] at CF
   have s4:=F4.out.size
   have s5:=f4.size
   clear f4 b4 V3 R3 F3 H3 Z3 z0 z1
   go_upto_region 5 with fail
   refine wp_region_lit ?_
   refine wpList_load_mid (by rfl) 60 _ (by rfl) W.heap.size 0 (by rfl) (Array.toList #[.int .i64 v.self, .slice a' l'.length cap', .int .i64 v.am, .slice x.pa v.pas.length x.pc, .int .i64 v.pm]) _ (blk_range V4.out) Tryz.underlying60 rfl Tryz.infoView ?_
   go_wp2_with fail
   refine CF.out.mono ?_
   rintro e w5 ⟨y,rfl,h5,f5,k5⟩
   have R5:=Lib.hid (blk_keep f5 R4.out (fun h=>h))
   have F5:=Lib.hid (Gr.trans F4.out f5)
   have H5:=Lib.hid h5
   have K5:=Lib.hid (HF.out.trans (by omega) k5)
   clear f5 h5 k5 V4 R4 F4 CF H4 HF
   go_wp2_with (refine wpList_storeW (vs:=v'.arr y) R5.out (by rfl) 60 _ _ (by rfl) (by rfl) (by rfl) rfl Tryz.infoView (by rw [←Array.all_toList];rfl) ?_)
   intro w6 f6 b6
   have F6:=Lib.hid (fr_new F5.out f6 (show W.heap.size≤W.heap.size+1 by omega))
   have R6:=Lib.hid b6
   have H6:=Lib.hid (H5.out.moved f6 H0.out F6.out K5.out (fun k h=>by omega) nof)
   clear f6 b6 R5 F5 H5
   have L6:Hid ((loadVar 60 ⟨W.heap.size+1,0,none⟩).run Tryz.prog w6= .ok (.agg (v'.arr y)) w6):=Lib.hid (run_loadVar_mid w6 (W.heap.size+1) 0 60 (Array.toList (v'.arr y)) _ (blk_range R6.out) Tryz.underlying60 rfl Tryz.infoView)
   have A6:Hid ((asAddr (.pointer (some ⟨W.heap.size+1,0,none⟩))).run Tryz.prog w6= .ok ⟨W.heap.size+1,0,none⟩ w6):=Lib.hid (by simp [go_sem])
   go_wp2_with fail
   refine bodyPost_ret (v:= .tuple #[.agg (v'.arr y), .bool true]) (by simp [results,Tryz.results121,Sem.run_bind,Result.andThen_ok,L6.out,A6.out]) rfl ?_
   exact ⟨y,rfl,H6.out,F6.out,K5.out.mono (by omega)⟩
end Go.Proofs.YtelepohdfcjnfaaGreat
