/-
  Memory that has grown: words for all seats.
-/
import Derived.Test.YtelepohdfcjnfaaGreatZBase
import Derived.Lib.Builder
import Derived.Deep.MidRow
import Derived.Test.YtelepohdfcjnfaaGreatShelfA
namespace Go.Proofs.YtelepohdfcjnfaaGreat
set_option maxHeartbeats 400000
section
open Go.RowKit Go.Proofs
abbrev Gr (w w':World):Prop:=Fr (fun _=>False) w w'
theorem Gr.trans {a b c:World} (h:Gr a b) (k:Gr b c):Gr a c:=Fr.trans h k (fun _ h=>h.elim)
theorem Gr.of_below {a b:World} (h:Below a.heap.size a b):Gr a b:=Fr.of_below h (fun k h1 h2=>absurd h2 (by omega))
theorem heap_alloc_if (w:World) (o:Obj) (k:Nat):(w.alloc o).heap[k]?=if k=w.heap.size then some o else w.heap[k]?:=by
 by_cases h:k=w.heap.size
 ·subst h;rw [if_pos rfl];exact by simp [World.alloc, -World.alloc_eq]
 ·rw [if_neg h]
  rcases Nat.lt_or_ge k w.heap.size with h1 | h1
  ·exact Lib.alloc_old w o k h1
  ·rw [Array.getElem?_eq_none (by simp;omega),Array.getElem?_eq_none h1]
theorem SlA.old {S:Nat→Prop} {w w':World} {a:Option Addr} {n cap:Nat} {cs:List Value} (h:SlA w a n cap cs) (f:Fr S w w') (hS:∀ k,S k→w.heap.size≤k):SlA w' a n cap cs:=
 ⟨h.le,h.max,fun j u hj=>by
  obtain ⟨b,o,rfl,hc⟩:=h.cell j u hj
  exact ⟨b,o,rfl,f.cell hc (fun hs=>by have:=hS _ hs;have:=lt_of_cell hc;simp only at *; omega)⟩⟩
def Bx (w:World) (q:Nat) (cs:List Value):Prop:=∀ j v,cs[j]?=some v→w.cell? ⟨q,j,none⟩=some v
theorem Bx.keep {S:Nat→Prop} {w w':World} {q:Nat} {cs:List Value} (a:Bx w q cs) (f:Fr S w w') (hq:¬ S q):Bx w' q cs:=fun j v hv=>f.cell (a j v hv) hq
theorem Bx.new (w:World) (cs:Array Value) (e:TypeId):Bx (w.alloc (.cells cs e)) w.heap.size cs.toList:=by
 intro j v hv
 rw [World.cell?_alloc_at _ _ _ _ rfl]
 simpa using hv
theorem Gr.bx {w w':World} {cs:Array Value} {e:TypeId} (f:Gr (w.alloc (.cells cs e)) w'):Bx w' w.heap.size cs.toList:=(Bx.new w cs e).keep f (fun h=>h)
theorem flatMap_get {α:Type} (f:α→List Value) (n:Nat) (hn:∀ x,(f x).length=n) (l:List α) (i j:Nat) (hi:i<l.length) (hj:j<n):(l.flatMap f)[i * n+j]?=(f l[i])[j]?:=by
 induction l generalizing i with
 | nil=>simp at hi
 | cons x r ih=>
  rw [List.flatMap_cons]
  cases i with
  | zero=>rw [List.getElem?_append_left (by rw [hn];omega)];simp
  | succ i=>
   rw [List.getElem?_append_right (by rw [hn,Nat.add_mul];omega),hn]
   rw [show (i+1) * n+j-n=i * n+j by rw [Nat.add_mul];omega]
   simpa using ih i (by simpa using hi)
theorem SlA.elem {α:Type} {f:α→List Value} {n:Nat} (hn:∀ x,(f x).length=n) (h0:0<n) {w:World} {a:Option Addr} {cap:Nat} {l:List α} (h:SlA w a l.length cap (l.flatMap f)) (i:Nat) (hi:i<l.length):
  ∃ b o,a=some ⟨b,o,none⟩∧∀ j v,(f l[i])[j]?=some v→w.cell? ⟨b,o+i * n+j,none⟩=some v:=by
 have h1:=flatMap_get f n hn l i 0 hi h0
 obtain ⟨b,o,rfl,_⟩:=h.cell (i * n+0) ((f l[i])[0]'(by rw [hn];exact h0)) (by rw [h1];exact List.getElem?_eq_getElem _)
 refine ⟨b,o,rfl,fun j v hv=>?_⟩
 have hj:j<n:=by rw [←hn l[i]];exact (List.getElem?_eq_some_iff.1 hv).1
 obtain ⟨b',o',e,hc⟩:=h.cell (i * n+j) v (by rw [flatMap_get f n hn l i j hi hj];exact hv)
 cases e
 rw [Nat.add_assoc];exact hc
theorem SlA.at1 {α:Type} {f:α→Value} {w:World} {a:Option Addr} {n cap:Nat} {l:List α} (h:SlA w a n cap (l.map f)) (k:Nat) (hk:k<l.length):
  ∃ b o,a=some ⟨b,o,none⟩∧w.cell? ⟨b,o+k,none⟩=some (f l[k]):=
 h.cell k (f l[k]) (by rw [List.getElem?_map,List.getElem?_eq_getElem hk];rfl)
end
section
open Go.RowKit Go.Proofs
theorem heap_setCells (b:Nat):∀ (vs:List Value) (o:Nat) (w:World) (c:Array Value) (e:TypeId) (fz:Nat×Nat),w.heap[b]?=some (.cells c e fz)→o+vs.length≤c.size→
  ∃ c',(w.setCells b o vs).heap[b]?=some (.cells c' e fz)∧c'.size=c.size∧(∀ j,j<o→c'[j]?=c[j]?)∧(∀ j u,vs[j]?=some u→c'[o+j]?=some u)∧(∀ j,o+vs.length≤j→c'[j]?=c[j]?)
 | [],o,w,c,e,fz,h,_=>⟨c,h,rfl,fun _ _=>rfl,fun j u hj=>by simp at hj,fun _ _=>rfl⟩
 | v::r,o,w,c,e,fz,h,hs=>by
  have h1:(w.setCell ⟨b,o,none⟩ v).heap[b]?=some (.cells (c.setIfInBounds o v) e fz):=by
   simp [World.setCell,Array.getElem?_modify,h]
  simp only [List.length_cons] at hs
  obtain ⟨c',g1,g2,g3,g4,g5⟩:=heap_setCells b r (o+1) (w.setCell ⟨b,o,none⟩ v) (c.setIfInBounds o v) e fz h1 (by simp;omega)
  refine ⟨c',g1,by simpa using g2,fun j hj=>?_,fun j u hj=>?_,fun j hj=>?_⟩
  ·rw [g3 j (by omega),Array.getElem?_setIfInBounds_ne (by omega)]
  ·cases j with
   | zero=>
    simp at hj
    subst hj
    rw [g3 (o+0) (by omega)]
    simp [show o<c.size by omega]
   | succ j=>rw [show o+(j+1)=o+1+j by omega];exact g4 j u (by simpa using hj)
  ·simp only [List.length_cons] at hj
   rw [g5 j (by omega),Array.getElem?_setIfInBounds_ne (by omega)]
theorem fr_setCells (b:Nat):∀ (vs:List Value) (o:Nat) (w:World),Fr (· =b) w (w.setCells b o vs)
 | [],_,w=>Fr.refl _ w
 | v::r,o,w=>((Fr.refl (· =b) w).setCell (p:=⟨b,o,none⟩) (.inl rfl) v).trans (fr_setCells b r (o+1) _) (fun _ h=> .inl h)
theorem blk_all {w:World} {b:Nat} {c:Array Value} {e:TypeId} {fz:Nat×Nat} (h:w.heap[b]?=some (.cells c e fz)) (vs:Array Value) (hl:vs.size=c.size):(w.setCells b 0 vs.toList).heap[b]?=some (.cells vs e fz):=by
 obtain ⟨c',g1,g2,_,g4,_⟩:=heap_setCells b vs.toList 0 w c e fz h (by simp;omega)
 rw [g1]
 congr 2
 apply Array.ext
 ·omega
 ·intro i h1 h2
  have:=g4 i vs[i] (by simp [h2])
  rw [Nat.zero_add] at this
  rw [Array.getElem?_eq_getElem h1] at this
  simpa using this
theorem blk_there {w:World} {b:Nat} {c:Array Value} {e:TypeId} (h:w.heap[b]?=some (.cells c e (0,0))) (n:Nat) (hn:n≤c.size):w.there b 0 n:=by
 intro j hj
 rw [Nat.zero_add]
 refine ⟨?_,Lib.frozen_of_heap h j⟩
 rw [Lib.cell_of_heap h,Array.getElem?_eq_getElem (by omega)]
 rfl
theorem blk_range {w:World} {b:Nat} {c:Array Value} {e:TypeId} {fz:Nat×Nat} (h:w.heap[b]?=some (.cells c e fz)):w.rangeAt b 0 c.toList:=by
 intro j v hj
 rw [Nat.zero_add,Lib.cell_of_heap h]
 simpa using hj
end
section
open Go.RowKit Go.Proofs Go.Sort
theorem own_rewrite {w:World} {base:Nat} {e:TypeId} {g n cap m:Nat} {cs vs:List Value} (h:w.ownsRow base e 1 (.slice (some ⟨g,0,none⟩) n cap) n cs) (hv:vs.length=n) (hm:m≤n) (q:Nat):
  ((w.drewN q).setCells g 0 vs).ownsRow base e 1 (.slice (some ⟨g,0,none⟩) m cap) m (vs.take m)∧Fr (· =g) w ((w.drewN q).setCells g 0 vs):=by
 obtain ⟨hl,h' | ⟨g',cap',cur,hv',hb,hh,hn,hc,hs,ht⟩⟩:=h
 ·simp at h'
 ·simp only [Value.slice.injEq,Option.some.injEq,Addr.mk.injEq,and_true,true_and] at hv'
  obtain ⟨rfl,rfl⟩:=hv'
  obtain ⟨c',g1,g2,g3,g4,g5⟩:=heap_setCells g vs 0 (w.drewN q) cur e (0,0) hh (by omega)
  refine ⟨⟨by simp;omega, .inr ⟨g,cap,c',rfl,hb,g1,by omega,hc,by omega,?_⟩⟩,(Fr.undrewN (n:=q) (fr_setCells g vs 0 (w.drewN q)))⟩
  apply List.ext_getElem?
  intro j
  rw [List.getElem?_take,List.getElem?_take]
  by_cases hj:j<m
  ·rw [if_pos (by omega),if_pos hj]
   have h1:=g4 j vs[j] (by rw [List.getElem?_eq_getElem (by omega)])
   rw [Nat.zero_add] at h1
   rw [List.getElem?_eq_getElem (show j<vs.length by omega), ←h1]
   simp
  ·rw [if_neg (by omega),if_neg hj]
theorem take_erase {α:Type} (l:List α) (i:Nat) (z:α) (hi:i<l.length):(l.take i++l.drop (i+1)++List.replicate (i+1-i) z).take (l.length-1)=l.eraseIdx i:=by
 rw [List.eraseIdx_eq_take_drop_succ]
 rw [List.take_append_of_le_length (by simp;omega)]
 rw [List.take_of_length_le (by simp;omega)]
theorem delete_int (base g cap i:Nat) (l:List Int) (w:World) (h:w.ownsRow base 3 1 (.slice (some ⟨g,0,none⟩) l.length cap) l.length (l.map (Value.int .i64))) (hi:i<l.length):
  Calls Tryz.prog 113 #[.slice (some ⟨g,0,none⟩) l.length cap, .int .i64 i, .int .i64 ((i:Int)+1)] w fun e w'=>e= .returned (.slice (some ⟨g,0,none⟩) (l.length-1) cap)∧
   w'.ownsRow base 3 1 (.slice (some ⟨g,0,none⟩) (l.length-1) cap) (l.eraseIdx i).length ((l.eraseIdx i).map (Value.int .i64))∧Fr (· =g) w w':=by
 have hcell:∀ j,j<l.length→w.cell? ⟨g,0+j,none⟩=some (.int .i64 (l.getD j 0)):=fun j hj=>by
  have:=h.cellAt j (by omega)
  rw [Nat.zero_add,this]
  simp [List.getD,hj]
 have hle:=(SlA.of_own h)
 obtain ⟨a,c,hv,hs,_⟩:=hle
 simp only [Value.slice.injEq,true_and] at hv
 obtain ⟨rfl,rfl⟩:=hv
 refine (Tryz.slices_Delete_int_cells g 0 l.length cap i (i+1) l w (Nat.le_refl _) hs.le hs.max (by omega) (by omega) hcell (fun j hj=>by rw [Nat.zero_add];exact h.frozenAt j)).mono ?_
 rintro e w' ⟨rfl,q,rfl⟩
 have hlen:(l.eraseIdx i).length=l.length-1:=by rw [List.length_eraseIdx,if_pos hi]
 obtain ⟨h1,h2⟩:=own_rewrite h (vs:=(((l.take l.length).take i++(l.take l.length).drop (i+1)++List.replicate (i+1-i) 0).map (Value.int .i64))) (m:=l.length-1) (by simp;omega) (by omega) q
 refine ⟨by rw [show l.length-(i+1-i)=l.length-1 by omega],?_,h2⟩
 rw [hlen]
 rw [←List.map_take,List.take_length,take_erase l i 0 hi] at h1
 simp only [List.take_length]
 exact h1
end
section
open Go.RowKit Go.Proofs
theorem Tryz.infoint:(Tryz.prog.info? 3).map (fun i=>(i.zero,i.size,i.bytes))=some (some (.int .i64 0),1,8):=by kernel_rfl
theorem clone_int (a:Option Addr) (n cap:Nat) (cs:List Value) (w:World) (h:SlA w a n cap cs) (hl:cs.length=n * 1) (h1:∀ u∈cs,u.oneCell'=true) (hb:n * 8≤140737488355328):
  Calls Tryz.prog 31 #[.slice a n cap] w fun e w'=>∃ v,e= .returned v∧w'.ownsRow w.heap.size 3 1 v n cs∧(v= .slice none 0 0↔a=none)∧Below w.heap.size w w':=by
 have q:∀ (w:World) (a:Option Addr) (n c n' c':Nat),(binOp .eql 42 (.slice a n c) (.slice none n' c')).run Tryz.prog w= .ok (.bool a.isNone) w:=fun w a n c n' c'=>Lib.run_eql_slice_nil w _ _ a n c n' c' Tryz.underlying42
 cases a with
 | none=>
  have hcs:cs=[]:=by
   cases cs with
   | nil=>rfl
   | cons x r=>obtain ⟨b,o,h0,_⟩:=h.cell 0 x rfl;cases h0
  subst hcs
  have hn:n=0:=by simp at hl;omega
  clear h hl h1 hb
  go_enter Tryz.func31,Tryz.ntmps31
  go_wp2
  go_ret
  exact ⟨_,rfl,by subst hn;exact World.ownsRow_nil _ _ _ _,by simp,Below.refl _ _⟩
 | some p=>
  obtain ⟨i0,hi,hz0,hz1,hz2⟩:=info_parts Tryz.infoint
  have H:=Lib.hid h;clear h
  have H1:=Lib.hid h1;clear h1
  have HL:=Lib.hid hl;clear hl
  go_enter Tryz.func31,Tryz.ntmps31
  go_wp2_with (at_builtin;refine wpList_append_own _ rfl _ _ 42 rfl w.heap.size 3 i0 (.int .i64 0) 1 8 Tryz.underlying42 hi hz0 hz1 hz2 rfl (by decide) _ _ _ rfl (World.ownsRow_made w #[] 0 (Nat.le_refl _) (Nat.zero_le _) rfl) p n cap cs rfl ?qc1 ?qc2 ?qc3 ?qc4 ?qc5 ?qc6 ?_)
  case qc1=>exact HL.out
  case qc2=>
   intro j u hj
   obtain ⟨b,o,hp,hc⟩:=H.out.cell j u hj
   cases hp
   rw [Addr.add_lit]
   exact Lib.cell?_alloc_some _ hc
  case qc3=>exact H1.out
  case qc4=>unfold maxLen;omega
  case qc5=>omega
  case qc6=>simp
  intro v' w1 hown hgrow hnil
  go_wp2
  go_ret
  refine ⟨v',rfl,by simpa using hown,?_,?_⟩
  ·simp;exact hnil
  ·exact ((Below.refl _ w).alloc (Nat.le_refl _) _).grown hgrow (by simp) (by intro k hk;simp [Value.ownBlock] at hk;omega)
end
section
open Go.RowKit Go.Proofs
theorem Tryz.infou32:(Tryz.prog.info? 105).map (fun i=>(i.zero,i.size,i.bytes))=some (some (.int .u32 0),1,4):=by kernel_rfl
theorem clone_u32 (a:Option Addr) (n cap:Nat) (cs:List Value) (w:World) (h:SlA w a n cap cs) (hl:cs.length=n * 1) (h1:∀ u∈cs,u.oneCell'=true) (hb:n * 4≤140737488355328):
  Calls Tryz.prog 34 #[.slice a n cap] w fun e w'=>∃ v,e= .returned v∧w'.ownsRow w.heap.size 105 1 v n cs∧(v= .slice none 0 0↔a=none)∧Below w.heap.size w w':=by
 have q:∀ (w:World) (a:Option Addr) (n c n' c':Nat),(binOp .eql 24 (.slice a n c) (.slice none n' c')).run Tryz.prog w= .ok (.bool a.isNone) w:=fun w a n c n' c'=>Lib.run_eql_slice_nil w _ _ a n c n' c' Tryz.underlying24
 cases a with
 | none=>
  have hcs:cs=[]:=by
   cases cs with
   | nil=>rfl
   | cons x r=>obtain ⟨b,o,h0,_⟩:=h.cell 0 x rfl;cases h0
  subst hcs
  have hn:n=0:=by simp at hl;omega
  clear h hl h1 hb
  go_enter Tryz.func34,Tryz.ntmps34
  go_wp2
  go_ret
  exact ⟨_,rfl,by subst hn;exact World.ownsRow_nil _ _ _ _,by simp,Below.refl _ _⟩
 | some p=>
  obtain ⟨i0,hi,hz0,hz1,hz2⟩:=info_parts Tryz.infou32
  have H:=Lib.hid h;clear h
  have H1:=Lib.hid h1;clear h1
  have HL:=Lib.hid hl;clear hl
  go_enter Tryz.func34,Tryz.ntmps34
  go_wp2_with (at_builtin;refine wpList_append_own _ rfl _ _ 24 rfl w.heap.size 105 i0 (.int .u32 0) 1 4 Tryz.underlying24 hi hz0 hz1 hz2 rfl (by decide) _ _ _ rfl (World.ownsRow_made w #[] 0 (Nat.le_refl _) (Nat.zero_le _) rfl) p n cap cs rfl ?qc1 ?qc2 ?qc3 ?qc4 ?qc5 ?qc6 ?_)
  case qc1=>exact HL.out
  case qc2=>
   intro j u hj
   obtain ⟨b,o,hp,hc⟩:=H.out.cell j u hj
   cases hp
   rw [Addr.add_lit]
   exact Lib.cell?_alloc_some _ hc
  case qc3=>exact H1.out
  case qc4=>unfold maxLen;omega
  case qc5=>omega
  case qc6=>simp
  intro v' w1 hown hgrow hnil
  go_wp2
  go_ret
  refine ⟨v',rfl,by simpa using hown,?_,?_⟩
  ·simp;exact hnil
  ·exact ((Below.refl _ w).alloc (Nat.le_refl _) _).grown hgrow (by simp) (by intro k hk;simp [Value.ownBlock] at hk;omega)
end
section
open Go.RowKit Go.Proofs
theorem fresh_store (w:World) (zs vs:Array Value) (e:TypeId) (hs:vs.size=zs.size):
  Gr w ((w.alloc (.cells zs e)).setCells w.heap.size 0 vs.toList)∧((w.alloc (.cells zs e)).setCells w.heap.size 0 vs.toList).heap[w.heap.size]?=some (.cells vs e (0,0))∧
   w.heap.size<((w.alloc (.cells zs e)).setCells w.heap.size 0 vs.toList).heap.size:=by
 have hb:(w.alloc (.cells zs e)).heap[w.heap.size]?=some (.cells zs e (0,0)):=by rw [heap_alloc_if,if_pos rfl]
 have h2:=blk_all hb vs hs
 refine ⟨?_,h2,?_⟩
 ·have f1:Gr w (w.alloc (.cells zs e)):=(Fr.refl _ _).alloc _
  have f2:=fr_setCells w.heap.size vs.toList 0 (w.alloc (.cells zs e))
  have f3:Fr (fun k=>w.heap.size≤k) w ((w.alloc (.cells zs e)).setCells w.heap.size 0 vs.toList):=(Fr.mono (T:=fun k=>w.heap.size≤k) f1 (fun _ _ h=>h.elim)).trans f2 (fun j h=> .inl (by omega))
  exact f3.mono (fun k hk h=>by omega)
 ·have:=(Array.getElem?_eq_some_iff.1 h2).1
  exact this
theorem exec_alloc {ty:TypeId} {i:TypeInfo} {zs:Array Value} (hi:Tryz.prog.info? ty=some i) (hz:i.zero=some (.agg zs)) (ρ:Operand→Value) (w:World) (dst:Option Tmp) (t:TypeId) (pos:String) (after:Array Edge):
  (execOp ρ ⟨dst, .alloc ty,t,pos,after,none⟩).run Tryz.prog w= .ok (.value (.pointer (some ⟨w.heap.size,0,none⟩))) (w.alloc (.cells zs ty)):=by
 have hv:(zeroValue ty).run Tryz.prog w= .ok (.agg zs) w:=by
  unfold zeroValue typeInfo
  simp [go_sem,hi,hz]
 simp [go_sem,hv]
theorem wpList_fresh {ops:Array Oper} {rest:List Oper} {d:Tmp} {ty t1 t2:TypeId} {p1 p2:String} {e1 e2:Array Edge} {x:Operand} {A:Act} {w:World} {Q:Exit→Act→World→Prop} {i:TypeInfo} {zs vs:Array Value}
  (hi:Tryz.prog.info? ty=some i) (hz:i.zero=some (.agg zs)) (hs:(Tryz.prog.info? ty).map (·.size)=some vs.size) (hsz:vs.size=zs.size) (h1:vs.all (·.oneCell')=true)
  (hd:(A.put (some d) (.pointer (some ⟨w.heap.size,0,none⟩))).eval (.tmp d)= .pointer (some ⟨w.heap.size,0,none⟩))
  (hx:(A.put (some d) (.pointer (some ⟨w.heap.size,0,none⟩))).eval x= .agg vs)
  (h:∀ w3,Gr w w3→w3.heap[w.heap.size]?=some (.cells vs ty (0,0))→w.heap.size<w3.heap.size→wpList Tryz.prog ops Q rest ((A.put (some d) (.pointer (some ⟨w.heap.size,0,none⟩))).put none undef) w3):
  wpList Tryz.prog ops Q (⟨some d, .alloc ty,t1,p1,e1,none⟩::⟨none, .store ty (.tmp d) x,t2,p2,e2,none⟩::rest) A w:=by
 refine wpList_plain rfl fun K hK=>?_
 unfold Oper.wp
 rw [exec_alloc hi hz]
 refine hK _ _ ?_
 obtain ⟨f,b,l⟩:=fresh_store w zs vs ty hsz
 have hb:(w.alloc (.cells zs ty)).heap[w.heap.size]?=some (.cells zs ty (0,0)):=by rw [heap_alloc_if,if_pos rfl]
 exact wpList_store_mid rfl ty (.tmp d) x rfl w.heap.size 0 vs hd hx (blk_there hb _ (by omega)) hs h1 (h _ f b l)
theorem wpList_move {ops:Array Oper} {rest:List Oper} {dst:Option Tmp} {ty:TypeId} {pos:String} {after:Array Edge} {x:Operand} {A:Act} {w:World} {Q:Exit→Act→World→Prop}
  (h:wpList Tryz.prog ops Q rest (A.put dst (A.eval x)) w):wpList Tryz.prog ops Q (⟨dst, .move x,ty,pos,after,none⟩::rest) A w:=by
 refine wpList_plain rfl fun K hK=>?_
 unfold Oper.wp
 have e:(execOp A.eval ⟨dst, .move x,ty,pos,after,none⟩).run Tryz.prog w= .ok (.value (A.eval x)) w:=by simp [go_sem]
 rw [e]
 exact hK _ _ h
end
section
open Go.RowKit Go.Proofs
end
end Go.Proofs.YtelepohdfcjnfaaGreat
