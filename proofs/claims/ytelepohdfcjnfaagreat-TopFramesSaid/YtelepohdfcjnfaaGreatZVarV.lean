/-
  Views in variables: rows that lie apart.
-/
import Derived.Test.YtelepohdfcjnfaaGreatZViewSn
namespace Go.Proofs.YtelepohdfcjnfaaGreat
section
open Go.RowKit Go.Proofs
def VwApart (S:Nat→Prop) (v:Vw) (y:VwP):Prop:=(v.act≠[]→∀ q,y.aa=some q→¬ S q.block)∧(v.pas≠[]→∀ q,y.pa=some q→¬ S q.block)
theorem SlA.keepNE {S:Nat→Prop} {w w':World} {a:Option Addr} {n cap:Nat} {l:List Int} (h:SlA w a n cap (ints l)) (f:Fr S w w') (hS:l≠[]→∀ p,a=some p→¬ S p.block):SlA w' a n cap (ints l):=by
 by_cases hl:l=[]
 ·subst hl
  exact ⟨h.le,h.max,fun j u hj=>by simp at hj⟩
 ·exact h.keep f (hS hl)
theorem VwAt.keepA {S:Nat→Prop} {w w':World} {v:Vw} {y:VwP} (h:VwAt w v y) (f:Fr S w w') (a:VwApart S v y):VwAt w' v y:=⟨h.act.keepNE f a.1,h.pas.keepNE f a.2,h.good⟩
theorem SlA.ltNE {w:World} {a:Option Addr} {n cap:Nat} {l:List Int} (h:SlA w a n cap (ints l)) (hl:l≠[]):∀ q,a=some q→q.block<w.heap.size:=by
 intro q hq
 obtain ⟨b,o,e,hlt⟩:=h.lt (by cases l with | nil=>exact absurd rfl hl | cons x r=>simp)
 rw [e] at hq
 cases hq
 exact hlt
theorem VwApart.new {S:Nat→Prop} {w:World} {v:Vw} {y:VwP} (h:VwAt w v y) (hS:∀ k,S k→w.heap.size≤k):VwApart S v y:=
 ⟨fun hl q hq hs=>by have:=h.act.ltNE hl q hq;have:=hS _ hs;omega,fun hl q hq hs=>by have:=h.pas.ltNE hl q hq;have:=hS _ hs;omega⟩
theorem VwApart.next {S:Nat→Prop} {w:World} {v v':Vw} {y y':VwP} (h:VwApart S v y) (k:VwFrom w v y v' y') (hS:∀ k,S k→k<w.heap.size):VwApart S v' y':=
 ⟨fun hl q hq hs=>by
  rcases k.1 q hq with h1 | h1
  ·exact h.1 (by rw [←h1.2];exact hl) q h1.1 hs
  ·have:=hS _ hs;omega,fun hl q hq hs=>by
  rcases k.2 q hq with h1 | h1
  ·exact h.2 (by rw [←h1.2];exact hl) q h1.1 hs
  ·have:=hS _ hs;omega⟩
theorem VwApart.none (S:Nat→Prop) (v:Vw):VwApart S v vwNone:=by
 constructor<;>(intro _ q h;cases h)
end
section
open Go.RowKit Go.Proofs
structure VarV (W:World) (q:Nat) (w:World) (v:Vw) (y:VwP):Prop where
 blk:w.heap[q]?=some (.cells (v.arr y) 60 (0,0))
 at_:VwAt w v y
 apart:VwApart (fun k=>k=q) v y
 gr:Gr W w
theorem VarV.keep {W w w':World} {q:Nat} {v:Vw} {y:VwP} (h:VarV W q w v y) (f:Gr w w'):VarV W q w' v y:=⟨blk_keep f h.blk (fun h=>h),h.at_.gr f,h.apart,Gr.trans h.gr f⟩
theorem VarV.lt {W w:World} {q:Nat} {v:Vw} {y:VwP} (h:VarV W q w v y):q<w.heap.size:=(Array.getElem?_eq_some_iff.1 h.blk).1
theorem DrawV.keepV {w w':World} {p:Value} {ds:List Int} {q:Nat} {v:Vw} {y:VwP} {T:TypeId} {fz:Nat×Nat} (h:DrawV w p ds) (f:Fr (fun k=>k=q) w w') (hb:w.heap[q]?=some (.cells (v.arr y) T fz)):DrawV w' p ds∧¬ pblk p q:=by
 rcases h with ⟨rfl,rfl⟩ | ⟨d,rfl,h⟩
 ·exact ⟨.nil w',fun h=>by unfold pblk at h;cases h⟩
 ·have hdq:d≠q:=by
   obtain ⟨a,cap,h1,_⟩:=h
   intro e
   subst e
   rw [Lib.cell_of_heap hb] at h1
   simp at h1
  refine ⟨.inr ⟨d,rfl,h.keepNe f hdq (fun i x hc=>?_)⟩,fun h=>by unfold pblk at h;cases h;exact hdq rfl⟩
  rw [Lib.cell_of_heap hb] at hc
  match i,hc with
  | 0,hc=>simp at hc
  | 1,hc=>simp at hc
  | 2,hc=>simp at hc
  | 3,hc=>simp at hc
  | 4,hc=>simp at hc
  | i+5,hc=>simp at hc
theorem VarV.drawn {W w w':World} {q:Nat} {v:Vw} {y:VwP} {p:Value} {ds:List Int} (h:VarV W q w v y) (hd:DrawV w p ds) (hs:VwSep p v y) (f:Fr (pblk p) w w') (hp:∀ k,pblk p k→W.heap.size≤k):VarV W q w' v y:=
 ⟨blk_keep f h.blk (hd.keepV (Fr.refl _ _) h.blk).2,h.at_.drawn hs f,h.apart,Fr.trans h.gr f (fun k hk=> .inr (hp k hk))⟩
end
end Go.Proofs.YtelepohdfcjnfaaGreat
