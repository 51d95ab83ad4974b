/-
  General words for slices and frames over any world; no statement of the seat.
-/
import Derived.Test.YtelepohdfcjnfaaGreatProg
import Derived.WalkKit
import Derived.WalkLawsBesides
import Derived.WalkSpells
import Derived.Outline
import Derived.Lib.Hide
import Derived.Lib.SliceRun
import Derived.Deep.DeepFit
import Derived.BigQuiet
import Derived.Deep.QuietTactic
import Derived.Deep.RegionWith
namespace Go.Proofs.YtelepohdfcjnfaaGreat
open Go.RowKit Go.Proofs
structure SlA (w:World) (a:Option Addr) (n cap:Nat) (cs:List Value):Prop where
 le:n≤cap
 max:cap≤9223372036854775807
 cell:∀ j u,cs[j]?=some u→∃ b o,a=some ⟨b,o,none⟩∧w.cell? ⟨b,o+j,none⟩=some u
structure Fr (S:Nat→Prop) (w w':World):Prop where
 os:w'.os=w.os
 tape:w'.tape=w.tape
 output:w'.output=w.output
 size:w.heap.size≤w'.heap.size
 block:∀ k,k<w.heap.size→¬ S k→w'.heap[k]?=w.heap[k]?
theorem Fr.refl (S:Nat→Prop) (w:World):Fr S w w:=⟨rfl,rfl,rfl,Nat.le_refl _,fun _ _ _=>rfl⟩
theorem Fr.trans {S T:Nat→Prop} {a b c:World} (h:Fr S a b) (k:Fr T b c) (hT:∀ k,T k→S k∨a.heap.size≤k):Fr S a c:=
 ⟨k.os.trans h.os,k.tape.trans h.tape,k.output.trans h.output,Nat.le_trans h.size k.size,fun i hi hS=>
  (k.block i (Nat.lt_of_lt_of_le hi h.size) (fun hT'=>by rcases hT i hT' with h1 | h1;exact hS h1;omega)).trans (h.block i hi hS)⟩
theorem Fr.below {S:Nat→Prop} {B:Nat} {a b c:World} (h:Below B a b) (k:Fr S b c) (hB:B≤b.heap.size) (hS:∀ k,S k→B≤k):Below B a c:=
 ⟨k.os.trans h.os,k.tape.trans h.tape,k.output.trans h.output,Nat.le_trans h.size k.size,fun i hi=>
  (k.block i (by omega) (fun h=>by have:=hS i h;omega)).trans (h.block i hi)⟩
theorem Fr.of_below {S:Nat→Prop} {B:Nat} {a b:World} (h:Below B a b) (hS:∀ k,k<a.heap.size→B≤k→S k):Fr S a b:=
 ⟨h.os,h.tape,h.output,h.size,fun i hi hn=>h.block i (by rcases Nat.lt_or_ge i B with h1 | h1;exact h1;exact absurd (hS i hi h1) hn)⟩
theorem Fr.mono {S T:Nat→Prop} {a b:World} (h:Fr S a b) (hS:∀ k,k<a.heap.size→S k→T k):Fr T a b:=
 ⟨h.os,h.tape,h.output,h.size,fun i hi hn=>h.block i hi (fun h'=>hn (hS i hi h'))⟩
theorem lt_of_cell {w:World} {p:Addr} {v:Value} (h:w.cell? p=some v):p.block<w.heap.size:=by
 unfold World.cell? at h
 rcases Nat.lt_or_ge p.block w.heap.size with h1 | h1
 ·exact h1
 ·rw [Array.getElem?_eq_none h1] at h;cases h
theorem Fr.cell {S:Nat→Prop} {w w':World} (h:Fr S w w') {p:Addr} {v:Value} (hc:w.cell? p=some v) (hp:¬ S p.block):w'.cell? p=some v:=by
 rw [←hc];exact World.cell?_of_block (w:=w) (h.block p.block (lt_of_cell hc) hp)
theorem Fr.frozen {S:Nat→Prop} {w w':World} (h:Fr S w w') {p:Addr} {v:Value} (hc:w.cell? p=some v) (hp:¬ S p.block):w'.frozen? p=w.frozen? p:=
 World.frozen?_of_block (w:=w) (h.block p.block (lt_of_cell hc) hp)
theorem Fr.drew {S:Nat→Prop} {a w:World} (h:Fr S a w):Fr S a w.drew:=⟨h.os,h.tape,h.output,h.size,h.block⟩
theorem Fr.alloc {S:Nat→Prop} {a w:World} (h:Fr S a w) (o:Obj):Fr S a (w.alloc o):=
 h.trans (T:=fun _=>False) ⟨rfl,rfl,rfl,by simp,fun k hk _=>Below.heap_alloc _ _ _ hk⟩ (fun _ h=>h.elim)
theorem Fr.setCell {S:Nat→Prop} {a w:World} (h:Fr S a w) {p:Addr} (hp:S p.block∨a.heap.size≤p.block) (u:Value):Fr S a (w.setCell p u):=
 h.trans (T:=fun k=>k=p.block) ⟨rfl,rfl,rfl,by simp [World.setCell],fun k _ hk=>Below.heap_setCell _ _ _ _ hk⟩ (fun _ h=>h▸hp)
theorem Fr.grown {S:Nat→Prop} {a w w':World} {row:Option Nat} (h:Fr S a w) (g:w.grownBy w' row) (hr:∀ q,row=some q→S q∨a.heap.size≤q):Fr S a w':=
 h.trans (T:=fun k=>row=some k) ⟨g.os,g.tape,g.output,g.size,fun k hk hn=>g.block k hk (fun e=>hn e.symm)⟩ hr
theorem own_fr {S:Nat→Prop} {w w':World} {base:Nat} {e:TypeId} {size:Nat} {v:Value} {n:Nat} {cs:List Value} (h:w.ownsRow base e size v n cs) (f:Fr S w w') (hS:∀ q,v.ownBlock=some q→¬ S q):w'.ownsRow base e size v n cs:=by
 refine ⟨h.1,?_⟩
 rcases h.2 with h' | ⟨g,cap,cur,rfl,hb,hg,r⟩
 ·exact .inl h'
 ·refine .inr ⟨g,cap,cur,rfl,hb,?_,r⟩
  have hlt:g<w.heap.size:=by
   rcases Nat.lt_or_ge g w.heap.size with h1 | h1
   ·exact h1
   ·rw [Array.getElem?_eq_none h1] at hg;cases hg
  rw [f.block g hlt (hS g rfl)];exact hg
theorem own_base {w:World} {base base':Nat} {e:TypeId} {size:Nat} {v:Value} {n:Nat} {cs:List Value} (h:w.ownsRow base e size v n cs) (hb:base'≤base):w.ownsRow base' e size v n cs:=by
 refine ⟨h.1,?_⟩
 rcases h.2 with h' | ⟨g,cap,cur,hv,hg,r⟩
 ·exact .inl h'
 ·exact .inr ⟨g,cap,cur,hv,Nat.le_trans hb hg,r⟩
theorem news_one (w:World) (v:Value) (e:TypeId):∀ j u,[v][j]?=some u→(w.alloc (.cells #[v] e)).cell? ((⟨w.heap.size,0,none⟩:Addr).add j)=some u:=by
 intro j u hj
 match j,hj with
 | 0,hj=>
  simp at hj;subst hj
  rw [Addr.add_lit,Nat.add_zero,World.cell?_alloc_at _ _ _ _ rfl];rfl
theorem one_one (v:Value) (h:v.oneCell'=true):∀ u∈[v],u.oneCell'=true:=by
 intro u hu;simp at hu;subst hu;exact h
theorem one_map {α:Type} (f:α→Value) (l:List α) (h:∀ x,(f x).oneCell'=true):∀ u∈l.map f,u.oneCell'=true:=by
 intro u hu;obtain ⟨x,_,rfl⟩:=List.mem_map.1 hu;exact h x
def slLen:Value→Nat | .slice _ k _=>k | _=>0
theorem SlA.keep {S:Nat→Prop} {w w':World} {a:Option Addr} {n cap:Nat} {cs:List Value} (h:SlA w a n cap cs) (f:Fr S w w') (hS:∀ p,a=some p→¬ S p.block):SlA w' a n cap cs:=
 ⟨h.le,h.max,fun j u hj=>by
  obtain ⟨b,o,rfl,hc⟩:=h.cell j u hj
  exact ⟨b,o,rfl,f.cell hc (by have:=hS _ rfl;exact this)⟩⟩
theorem SlA.drewN {w:World} {a:Option Addr} {n cap:Nat} {cs:List Value} (h:SlA w a n cap cs) (q:Nat):SlA (w.drewN q) a n cap cs:=⟨h.le,h.max,h.cell⟩
theorem SlA.nil (w:World):SlA w none 0 0 []:=⟨Nat.le_refl _,by omega,fun j u h=>by simp at h⟩
theorem SlA.take {w:World} {a:Option Addr} {n cap:Nat} {cs:List Value} (h:SlA w a n cap cs) (m k:Nat) (hm:m≤n):SlA w a m cap (cs.take k):=
 ⟨Nat.le_trans hm h.le,h.max,fun j u hj=>h.cell j u (by rw [List.getElem?_take] at hj;split at hj;exact hj;cases hj)⟩
theorem cut_list {α:Type} (f:α→Value) (W:World) (al:Option Addr) (cl:Nat) (l:List α) (k:Nat) (c:Int) (hc:c=k) (hl:SlA W al l.length cl (l.map f)):
  ∃ l':List α,l'.length≤k∧l'=l.take k∧SlA W al l'.length cl (l'.map f)∧(if c<(l.length:Int) then c else (l.length:Int))=(l'.length:Int)∧min (l.length:Int) c=(l'.length:Int):=by
 subst hc
 refine ⟨l.take k,by simp;omega,rfl,?_,?_,?_⟩
 ·rw [List.map_take];exact hl.take _ _ (by simp;omega)
 ·simp only [List.length_take]
  split<;>omega
 ·simp only [List.length_take];omega
theorem Fr.drewN {S:Nat→Prop} {a w:World} (h:Fr S a w) (n:Nat):Fr S a (w.drewN n):=⟨h.os,h.tape,h.output,h.size,h.block⟩
theorem Fr.undrewN {S:Nat→Prop} {a w:World} {n:Nat} (h:Fr S (a.drewN n) w):Fr S a w:=⟨h.os,h.tape,h.output,h.size,h.block⟩
theorem SlA.below {B:Nat} {w w':World} {a:Option Addr} {n cap:Nat} {cs:List Value} (hb:Below B w w') (hB:w.heap.size≤B) (hs:SlA w a n cap cs):SlA w' a n cap cs:=
 ⟨hs.le,hs.max,fun j u hj=>by obtain ⟨b,o,rfl,hc⟩:=hs.cell j u hj;exact ⟨b,o,rfl,(hb.cell (p:=⟨b,o+j,none⟩) (Nat.lt_of_lt_of_le (lt_of_cell hc) hB)).trans hc⟩⟩
theorem SlA.of_own {w:World} {base:Nat} {e:TypeId} {size:Nat} {v:Value} {n:Nat} {cs:List Value} (h:w.ownsRow base e size v n cs):
  ∃ a cap,v= .slice a n cap∧SlA w a n cap cs∧(∀ p,a=some p→base≤p.block∧p.block<w.heap.size∧p.off=0)∧cs.length=n * size:=by
 obtain ⟨hl,h | ⟨g,cap,cur,hv,hg,hh,hn,hc,hs,ht⟩⟩:=h
 ·obtain ⟨rfl,rfl⟩:=h
  have:cs=[]:=by simpa using hl
  subst this
  exact ⟨none,0,rfl,SlA.nil w,(fun p h=>by cases h),by simp⟩
 ·refine ⟨some ⟨g,0,none⟩,cap,hv,⟨hn,hc,fun j u hj=>⟨g,0,rfl,?_⟩⟩,fun p hp=>?_,hl⟩
  ·have hj':=(List.getElem?_eq_some_iff.1 hj).1
   simp only [World.cell?,hh,Nat.zero_add]
   rw [←ht,List.getElem?_take] at hj
   split at hj
   ·simpa using hj
   ·cases hj
  ·cases hp
   refine ⟨hg,?_,rfl⟩
   rcases Nat.lt_or_ge g w.heap.size with h1 | h1
   ·exact h1
   ·rw [Array.getElem?_eq_none h1] at hh;cases hh
theorem SlA.lt {w:World} {a:Option Addr} {n cap:Nat} {cs:List Value} (h:SlA w a n cap cs) (h0:cs≠[]):∃ b o,a=some ⟨b,o,none⟩∧b<w.heap.size:=by
 cases cs with
 | nil=>exact absurd rfl h0
 | cons x r=>
  obtain ⟨b,o,rfl,hc⟩:=h.cell 0 x rfl
  exact ⟨b,o,rfl,lt_of_cell hc⟩
theorem sla_of_row {k:IntKind} {w:World} {a:Option Addr} {len cap:Nat} {zs:List Int}
  (h:(a=none∧len=0∧cap=0∧zs=[])∨
   ∃ x,a=some x∧len≤cap∧cap≤maxLen∧zs.length=cap∧(∀ i,i<zs.length→w.cell? (x.add i)=some (.int k (zs.getD i 0)))∧∀ n∈zs,(Lit.int k n).wf=true):
  ∃ l:List Int,len=l.length∧SlA w a l.length cap (l.map (Value.int k))∧∀ n∈l,(Lit.int k n).wf=true:=by
 rcases h with ⟨rfl,rfl,rfl,rfl⟩ | ⟨x,rfl,hl,hm,hz,hc,hw⟩
 ·exact ⟨[],rfl,SlA.nil w,fun n h=>by cases h⟩
 ·have hlen:(zs.take len).length=len:=by simp;omega
  refine ⟨zs.take len,hlen.symm,⟨by rw [hlen];exact hl,hm,fun j u hj=>?_⟩,fun n hn=>hw n (List.mem_of_mem_take hn)⟩
  have hj':=(List.getElem?_eq_some_iff.1 hj).1
  simp at hj'
  have h1:=hc j (by omega)
  have hs:x.spot=none∨j=0:=by
   by_cases h0:j=0
   ·exact .inr h0
   ·have h2:=hc 0 (by omega)
    rw [show x.add 0=x by simp [Addr.add]] at h2
    left
    cases hs:x.spot with
    | none=>rfl
    | some q=>
     unfold World.cell? at h2
     split at h2
     ·simp [hs] at h2
     ·cases h2
  have hs':x.spot=none:=by
   rcases hs with hs | rfl
   ·exact hs
   ·rw [show x.add 0=x by simp [Addr.add]] at h1
    cases hs:x.spot with
    | none=>rfl
    | some q=>
     unfold World.cell? at h1
     split at h1
     ·simp [hs] at h1
     ·cases h1
  obtain ⟨b,o,sp⟩:=x
  simp only at hs'
  subst hs'
  refine ⟨b,o,rfl,?_⟩
  rw [Addr.add_lit] at h1
  rw [h1]
  rw [←hj]
  simp [List.getD,show j<len by omega,List.getElem?_eq_getElem (show j<zs.length by omega)]
theorem gtA {α:Type _} {i:Nat} (l:List α):l.toArray[i]?=l[i]?:=by simp
theorem gtS {α:Type _} {i:Nat} (a:α) (l:List α):(a::l)[i+1]?=l[i]?:=by simp
theorem gtZ {α:Type _} (a:α) (l:List α):(a::l)[0]?=some a:=by simp
end Go.Proofs.YtelepohdfcjnfaaGreat
