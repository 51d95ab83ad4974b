/-
  Arguments of flat types (structs and arrays of numbers, truths and texts), and slices of them, read as lists of cells.
-/
import Derived.Test.YtelepohdfcjnfaaGreatZBase
import Derived.Deep.Slices
import Derived.Deep.Fields
import Derived.SliceStrings
import Derived.OpenShut
import Derived.KernelRfl
namespace Go.Proofs.YtelepohdfcjnfaaGreat
open Go.RowKit Go.Proofs Go.ChangeShapes Go.WideShapes
inductive Leaf where
 | int (k:IntKind)
 | bool
 | str
def Leaf.fits:Leaf→Value→Prop
 | .int k,v=>∃ n:Int,v= .int k n∧(Lit.int k n).wf=true
 | .bool,v=>∃ b:Bool,v= .bool b
 | .str,v=>∃ s:ByteArray,v= .string s∧s.size≤maxLen
def FitsAll:List Leaf→List Value→Prop
 | [],cs=>cs=[]
 | l::ls,cs=>∃ v vs,cs=v::vs∧l.fits v∧FitsAll ls vs
theorem FitsAll.append:∀ {a b:List Leaf} {x y:List Value},FitsAll a x→FitsAll b y→FitsAll (a++b) (x++y)
 | [],_,_,_,h,k=>by cases h;exact k
 | _::_,_,_,_,⟨v,vs,h,hv,r⟩,k=>by subst h;exact ⟨v,_,rfl,hv,FitsAll.append r k⟩
theorem FitsAll.len:∀ {a:List Leaf} {x:List Value},FitsAll a x→x.length=a.length
 | [],_,h=>by cases h;rfl
 | _::_,_,⟨_,_,h,_,r⟩=>by subst h;simp [r.len]
def fieldLeaves (g:TypeId→Option (List Leaf)) (c:TypeId→Nat):List Field→Nat→Option (List Leaf)
 | [],_=>some []
 | f::fs,off=>match g f.type with
  | some l=>if f.offset=off∧c f.type=l.length then (match fieldLeaves g c fs (off+l.length) with | some r=>some (l++r) | none=>none) else none
  | none=>none
def repeatL (l:List Leaf):Nat→List Leaf
 | 0=>[]
 | n+1=>l++repeatL l n
def leaves (P:Program):Nat→TypeId→Option (List Leaf)
 | 0,_=>none
 | d+1,t=>match P.underlying t with
  | some (.int k)=>some [.int k]
  | some .bool=>some [.bool]
  | some .string=>some [.str]
  | some (.struct fs)=>match fieldLeaves (leaves P d) P.cellsOf fs.toList 0 with
   | some r=>if P.cellsOf t=r.length then some r else none
   | none=>none
  | some (.array n e)=>match leaves P d e with
   | some l=>if P.cellsOf e=l.length∧P.cellsOf t=(repeatL l n).length then some (repeatL l n) else none
   | none=>none
  | _=>none
section
variable {P:Program} {H:Type} {enc:TypeId×Value→H} {w:World} {base:Nat} {spare:Nat→Bool} {held:Bool}
theorem take_more (cs:List Value) (off a b:Nat):(cs.drop off).take (a+b)=(cs.drop off).take a++(cs.drop (off+a)).take b:=by
 rw [List.take_add,List.drop_drop]
theorem flat_fields {g:TypeId→Option (List Leaf)} {c:TypeId→Nat} {cs:List Value}
  (hg:∀ t l cs',g t=some l→(∃ n x,DataW.trod enc P w base spare held n t cs'=some x)→FitsAll l cs'):
  ∀ (fs:List Field) (off:Nat) (ls:List Leaf),fieldLeaves g c fs off=some ls→(∀ f∈fs,∃ n x,DataW.trod enc P w base spare held n f.type ((cs.drop f.offset).take (c f.type))=some x)→FitsAll ls ((cs.drop off).take ls.length)
 | [],off,ls,h,_=>by simp only [fieldLeaves,Option.some.injEq] at h;subst h;simp [FitsAll]
 | f::fs,off,ls,h,ht=>by
  unfold fieldLeaves at h
  split at h
  ·rename_i l hl
   split at h
   ·rename_i hc
    split at h
    ·rename_i r hr
     simp only [Option.some.injEq] at h
     subst h
     have h1:=hg f.type l _ hl (ht f (by simp))
     rw [hc.1,hc.2] at h1
     have h2:=flat_fields hg fs (off+l.length) r hr (fun f' hf'=>ht f' (by simp [hf']))
     rw [List.length_append,take_more]
     exact h1.append h2
    ·cases h
   ·cases h
  ·cases h
theorem flat_array {l:List Leaf} {cs:List Value} (off:Nat):∀ (n:Nat),(∀ i,i<n→FitsAll l ((cs.drop (off+i * l.length)).take l.length))→FitsAll (repeatL l n) ((cs.drop off).take (repeatL l n).length)
 | 0,_=>by simp [repeatL,FitsAll]
 | n+1,h=>by
  have h1:=h 0 (by omega)
  rw [Nat.zero_mul,Nat.add_zero] at h1
  have h2:=flat_array (l:=l) (cs:=cs) (off+l.length) n (fun i hi=>by
   have:=h (i+1) (by omega)
   rwa [Nat.succ_mul,show off+(i * l.length+l.length)=off+l.length+i * l.length by omega] at this)
  show FitsAll (l++repeatL l n) ((cs.drop off).take (l++repeatL l n).length)
  rw [List.length_append,take_more]
  exact h1.append h2
theorem flat_of:∀ (d:Nat) (t:TypeId) (ls:List Leaf) (cs:List Value),leaves P d t=some ls→(∃ n x,DataW.trod enc P w base spare held n t cs=some x)→FitsAll ls cs:=by
 intro d
 induction d with
 | zero=>intro t ls cs h;cases h
 | succ d ih=>
  intro t ls cs h ⟨n,x,hx⟩
  unfold leaves at h
  split at h
  ·rename_i k hk
   simp only [Option.some.injEq] at h;subst h
   obtain ⟨m,rfl,_,hw⟩:=DataW.trod_int hk hx
   exact ⟨_,_,rfl,⟨m,rfl,hw⟩,rfl⟩
  ·rename_i hk
   simp only [Option.some.injEq] at h;subst h
   obtain ⟨b,rfl,_⟩:=DataW.trod_bool hk hx
   exact ⟨_,_,rfl,⟨b,rfl⟩,rfl⟩
  ·rename_i hk
   simp only [Option.some.injEq] at h;subst h
   obtain ⟨s,rfl,_,hs⟩:=DataW.trod_string hk hx
   exact ⟨_,_,rfl,⟨s,rfl,hs⟩,rfl⟩
  ·rename_i fs hk
   split at h
   ·rename_i r hr
    split at h
    ·rename_i hc
     simp only [Option.some.injEq] at h;subst h
     obtain ⟨xs,m,_,_,hlen,hxl,hf⟩:=DataW.trod_struct hk hx
     have:=flat_fields (cs:=cs) (P:=P) (enc:=enc) (w:=w) (base:=base) (spare:=spare) (held:=held) ih fs.toList 0 r hr (fun f hf'=>by
      obtain ⟨i,hi,rfl⟩:=List.getElem_of_mem hf'
      have h1:=hf i fs.toList[i] (by simp at hi ⊢)
      have h2:i<xs.length:=by rw [hxl];simpa using hi
      exact ⟨m,xs[i],by rw [h1];simp [h2]⟩)
     rw [List.drop_zero,List.take_of_length_le (by omega)] at this
     exact this
    ·cases h
   ·cases h
  ·rename_i n e hk
   split at h
   ·rename_i l hl
    split at h
    ·rename_i hc
     simp only [Option.some.injEq] at h;subst h
     obtain ⟨xs,m,_,_,hlen,hxl,hf⟩:=DataW.trod_array hk hx
     have:=flat_array (l:=l) (cs:=cs) 0 n (fun i hi=>by
      have h1:=hf i hi
      have h2:i<xs.length:=by omega
      rw [hc.1] at h1
      rw [Nat.zero_add]
      exact ih e l _ hl ⟨m,xs[i],by rw [h1];simp [h2]⟩)
     rw [List.drop_zero,List.take_of_length_le (by omega)] at this
     exact this
    ·cases h
   ·cases h
  ·cases h
theorem spot_free {a:Addr} {v:Value} (h:w.cell? a=some v):a.spot=none:=by
 cases hs:a.spot with
 | none=>rfl
 | some q=>
  unfold World.cell? at h
  split at h
  ·simp [hs] at h
  ·cases h
theorem flat_flatten (L:List (List Value)) (k:Nat) (hk:∀ c∈L,c.length=k):∀ (j:Nat) (u:Value),L.flatten[j]?=some u→∃ i r c,j=i * k+r∧r<k∧L[i]?=some c∧c[r]?=some u:=by
 induction L with
 | nil=>intro j u h;simp at h
 | cons c L ih=>
  intro j u h
  rw [List.flatten_cons] at h
  have hc:c.length=k:=hk c (by simp)
  rcases Nat.lt_or_ge j k with hj | hj
  ·rw [List.getElem?_append_left (by omega)] at h
   exact ⟨0,j,c,by omega,hj,rfl,h⟩
  ·rw [List.getElem?_append_right (by omega),hc] at h
   obtain ⟨i,r,q,h1,h2,h3,h4⟩:=ih (fun c hc=>hk c (by simp [hc])) (j-k) u h
   exact ⟨i+1,r,q,by rw [Nat.succ_mul];omega,h2,by simpa using h3,h4⟩
theorem flat_slice {t e:TypeId} {fuel:Nat} {cs:List Value} {x:DataW H×List MemPlace} {d:Nat} {ls:List Leaf} (ht:P.underlying t=some (.slice e)) (hl:leaves P d e=some ls) (hc:P.cellsOf e=ls.length) (h0:0<ls.length)
  (h:DataW.trod enc P w base spare held fuel t cs=some x):
  ∃ (a:Option Addr) (cap:Nat) (L:List (List Value)),cs=[.slice a L.length cap]∧SlA w a L.length cap L.flatten∧∀ c∈L,FitsAll ls c:=by
 rcases Go.Deep.open_slice ht h with ⟨hc,_⟩ | ⟨a,len,cap,m,n,D,Pl,hcs,_,hle,hm,hmm,_,hi⟩
 ·exact ⟨none,0,[],hc,SlA.nil w,fun p h=>by cases h⟩
 ·have hml:len≤m:=by rw [hmm];split<;>omega
  have each:∀ i,∃ c:List Value,i<len→FitsAll ls c∧∀ r,r<ls.length→w.cell? (a.add (i * ls.length+r))=c[r]?:=by
   intro i
   by_cases hil:i<len
   ·obtain ⟨cs',hcs,ht⟩:=hi i (by omega)
    have hf:=flat_of d e ls cs' hl ⟨_,_,ht⟩
    rw [hc] at hcs
    obtain ⟨_,_,hat⟩:=World.cells?_some hcs
    refine ⟨cs',fun _=>⟨hf,fun r hr=>?_⟩⟩
    have:=hat r hr
    rw [←this,Go.Deep.add_add]
   ·exact ⟨[],fun h=>absurd h hil⟩
  let f:Nat→List Value:=fun i=>Classical.choose (each i)
  have hf:∀ i,i<len→FitsAll ls (f i)∧∀ r,r<ls.length→w.cell? (a.add (i * ls.length+r))=(f i)[r]?:=fun i=>Classical.choose_spec (each i)
  have hmem:∀ c∈(List.range len).map f,FitsAll ls c:=by
   intro c hc
   obtain ⟨i,hi,rfl⟩:=List.mem_map.1 hc
   exact (hf i (by simpa using hi)).1
  refine ⟨some a,cap,(List.range len).map f,by simpa using hcs,⟨by simpa using hle,hm,fun j u hj=>?_⟩,hmem⟩
  obtain ⟨i,r,c,rfl,hr,hic,hu⟩:=flat_flatten _ ls.length (fun c hc=>(hmem c hc).len) j u hj
  have hil:i<len:=by
   have:=(List.getElem?_eq_some_iff.1 hic).1
   simpa using this
  have hpe:c=f i:=by
   rw [List.getElem?_map,List.getElem?_range hil] at hic
   simpa using hic.symm
  have hcell:=(hf i hil).2 r hr
  rw [←hpe,hu] at hcell
  have h00:=(hf 0 (by omega)).2 0 h0
  have ha0:a.add (0 * ls.length+0)=a:=by simp [Addr.add]
  rw [ha0] at h00
  have hl0:=((hf 0 (by omega)).1).len
  have hs:a.spot=none:=spot_free (v:=(f 0)[0]'(by omega)) (by rw [h00];simp)
  obtain ⟨b,o,sp⟩:=a
  simp only at hs
  subst hs
  refine ⟨b,o,rfl,?_⟩
  rw [←hcell,Addr.add_lit]
theorem rows_map' {α:Type} {f:α→List Value} {p:α→Prop}:∀ {L:List (List Value)},(∀ c∈L,∃ a,c=f a∧p a)→∃ l:List α,L=l.map f∧∀ a∈l,p a
 | [],_=>⟨[],rfl,fun a h=>by cases h⟩
 | c::L,h=>by
  obtain ⟨a,rfl,ha⟩:=h c (by simp)
  obtain ⟨l,rfl,hl⟩:=rows_map' (L:=L) (fun c hc=>h c (by simp [hc]))
  exact ⟨a::l,rfl,fun b hb=>by rcases List.mem_cons.1 hb with rfl | hb;exact ha;exact hl b hb⟩
end
end Go.Proofs.YtelepohdfcjnfaaGreat
