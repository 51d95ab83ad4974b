/-
  Plain words on drawing: what Below, Some and the reference's Some compute, as functions on lists; no program here.
-/
import Derived.Test.YtelepohdfcjnfaaGreatZOwn
import Derived.Test.YtelepohdfcjnfaaGreatZSetSpec
namespace Go.Proofs.YtelepohdfcjnfaaGreat
section
def bel (l:List Int) (n:Int):Int×List Int:=
 if 2≤n∧n≤2147483647 then (match l with | []=>(0,[]) | x::r=>(x % n,r)) else (0,l)
theorem bel_out {l:List Int} {n:Int} (h:n<2∨2147483647<n):bel l n=(0,l):=by
 unfold bel;rw [if_neg (by omega)]
def belN (l:List Int) (n:Nat):Nat:=(bel l n).1.toNat
theorem bel_range (l:List Int) (n:Nat) (hr:∀ x∈l,0≤x∧x<4294967296) (hn:0<n):0≤(bel l n).1∧(bel l n).1<n:=by
 unfold bel
 split
 ·split
  ·simp;omega
  ·rename_i x r
   exact ⟨Int.emod_nonneg _ (by omega),Int.emod_lt_of_pos _ (by omega)⟩
 ·simp;omega
theorem belN_eq (l:List Int) (n:Nat) (hr:∀ x∈l,0≤x∧x<4294967296) (hn:0<n):(bel l n).1=(belN l n:Int)∧belN l n<n:=by
 have:=bel_range l n hr hn
 unfold belN;omega
theorem bel_sub (l:List Int) (n:Int) (P:Int→Prop) (hr:∀ x∈l,P x):∀ x∈(bel l n).2,P x:=by
 unfold bel
 split
 ·split
  ·simp
  ·rename_i x r;intro y hy;exact hr y (by simp at hy ⊢;exact .inr hy)
 ·exact hr
def someS {α:Type}:Nat→List Int→List α→Int→List α×List Int
 | 0,l,_,_=>([],l)
 | f+1,l,left,n=>
  if 0<n∧0<left.length then
   match left[belN l left.length]? with
   | some x=>let r:=someS f (bel l left.length).2 (left.eraseIdx (belN l left.length)) (n-1);(x::r.1,r.2)
   | none=>([],l)
  else ([],l)
theorem someS_stop {α:Type} (f:Nat) (l:List Int) (left:List α) (n:Int) (h:¬ (0<n∧0<left.length)):someS f l left n=([],l):=by
 cases f with
 | zero=>rfl
 | succ f=>simp only [someS];rw [if_neg h]
theorem someS_step {α:Type} (f:Nat) (l:List Int) (left:List α) (n:Int) (hn:0<n) (k:Nat) (hk:k=belN l left.length) (hl:k<left.length):
  someS (f+1) l left n=(left[k]::(someS f (bel l left.length).2 (left.eraseIdx k) (n-1)).1,(someS f (bel l left.length).2 (left.eraseIdx k) (n-1)).2):=by
 subst hk
 rw [someS]
 rw [if_pos ⟨hn,by omega⟩,List.getElem?_eq_getElem hl]
theorem someS_length {α:Type}:∀ (f:Nat) (l:List Int) (left:List α) (n:Int),left.length≤f→(∀ x∈l,0≤x∧x<4294967296)→(someS f l left n).1.length=min n.toNat left.length
 | 0,l,left,n,h,_=>by simp [someS];omega
 | f+1,l,left,n,h,hr=>by
  by_cases hc:0<n∧0<left.length
  ·have hb:=belN_eq l left.length hr hc.2
   rw [someS_step f l left n hc.1 _ rfl hb.2]
   have:=someS_length f (bel l left.length).2 (left.eraseIdx (belN l left.length)) (n-1) (by rw [List.length_eraseIdx];split<;>omega) (bel_sub l _ _ hr)
   simp only [List.length_cons,this,List.length_eraseIdx]
   split<;>omega
  ·rw [someS_stop _ _ _ _ hc];simp;omega
theorem someS_sub {α:Type}:∀ (f:Nat) (l:List Int) (left:List α) (n:Int),∀ x∈(someS f l left n).1,x∈left
 | 0,_,_,_,x,h=>by simp [someS] at h
 | f+1,l,left,n,x,h=>by
  simp only [someS] at h
  split at h
  ·split at h
   ·rename_i y hy
    simp only [List.mem_cons] at h
    rcases h with rfl | h
    ·exact List.mem_of_getElem? hy
    ·exact List.mem_of_mem_eraseIdx (someS_sub f _ _ _ x h)
   ·simp at h
  ·simp at h
theorem someS_left {α:Type}:∀ (f:Nat) (l:List Int) (left:List α) (n:Int),(∀ x∈l,0≤x∧x<4294967296)→∃ k,k≤l.length∧(someS f l left n).2=l.drop k
 | 0,l,_,_,_=>⟨0,by omega,rfl⟩
 | f+1,l,left,n,hr=>by
  have hb:∃ k,k≤l.length∧(bel l left.length).2=l.drop k:=by
   unfold bel
   split
   ·split
    ·exact ⟨0,by simp,rfl⟩
    ·exact ⟨1,by simp,rfl⟩
   ·exact ⟨0,by omega,rfl⟩
  simp only [someS]
  split
  ·split
   ·obtain ⟨k,hk,e⟩:=hb
    obtain ⟨j,hj,e'⟩:=someS_left f (bel l left.length).2 (left.eraseIdx (belN l left.length)) (n-1) (bel_sub l _ _ hr)
    refine ⟨k+j,?_,?_⟩
    ·rw [e] at hj;simp at hj;omega
    ·simp only [e'];rw [e,List.drop_drop]
   ·exact ⟨0,by omega,rfl⟩
  ·exact ⟨0,by omega,rfl⟩
end
section
open Go.RowKit Go.Proofs
def Ty (w:World) (k:Nat) (T:TypeId):Prop:=∃ cs fz,w.heap[k]?=some (.cells cs T fz)
theorem Ty.lt {w:World} {k:Nat} {T:TypeId} (h:Ty w k T):k<w.heap.size:=by
 obtain ⟨cs,fz,h⟩:=h
 exact (Array.getElem?_eq_some_iff.1 h).1
theorem Ty.keep {S:Nat→Prop} {w w':World} {k:Nat} {T:TypeId} (h:Ty w k T) (f:Fr S w w') (hk:¬ S k):Ty w' k T:=by
 have hl:=h.lt
 obtain ⟨cs,fz,h⟩:=h
 exact ⟨cs,fz,by rw [f.block k hl hk];exact h⟩
theorem Ty.uniq {w:World} {k:Nat} {T U:TypeId} (h:Ty w k T) (g:Ty w k U):T=U:=by
 obtain ⟨cs,fz,h⟩:=h
 obtain ⟨cs2,fz2,g⟩:=g
 rw [h] at g
 injection g with g
 injection g
theorem Ty.set {w:World} {k:Nat} {T:TypeId} (h:Ty w k T) (j:Nat) (v:Value):Ty (w.setCell ⟨k,j,none⟩ v) k T:=by
 obtain ⟨cs,fz,h⟩:=h
 refine ⟨cs.setIfInBounds j v,fz,?_⟩
 unfold World.setCell
 simp only
 rw [Array.getElem?_modify,if_pos rfl,h]
 rfl
def DrawAt (w:World) (d:Nat) (l:List Int):Prop:=
 ∃ a cap,w.cell? ⟨d,0,none⟩=some (.slice a l.length cap)∧w.frozen? ⟨d,0,none⟩=false∧SlA w a l.length cap (l.map (Value.int .u32))∧
  (∀ x∈l,0≤x∧x<4294967296)∧((∀ p,a=some p→p.block<d)∧Ty w d 107∧∀ p,a=some p→l≠[]→Ty w p.block 105)
theorem left_nil (w:World):Calls Tryz.prog 128 #[.pointer none] w fun e w'=>e= .returned (.int .i64 0)∧w=w':=by
 go_enter Tryz.func128,Tryz.ntmps128
 go_wp2
 go_ret
 exact ⟨rfl,rfl⟩
theorem left_cell (d:Nat) (a:Option Addr) (len cap:Nat) (w:World) (hd:w.cell? ⟨d,0,none⟩=some (.slice a len cap)):
  Calls Tryz.prog 128 #[.pointer (some ⟨d,0,none⟩)] w fun e w'=>e= .returned (.int .i64 len)∧w=w':=by
 go_enter Tryz.func128,Tryz.ntmps128
 go_wp2
 go_ret
 exact ⟨rfl,rfl⟩
theorem below_nil (n:Int) (w:World):Calls Tryz.prog 110 #[.pointer none, .int .i64 n] w fun e w'=>e= .returned (.int .i64 0)∧w=w':=by
 by_cases h:n<2
 ·go_enter Tryz.func110,Tryz.ntmps110
  go_wp2
  go_ret
  exact ⟨rfl,rfl⟩
 by_cases h:2147483647<n
 ·go_enter Tryz.func110,Tryz.ntmps110
  go_wp2
  go_ret
  exact ⟨rfl,rfl⟩
 go_enter Tryz.func110,Tryz.ntmps110
 go_wp2_with (go_at_call 128;refine (left_nil _).mono ?_;rintro e w' ⟨rfl,rfl⟩)
 go_ret
 exact ⟨rfl,rfl⟩
theorem below_out (d:Nat) (n:Int) (w:World) (h:n<2∨2147483647<n):
  Calls Tryz.prog 110 #[.pointer (some ⟨d,0,none⟩), .int .i64 n] w fun e w'=>e= .returned (.int .i64 0)∧w=w':=by
 rcases h with h | h
 ·go_enter Tryz.func110,Tryz.ntmps110
  go_wp2
  go_ret
  exact ⟨rfl,rfl⟩
 ·have h':¬ n<2:=by omega
  go_enter Tryz.func110,Tryz.ntmps110
  go_wp2
  go_ret
  exact ⟨rfl,rfl⟩
theorem below_empty (d:Nat) (n:Int) (w:World) (h:¬ n<2) (h2:¬ 2147483647<n) (a:Option Addr) (cap:Nat) (hd:w.cell? ⟨d,0,none⟩=some (.slice a 0 cap)):
  Calls Tryz.prog 110 #[.pointer (some ⟨d,0,none⟩), .int .i64 n] w fun e w'=>e= .returned (.int .i64 0)∧w=w':=by
 go_enter Tryz.func110,Tryz.ntmps110
 go_wp2_with (go_at_call 128;refine (left_cell _ _ _ _ _ hd).mono ?_;rintro e w' ⟨rfl,rfl⟩)
 go_ret
 exact ⟨rfl,rfl⟩
theorem below_in (d s off:Nat) (x n:Int) (len cap:Nat) (w:World) (h:¬ n<2) (h2:¬ 2147483647<n) (h0:0<len) (hlc:len≤cap) (hcm:cap≤9223372036854775807)
  (hd:w.cell? ⟨d,0,none⟩=some (.slice (some ⟨s,off,none⟩) len cap)) (hf:w.frozen? ⟨d,0,none⟩=false)
  (hx0:0≤x) (hx:w.cell? ⟨s,off,none⟩=some (.int .u32 x)):
  Calls Tryz.prog 110 #[.pointer (some ⟨d,0,none⟩), .int .i64 n] w fun e w'=>e= .returned (.int .i64 (x % n))∧
    ∃ a,w'=w.setCell ⟨d,0,none⟩ (.slice (some a) (len-1) (cap-1))∧(1<len→a=⟨s,off+1,none⟩)∧a.block=s:=by
 have hne:((len:Int)==0)=false:=by simp;omega
 have hm1:0≤x % n:=Int.emod_nonneg _ (by omega)
 have hm2:x % n<n:=Int.emod_lt_of_pos _ (by omega)
 by_cases hc:cap=1
 ·subst hc
  obtain rfl:len=1:=by omega
  go_enter Tryz.func110,Tryz.ntmps110
  go_wp2_with (go_at_call 128;refine (left_cell _ _ _ _ _ hd).mono ?_;rintro e w' ⟨rfl,rfl⟩)
  go_ret
  exact ⟨rfl,⟨s,off,none⟩,rfl,by omega,rfl⟩
 ·go_enter Tryz.func110,Tryz.ntmps110
  go_wp2_with (go_at_call 128;refine (left_cell _ _ _ _ _ hd).mono ?_;rintro e w' ⟨rfl,rfl⟩)
  go_ret
  exact ⟨rfl,⟨s,off+1,none⟩,rfl,fun _=>rfl,rfl⟩
theorem below_any (d:Nat) (l:List Int) (n:Int) (w:World) (h:DrawAt w d l):
  Calls Tryz.prog 110 #[.pointer (some ⟨d,0,none⟩), .int .i64 n] w fun e w'=>e= .returned (.int .i64 (bel l n).1)∧DrawAt w' d (bel l n).2∧Fr (· =d) w w':=by
 by_cases ho:n<2∨2147483647<n
 ·rw [bel_out ho]
  refine (below_out d n w ho).mono ?_
  rintro e w' ⟨rfl,rfl⟩
  exact ⟨rfl,h,Fr.refl _ _⟩
 obtain ⟨a,cap,hd,hf,hs,hr,hb⟩:=h
 cases l with
 | nil=>
  have e:bel [] n=(0,[]):=by simp [bel]
  rw [e]
  refine (below_empty d n w (by omega) (by omega) a cap hd).mono ?_
  rintro e w' ⟨rfl,rfl⟩
  exact ⟨rfl,⟨a,cap,hd,hf,hs,hr,hb⟩,Fr.refl _ _⟩
 | cons x r=>
  have e:bel (x::r) n=(x % n,r):=by unfold bel;rw [if_pos (by omega)]
  rw [e]
  obtain ⟨b,o,rfl,hc⟩:=hs.cell 0 (.int .u32 x) rfl
  refine (below_in d b o x n _ cap w (by omega) (by omega) (by simp) hs.le hs.max hd hf (hr x (by simp)).1 hc).mono ?_
  rintro e w' ⟨rfl,a,rfl,ha,hab⟩
  have hbd0:b<d:=hb.1 _ rfl
  have hbd:b≠d:=by omega
  have hfr:Fr (· =d) w (w.setCell ⟨d,0,none⟩ (.slice (some a) ((x::r).length-1) (cap-1))):=(Fr.refl (· =d) w).setCell (p:=⟨d,0,none⟩) (.inl rfl) _
  refine ⟨rfl,⟨some a,cap-1,?_,?_,⟨?_,?_,?_⟩,fun y hy=>hr y (by simp [hy]),fun p hp=>?_,?_,fun p hp _=>?_⟩,hfr⟩
  ·rw [World.cell?_setCell_same _ _ _ hd];simp
  ·simpa using hf
  ·have:=hs.le;simp at this ⊢;omega
  ·have:=hs.max;omega
  ·intro j u hj
   have hj':=(List.getElem?_eq_some_iff.1 hj).1
   simp at hj'
   obtain rfl:=ha (by simp;omega)
   obtain ⟨b',o',hp,hc'⟩:=hs.cell (j+1) u (by simpa using hj)
   cases hp
   exact ⟨b,o+1,rfl,by rw [Nat.add_assoc,Nat.add_comm 1 j];exact hfr.cell hc' hbd⟩
  ·cases hp;rw [hab];exact hbd0
  ·exact hb.2.1.set 0 _
  ·cases hp;rw [hab];exact (hb.2.2 _ rfl (by simp)).keep hfr (by omega)
theorem heap_alloc_top (w:World) (o:Obj):(w.alloc o).heap[w.heap.size]?=some o:=by
 show (w.heap.push o)[w.heap.size]?=some o
 simp
theorem ty_own {w:World} {base:Nat} {a:Option Addr} {n cap:Nat} {l:List Int} (h:w.ownsRow base 105 1 (.slice a n cap) n (l.map (Value.int .u32))) {p:Addr} (hp:a=some p):Ty w p.block 105:=by
 rcases h.2 with ⟨e,_⟩ | ⟨g,c,cur,e,_,hh,_⟩
 ·injection e with e
  rw [hp] at e
  cases e
 ·injection e with e
  rw [hp] at e
  injection e with e
  rw [e]
  exact ⟨_,_,hh⟩
theorem new_any (a:Option Addr) (cap:Nat) (l:List Int) (w:World) (h:SlA w a l.length cap (l.map (Value.int .u32))) (hb:l.length * 4≤140737488355328) (hr:∀ x∈l,0≤x∧x<4294967296):
  Calls Tryz.prog 9 #[.slice a l.length cap] w fun e w'=>∃ d,e= .returned (.pointer (some ⟨d,0,none⟩))∧w.heap.size≤d∧DrawAt w' d l∧Below w.heap.size w w':=by
 go_enter Tryz.func9,Tryz.ntmps9
 go_wp2_with (go_at_call 34;refine (clone_u32 a _ cap _ w h (by simp) (by intro u hu;obtain ⟨x,_,rfl⟩:=List.mem_map.1 hu;rfl) hb).mono ?_;rintro e w1 ⟨v,rfl,hown,_,hbl⟩;obtain ⟨a',cap',rfl,hs,hp,_⟩:=SlA.of_own hown)
 go_ret
 refine ⟨w1.heap.size,rfl,hbl.size,⟨a',cap',?_,?_,hs.keep ((Fr.refl (fun _=>False) w1).alloc _) (fun _ _=>id),hr,fun p e=>(hp p e).2.1,⟨_,_,by rw [heap_alloc_top]⟩,fun p e _=>(ty_own hown e).keep ((Fr.refl (fun _=>False) w1).alloc _) (fun h=>h)⟩,hbl.alloc hbl.size _⟩
 ·rw [World.cell?_alloc_at _ _ _ _ rfl];rfl
 ·exact World.frozen?_alloc_at _ _ _ _ rfl
theorem DrawAt.keep {S:Nat→Prop} {w w':World} {d:Nat} {l:List Int} (h:DrawAt w d l) (f:Fr S w w') (hS:∀ k,k≤d→¬ S k):DrawAt w' d l:=by
 obtain ⟨a,cap,h1,h2,h3,h4,h5,h6,h7⟩:=h
 exact ⟨a,cap,f.cell h1 (hS d (Nat.le_refl _)),(f.frozen h1 (hS d (Nat.le_refl _))).trans h2,h3.keep f (fun p hp=>hS _ (Nat.le_of_lt (h5 p hp))),h4,h5,h6.keep f (hS d (Nat.le_refl _)),fun p hp hn=>(h7 p hp hn).keep f (hS _ (Nat.le_of_lt (h5 p hp)))⟩
theorem DrawAt.keepNe {w w':World} {d b:Nat} {l:List Int} (h:DrawAt w d l) (f:Fr (fun k=>k=b) w w') (hd:d≠b) (hr:∀ (o:Nat) (x:Int),w.cell? ⟨b,o,none⟩≠some (.int .u32 x)):DrawAt w' d l:=by
 obtain ⟨a,cap,h1,h2,h3,h4,h5,h6,h7⟩:=h
 have key:∀ p,a=some p→l≠[]→p.block≠b:=by
  intro p hp hl e
  cases l with
  | nil=>exact hl rfl
  | cons x r=>
   obtain ⟨b',o',e2,hc⟩:=h3.cell 0 _ rfl
   rw [hp] at e2
   injection e2 with e2
   rw [e2] at e
   simp only at e
   subst e
   exact hr _ _ hc
 refine ⟨a,cap,f.cell h1 hd,(f.frozen h1 hd).trans h2,⟨h3.le,h3.max,fun j u hj=>?_⟩,h4,h5,h6.keep f hd,fun p hp hn=>(h7 p hp hn).keep f (key p hp hn)⟩
 obtain ⟨b',o',e2,hc⟩:=h3.cell j u hj
 exact ⟨b',o',e2,f.cell hc (key ⟨b',o',none⟩ e2 (fun e=>by rw [e] at hj;simp at hj))⟩
theorem DrawAt.keepTy {w w':World} {d b:Nat} {l:List Int} {T:TypeId} (h:DrawAt w d l) (f:Fr (fun k=>k=b) w w') (ht:Ty w b T) (h1:T≠107) (h2:T≠105):DrawAt w' d l:=by
 obtain ⟨a,cap,k1,k2,k3,k4,k5,k6,k7⟩:=h
 have hd:d≠b:=fun e=>h1 (ht.uniq (e▸k6))
 have key:∀ p,a=some p→l≠[]→p.block≠b:=fun p hp hl e=>h2 (ht.uniq (e▸k7 p hp hl))
 refine ⟨a,cap,f.cell k1 hd,(f.frozen k1 hd).trans k2,⟨k3.le,k3.max,fun j u hj=>?_⟩,k4,k5,k6.keep f hd,fun p hp hn=>(k7 p hp hn).keep f (key p hp hn)⟩
 obtain ⟨b',o',e2,hc⟩:=k3.cell j u hj
 exact ⟨b',o',e2,f.cell hc (key ⟨b',o',none⟩ e2 (fun e=>by rw [e] at hj;simp at hj))⟩
theorem DrawAt.ty {w:World} {d:Nat} {l:List Int} (h:DrawAt w d l):Ty w d 107:=by
 obtain ⟨a,cap,k1,k2,k3,k4,k5,k6,k7⟩:=h
 exact k6
theorem DrawAt.alloc {w:World} {d:Nat} {l:List Int} (h:DrawAt w d l) (o:Obj):DrawAt (w.alloc o) d l:=
 h.keep (S:=fun _=>False) ((Fr.refl _ _).alloc _) (fun _ _=>id)
theorem DrawAt.range {w:World} {d:Nat} {l:List Int} (h:DrawAt w d l):∀ x∈l,0≤x∧x<4294967296:=by
 obtain ⟨a,cap,h1,h2,h3,h4,h5⟩:=h;exact h4
theorem DrawAt.lt {w:World} {d:Nat} {l:List Int} (h:DrawAt w d l):d<w.heap.size:=by
 obtain ⟨a,cap,h1,_⟩:=h;exact lt_of_cell h1
theorem DrawAt.drewN {w:World} {d:Nat} {l:List Int} (h:DrawAt w d l) (n:Nat):DrawAt (w.drewN n) d l:=by
 obtain ⟨a,cap,h1,h2,h3,h4,h5⟩:=h
 exact ⟨a,cap,h1,h2,⟨h3.le,h3.max,h3.cell⟩,h4,h5⟩
end
section
open Go.RowKit Go.Proofs
structure Vw where
 self:Int
 act:List Int
 am:Int
 pas:List Int
 pm:Int
structure Vw.Good (v:Vw):Prop where
 act:Go.Proofs.YtelepohdfcjnfaaGreat.Good v.act v.am
 pas:Go.Proofs.YtelepohdfcjnfaaGreat.Good v.pas v.pm
def oneV (ds l:List Int):Int×Bool×List Int:=if l=[] then (0,false,ds) else (l.getD (belN ds l.length) 0,true,(bel ds l.length).2)
def vForget (v:Vw) (n:Int):Vw:={ v with pas:=sDrop v.pas n }
def vJoinOk (v:Vw) (n:Int):Bool:=sAddOk v.act v.am n&& !(n==v.self)
def vJoin (v:Vw) (n:Int):Vw:=if vJoinOk v n=true then { v with act:=sAdd v.act v.am n,pas:=sDrop v.pas n } else v
def vNew (v:Vw) (n:Int):Bool:=decide (1≤n)&&decide (n≤65535)&& !(n==v.self)&& !has v.act n&& !has v.pas n
def vFull (v:Vw):Bool:=decide (v.pm≤(v.pas.length:Int))
def vRoom (v:Vw) (ds:List Int):List Int×List Int:=if vFull v=true∧v.pas≠[] then (sDrop v.pas (oneV ds v.pas).1,(oneV ds v.pas).2.2) else (v.pas,ds)
def vKnow (v:Vw) (n:Int) (ds:List Int):Vw×List Int:=
 if vNew v n=true then ({ v with pas:=if sAddOk (vRoom v ds).1 v.pm n=true then sAdd (vRoom v ds).1 v.pm n else v.pas },(vRoom v ds).2) else (v,ds)
def vLeave (v:Vw) (n:Int) (keep:Bool) (ds:List Int):Vw×Bool×List Int:=
 if has v.act n=true then
  (if keep=true then ((vKnow { v with act:=sDrop v.act n } n ds).1,true,(vKnow { v with act:=sDrop v.act n } n ds).2) else ({ v with act:=sDrop v.act n },true,ds))
 else (v,false,ds)
def vEvict (v:Vw) (ds:List Int):Vw×Int×Bool×List Int:=
 if v.act=[] then (v,0,false,ds) else
  ((vLeave v (oneV ds v.act).1 true (oneV ds v.act).2.2).1,(oneV ds v.act).1,true,(vLeave v (oneV ds v.act).1 true (oneV ds v.act).2.2).2.2)
def vSane (v:Vw):Bool:= !has v.act v.self&& !has v.pas v.self&& !v.act.any (has v.pas)
theorem vForget_good {v:Vw} (h:v.Good) (n:Int):(vForget v n).Good:=⟨h.act,h.pas.drop n⟩
theorem vJoin_good {v:Vw} (h:v.Good) (n:Int):(vJoin v n).Good:=by
 unfold vJoin
 split
 ·exact ⟨h.act.add n,h.pas.drop n⟩
 ·exact h
theorem vRoom_good {v:Vw} (h:v.Good) (ds:List Int):Go.Proofs.YtelepohdfcjnfaaGreat.Good (vRoom v ds).1 v.pm:=by
 unfold vRoom
 split
 ·exact h.pas.drop _
 ·exact h.pas
theorem vKnow_good {v:Vw} (h:v.Good) (n:Int) (ds:List Int):(vKnow v n ds).1.Good:=by
 unfold vKnow
 split
 ·refine ⟨h.act,?_⟩
  simp only
  split
  ·exact (vRoom_good h ds).add n
  ·exact h.pas
 ·exact h
theorem vLeave_good {v:Vw} (h:v.Good) (n:Int) (keep:Bool) (ds:List Int):(vLeave v n keep ds).1.Good:=by
 have h2:Vw.Good { v with act:=sDrop v.act n }:=⟨h.act.drop n,h.pas⟩
 unfold vLeave
 split
 ·split
  ·exact vKnow_good h2 n ds
  ·exact h2
 ·exact h
theorem vEvict_good {v:Vw} (h:v.Good) (ds:List Int):(vEvict v ds).1.Good:=by
 unfold vEvict
 split
 ·exact h
 ·exact vLeave_good h _ _ _
end
section
open Go.RowKit Go.Proofs
theorem sDrop_mem {l:List Int} (h:l.Pairwise (· <·)) (n x:Int):x∈sDrop l n↔x∈l∧x≠n:=by
 rw [sDrop_eq h,List.mem_filter]
 simp
theorem sAdd_sub {l:List Int} {m n x:Int} (h:x∈sAdd l m n):x=n∨x∈l:=by
 unfold sAdd at h
 split at h
 ·exact .inr h
 ·split at h
  ·exact (ins_mem l n x).1 h
  ·exact .inr h
theorem sAdd_sup {l:List Int} {m n x:Int} (h:x∈l):x∈sAdd l m n:=by
 unfold sAdd
 split
 ·exact h
 ·split
  ·exact (ins_mem l n x).2 (.inr h)
  ·exact h
theorem sAdd_has {l:List Int} {m n:Int} (h:sAddOk l m n=true):n∈sAdd l m n:=by
 unfold sAdd
 by_cases h1:has l n=true
 ·rw [if_pos h1];exact (has_iff _ _).1 h1
 ·rw [if_neg h1]
  have:1≤n∧n≤65535∧(l.length:Int)<m:=by
   unfold sAddOk at h
   simp only [Bool.or_eq_true,Bool.and_eq_true,decide_eq_true_eq] at h
   rcases h with h | h
   ·exact absurd h h1
   ·exact ⟨h.1.1,h.1.2,h.2⟩
  rw [if_pos this]
  exact (ins_mem l n n).2 (.inl rfl)
theorem sAdd_len {l:List Int} {m n:Int} (h:sAddOk l m n=true) (hn:has l n=false):(sAdd l m n).length=l.length+1:=by
 unfold sAdd
 rw [if_neg (by rw [hn];decide)]
 have:1≤n∧n≤65535∧(l.length:Int)<m:=by
  unfold sAddOk at h
  simp only [hn,Bool.false_or,Bool.and_eq_true,decide_eq_true_eq] at h
  exact ⟨h.1.1,h.1.2,h.2⟩
 rw [if_pos this,ins_length]
theorem sDrop_len {l:List Int} (h:l.Pairwise (· <·)) {n:Int} (hn:has l n=true):(sDrop l n).length+1=l.length:=by
 unfold sDrop
 rw [if_pos hn,del_length h ((has_iff _ _).1 hn)]
 have:0<l.length:=List.length_pos_of_mem ((has_iff _ _).1 hn)
 omega
structure Vw.Sane (v:Vw):Prop where
 act:v.self∉v.act
 pas:v.self∉v.pas
 apart:∀ x∈v.act,x∉v.pas
theorem vSane_iff (v:Vw):vSane v=true↔v.Sane:=by
 unfold vSane
 simp only [Bool.and_eq_true,Bool.not_eq_true',has_no]
 constructor
 ·rintro ⟨⟨h1,h2⟩,h3⟩
  refine ⟨h1,h2,fun x hx hp=>?_⟩
  rw [List.any_eq_false] at h3
  exact h3 x hx ((has_iff _ _).2 hp)
 ·rintro ⟨h1,h2,h3⟩
  refine ⟨⟨h1,h2⟩,?_⟩
  rw [List.any_eq_false]
  intro x hx hh
  exact h3 x hx ((has_iff _ _).1 hh)
theorem vForget_sane {v:Vw} (hg:v.Good) (h:v.Sane) (n:Int):(vForget v n).Sane:=
 ⟨h.act,fun hm=>h.pas ((sDrop_mem hg.pas.up n _).1 hm).1,fun x hx hm=>h.apart x hx ((sDrop_mem hg.pas.up n _).1 hm).1⟩
theorem vJoin_sane {v:Vw} (hg:v.Good) (h:v.Sane) (n:Int):(vJoin v n).Sane:=by
 unfold vJoin
 split
 ·rename_i hok
  unfold vJoinOk at hok
  simp only [Bool.and_eq_true,Bool.not_eq_true',beq_eq_false_iff_ne] at hok
  refine ⟨fun hm=>?_,fun hm=>h.pas ((sDrop_mem hg.pas.up n _).1 hm).1,fun x hx hm=>?_⟩
  ·rcases sAdd_sub hm with e | hm
   ·exact hok.2 e.symm
   ·exact h.act hm
  ·obtain ⟨h1,h2⟩:=(sDrop_mem hg.pas.up n _).1 hm
   rcases sAdd_sub hx with e | hx
   ·exact h2 e
   ·exact h.apart x hx h1
 ·exact h
theorem vRoom_sub {v:Vw} (hg:v.Good) (ds:List Int) {x:Int} (h:x∈(vRoom v ds).1):x∈v.pas:=by
 unfold vRoom at h
 split at h
 ·exact ((sDrop_mem hg.pas.up _ _).1 h).1
 ·exact h
theorem vNew_iff (v:Vw) (n:Int):vNew v n=true↔(1≤n∧n≤65535)∧n≠v.self∧n∉v.act∧n∉v.pas:=by
 unfold vNew
 simp only [Bool.and_eq_true,Bool.not_eq_true',decide_eq_true_eq,beq_eq_false_iff_ne,has_no]
 constructor
 ·rintro ⟨⟨⟨⟨a,b⟩,c⟩,d⟩,e⟩;exact ⟨⟨a,b⟩,c,d,e⟩
 ·rintro ⟨⟨a,b⟩,c,d,e⟩;exact ⟨⟨⟨⟨a,b⟩,c⟩,d⟩,e⟩
theorem vKnow_sane {v:Vw} (hg:v.Good) (h:v.Sane) (n:Int) (ds:List Int):(vKnow v n ds).1.Sane:=by
 unfold vKnow
 split
 ·rename_i hn
  obtain ⟨_,h1,h2,h3⟩:=(vNew_iff v n).1 hn
  have hm:∀ x,x∈(if sAddOk (vRoom v ds).1 v.pm n=true then sAdd (vRoom v ds).1 v.pm n else v.pas)→x=n∨x∈v.pas:=by
   intro x hx
   split at hx
   ·rcases sAdd_sub hx with e | hx
    ·exact .inl e
    ·exact .inr (vRoom_sub hg ds hx)
   ·exact .inr hx
  refine ⟨h.act,fun hs=>?_,fun x hx hp=>?_⟩
  ·rcases hm _ hs with e | e
   ·exact h1 e.symm
   ·exact h.pas e
  ·rcases hm _ hp with e | e
   ·exact h2 (e▸hx)
   ·exact h.apart x hx e
 ·exact h
theorem vDrop_sane {v:Vw} (hg:v.Good) (h:v.Sane) (n:Int):Vw.Sane { v with act:=sDrop v.act n }:=
 ⟨fun hm=>h.act ((sDrop_mem hg.act.up n _).1 hm).1,h.pas,fun x hx hm=>h.apart x ((sDrop_mem hg.act.up n _).1 hx).1 hm⟩
theorem vLeave_sane {v:Vw} (hg:v.Good) (h:v.Sane) (n:Int) (keep:Bool) (ds:List Int):(vLeave v n keep ds).1.Sane:=by
 have hg2:Vw.Good { v with act:=sDrop v.act n }:=⟨hg.act.drop n,hg.pas⟩
 unfold vLeave
 split
 ·split
  ·exact vKnow_sane hg2 (vDrop_sane hg h n) n ds
  ·exact vDrop_sane hg h n
 ·exact h
theorem vEvict_sane {v:Vw} (hg:v.Good) (h:v.Sane) (ds:List Int):(vEvict v ds).1.Sane:=by
 unfold vEvict
 split
 ·exact h
 ·exact vLeave_sane hg h _ _ _
theorem oneV_mem {ds l:List Int} (hd:∀ x∈ds,0≤x∧x<4294967296) (hl:l≠[]):(oneV ds l).1∈l∧(oneV ds l).2.1=true:=by
 have h0:0<l.length:=List.length_pos_iff.2 hl
 obtain ⟨-, h2⟩:=belN_eq ds l.length hd h0
 unfold oneV
 rw [if_neg hl]
 refine ⟨?_,rfl⟩
 simp only
 rw [List.getD_eq_getElem?_getD,List.getElem?_eq_getElem h2]
 exact List.getElem_mem h2
theorem oneV_range {ds l:List Int} (hd:∀ x∈ds,0≤x∧x<4294967296):∀ x∈(oneV ds l).2.2,0≤x∧x<4294967296:=by
 unfold oneV
 split
 ·exact hd
 ·exact bel_sub ds _ (fun x=>0≤x∧x<4294967296) hd
theorem vRoom_len {v:Vw} (hg:v.Good) {ds:List Int} (hd:∀ x∈ds,0≤x∧x<4294967296):((vRoom v ds).1.length:Int)<v.pm∨v.pm=0:=by
 have hf:=hg.pas.fit
 have h0:=hg.pas.least
 unfold vRoom
 by_cases hfull:vFull v=true
 ·by_cases hn:v.pas=[]
  ·right
   unfold vFull at hfull
   rw [hn] at hfull
   simp at hfull
   omega
  ·rw [if_pos ⟨hfull,hn⟩]
   left
   have hm:=oneV_mem hd hn
   have:=sDrop_len hg.pas.up ((has_iff _ _).2 hm.1)
   simp only
   omega
 ·rw [if_neg (fun h=>hfull h.1)]
  left
  unfold vFull at hfull
  simp only [decide_eq_true_eq] at hfull
  simp only
  omega
structure Evicted (v:Vw) (ds:List Int):Prop where
 ok:(vEvict v ds).2.2.1=true
 was:(vEvict v ds).2.1∈v.act
 node:1≤(vEvict v ds).2.1∧(vEvict v ds).2.1≤65535
 act:(vEvict v ds).1.act=sDrop v.act (vEvict v ds).2.1
 len:(vEvict v ds).1.act.length+1=v.act.length
 pas:has (vEvict v ds).1.pas (vEvict v ds).2.1=decide (0<v.pm)
 plen:((vEvict v ds).1.pas.length:Int)=min ((v.pas.length:Int)+1) v.pm
 am:(vEvict v ds).1.am=v.am
 pm:(vEvict v ds).1.pm=v.pm
 self:(vEvict v ds).1.self=v.self
theorem vEvict_facts {v:Vw} (hg:v.Good) (hs:v.Sane) {ds:List Int} (hd:∀ x∈ds,0≤x∧x<4294967296) (hne:v.act≠[]):Evicted v ds:=by
 have hm:=oneV_mem hd hne
 obtain ⟨n,hn⟩:∃ n,n=(oneV ds v.act).1:=⟨_,rfl⟩
 have hdr:=oneV_range (l:=v.act) hd
 obtain ⟨d2,hd2⟩:∃ d2,d2=(oneV ds v.act).2.2:=⟨_,rfl⟩
 have hE:vEvict v ds=((vLeave v n true d2).1,n,true,(vLeave v n true d2).2.2):=by unfold vEvict;rw [if_neg hne,hn,hd2]
 rw [←hn] at hm
 rw [←hd2] at hdr
 have hact:has v.act n=true:=(has_iff _ _).2 hm.1
 have hg2:Vw.Good { v with act:=sDrop v.act n }:=⟨hg.act.drop n,hg.pas⟩
 have hL:vLeave v n true d2=((vKnow { v with act:=sDrop v.act n } n d2).1,true,(vKnow { v with act:=sDrop v.act n } n d2).2):=by unfold vLeave;rw [if_pos hact,if_pos rfl]
 have hN:vNew { v with act:=sDrop v.act n } n=true:=by
  rw [vNew_iff]
  refine ⟨hg.act.node n hm.1,fun e=>hs.act (e▸hm.1),fun h=>((sDrop_mem hg.act.up n n).1 h).2 rfl,hs.apart n hm.1⟩
 have hK:(vKnow { v with act:=sDrop v.act n } n d2).1={ v with act:=sDrop v.act n,pas:=if sAddOk (vRoom { v with act:=sDrop v.act n } d2).1 v.pm n=true then sAdd (vRoom { v with act:=sDrop v.act n } d2).1 v.pm n else v.pas }:=by
  unfold vKnow;rw [if_pos hN]
 have hrl:=vRoom_len hg2 hdr
 have hrs:∀ x,x∈(vRoom { v with act:=sDrop v.act n } d2).1→x∈v.pas:=fun x h=>vRoom_sub hg2 d2 h
 have hro:((vRoom { v with act:=sDrop v.act n } d2).1.length:Int)+1=min ((v.pas.length:Int)+1) v.pm∨v.pm=0:=by
  rcases hrl with h | h
  ·left
   unfold vRoom at h ⊢
   have hf:=hg.pas.fit
   by_cases hc:vFull { v with act:=sDrop v.act n }=true∧v.pas≠[]
   ·rw [if_pos hc]
    have hm2:=oneV_mem (ds:=d2) hdr hc.2
    have:=sDrop_len hg.pas.up ((has_iff _ _).2 hm2.1)
    have hfull:=hc.1
    unfold vFull at hfull
    simp only [decide_eq_true_eq] at hfull
    simp only
    omega
   ·rw [if_neg hc] at h ⊢
    simp only at h ⊢
    omega
  ·exact .inr h
 obtain ⟨R,hR⟩:∃ R,R=(vRoom { v with act:=sDrop v.act n } d2).1:=⟨_,rfl⟩
 rw [←hR] at hrl hrs hro hK
 have hRn:has R n=false:=(has_no _ _).2 (fun h=>hs.apart n hm.1 (hrs n h))
 have hnode:=hg.act.node n hm.1
 have hpl:=sDrop_len hg.act.up hact
 have e1:(vEvict v ds).1={ v with act:=sDrop v.act n,pas:=if sAddOk R v.pm n=true then sAdd R v.pm n else v.pas }:=by rw [hE,hL,hK]
 have e2:(vEvict v ds).2.1=n:=by rw [hE]
 have e3:(vEvict v ds).2.2.1=true:=by rw [hE]
 simp only at hrl
 have h0:=hg.pas.least
 have hfit:=hg.pas.fit
 have hnp:has v.pas n=false:=(has_no _ _).2 (hs.apart n hm.1)
 refine ⟨e3,by rw [e2];exact hm.1,by rw [e2];exact hnode,by rw [e1,e2],by rw [e1];exact hpl,?_,?_,by rw [e1],by rw [e1],by rw [e1]⟩
 ·rw [e1,e2]
  simp only
  by_cases hp:v.pm=0
  ·have hz:sAddOk R v.pm n=false:=by
    unfold sAddOk
    rw [hRn,hp]
    simp
   rw [hz,hp]
   simp [hnp]
  ·have hlt:(R.length:Int)<v.pm:=by omega
   have hz:sAddOk R v.pm n=true:=by
    unfold sAddOk
    simp only [hRn,Bool.false_or,Bool.and_eq_true,decide_eq_true_eq]
    exact ⟨⟨hnode.1,hnode.2⟩,hlt⟩
   rw [if_pos hz,(has_iff _ _).2 (sAdd_has hz),decide_eq_true (by omega)]
 ·rw [e1]
  simp only
  by_cases hp:v.pm=0
  ·have hz:sAddOk R v.pm n=false:=by
    unfold sAddOk
    rw [hRn,hp]
    simp
   rw [hz]
   simp
   omega
  ·have hlt:(R.length:Int)<v.pm:=by omega
   have hz:sAddOk R v.pm n=true:=by
    unfold sAddOk
    simp only [hRn,Bool.false_or,Bool.and_eq_true,decide_eq_true_eq]
    exact ⟨⟨hnode.1,hnode.2⟩,hlt⟩
   have:=sAdd_len hz hRn
   rw [if_pos hz,this]
   rcases hro with h | h
   ·omega
   ·exact absurd h hp
end
section
open Go.RowKit Go.Proofs
structure Hd where
 v:Vw
 asked:List Int
structure Hd.Good (h:Hd):Prop where
 v:h.v.Good
 asked:Go.Proofs.YtelepohdfcjnfaaGreat.Good h.asked 64
structure Ho where
 who:Int
 kind:Int
 high:Bool
def hNew (self a p:Int):Hd:=⟨⟨self,[],min (max a 0) 64,[],min (max p 0) 64⟩,[]⟩
def vaFull (v:Vw):Bool:=decide (v.am≤(v.act.length:Int))
def hAsks (h:Hd) (n:Int):Bool:= !(n==h.v.self)&& !has h.v.act n&& !has h.asked n&&sAddOk h.asked 64 n
def hAsk (h:Hd) (n:Int) (high:Bool):Hd×List Ho:=
 if hAsks h n=true then (⟨h.v,sAdd h.asked 64 n⟩,[⟨n,3,high⟩]) else (h,[])
def hEv (h:Hd) (ds:List Int):Vw×Int×Bool×List Int:=if vaFull h.v=true then vEvict h.v ds else (h.v,0,false,ds)
def hEvs (h:Hd) (n:Int) (ds:List Int):Bool:=(hEv h ds).2.2.1&& !(n==h.v.self)
def hRoomV (h:Hd) (n:Int) (ds:List Int):Vw:=if hEvs h n ds=true then (hEv h ds).1 else h.v
def hRoomA (h:Hd) (n:Int) (ds:List Int):List Int:=if hEvs h n ds=true then sDrop h.asked (hEv h ds).2.1 else h.asked
def hRoomO (h:Hd) (n:Int) (ds:List Int):List Ho:=if hEvs h n ds=true then [⟨(hEv h ds).2.1,6,false⟩] else []
def hTake (h:Hd) (n:Int) (ds:List Int):Hd×List Ho×Bool×List Int:=
 if has h.v.act n=true then (h,[],true,ds) else
  if vJoinOk (hRoomV h n ds) n=true then (⟨vJoin (hRoomV h n ds) n,hRoomA h n ds⟩,hRoomO h n ds,true,(hEv h ds).2.2.2) else (h,[],false,(hEv h ds).2.2.2)
def hMay (h:Hd) (n:Int) (high:Bool):Bool:=decide (1≤n)&&decide (n≤65535)&& !(n==h.v.self)&&(high|| !vaFull h.v)
def hOnAsk (h:Hd) (n:Int) (high:Bool) (ds:List Int):Hd×List Ho×List Int:=
 if has h.v.act n=true then (h,[⟨n,4,false⟩],ds) else
  if hMay h n high=true then
   (if (hTake h n ds).2.2.1=true then ((hTake h n ds).1,(hTake h n ds).2.1++[⟨n,4,false⟩],(hTake h n ds).2.2.2) else (h,[⟨n,5,false⟩],(hTake h n ds).2.2.2))
  else (h,[⟨n,5,false⟩],ds)
def hOnYes (h:Hd) (n:Int) (ds:List Int):Hd×List Ho×List Int:=
 if has h.asked n=true then ((hTake ⟨h.v,sDrop h.asked n⟩ n ds).1,(hTake ⟨h.v,sDrop h.asked n⟩ n ds).2.1,(hTake ⟨h.v,sDrop h.asked n⟩ n ds).2.2.2) else
  if has h.v.act n=true then (h,[],ds) else (h,[⟨n,6,false⟩],ds)
def hOnBye (h:Hd) (n:Int) (ds:List Int):Hd×List Int:=(⟨(vLeave h.v n true ds).1,h.asked⟩,(vLeave h.v n true ds).2.2)
def hOnNo (h:Hd) (n:Int) (ds:List Int):Hd×List Ho×List Int:=
 if has h.v.act n=true then ((hOnBye ⟨h.v,sDrop h.asked n⟩ n ds).1,[⟨n,6,false⟩],(hOnBye ⟨h.v,sDrop h.asked n⟩ n ds).2) else (⟨h.v,sDrop h.asked n⟩,[],ds)
def hOnBreak (h:Hd) (n:Int):Hd:=⟨vForget (vLeave h.v n false []).1 n,sDrop h.asked n⟩
end
section
open Go.RowKit Go.Proofs
def srt (l:List Int):List Int:=l.mergeSort (fun a b=>decide (a≤b))
theorem srt_perm (l:List Int):(srt l).Perm l:=List.mergeSort_perm l _
theorem srt_up (l:List Int):(srt l).Pairwise (· ≤·):=by
 have h:=List.pairwise_mergeSort (le:=fun a b:Int=>decide (a≤b)) (fun a b c h1 h2=>by simp at *; omega) (fun a b=>by simp;omega) l
 exact h.imp (fun h=>by simpa using h)
theorem up_uniq:∀ {a b:List Int},a.Perm b→a.Pairwise (· ≤·)→b.Pairwise (· ≤·)→a=b
 | [],b,h,_,_=>(List.nil_perm.1 h).symm
 | x::a,b,h,ha,hb=>by
  cases b with
  | nil=>exact absurd (List.perm_nil.1 h) (by simp)
  | cons y b=>
   obtain ⟨h1,h2⟩:=List.pairwise_cons.1 ha
   obtain ⟨h3,h4⟩:=List.pairwise_cons.1 hb
   have hxy:x=y:=by
    have m1:x∈y::b:=h.mem_iff.1 (by simp)
    have m2:y∈x::a:=h.mem_iff.2 (by simp)
    rcases List.mem_cons.1 m1 with e | e
    ·exact e
    ·rcases List.mem_cons.1 m2 with e2 | e2
     ·exact e2.symm
     ·have:=h3 x e;have:=h1 y e2;omega
   subst hxy
   rw [up_uniq ((List.perm_cons x).1 h) h2 h4]
def rDrop (l:List Int) (n:Int):List Int:=l.filter (fun x=>x != n)
def rForget (u:Vw) (n:Int):Vw:={ u with pas:=rDrop u.pas n }
def rJoinNo (u:Vw) (n:Int):Bool:=decide (n<1)||decide (65535<n)||(n==u.self)||(!has u.act n&&decide (u.am≤(u.act.length:Int)))
def rJoin (u:Vw) (n:Int):Vw:=if rJoinNo u n=true then u else { u with pas:=rDrop u.pas n,act:=if has u.act n=true then u.act else u.act++[n] }
def rKnowNo (u:Vw) (n:Int):Bool:=decide (n<1)||decide (65535<n)||(n==u.self)||(u.pm==0)||has u.act n||has u.pas n
def rKnow (u:Vw) (n:Int) (ds:List Int):Vw×List Int:=
 if rKnowNo u n=true then (u,ds) else
  if u.pm≤(u.pas.length:Int) then ({ u with pas:=rDrop u.pas (oneV ds (srt u.pas)).1++[n] },(oneV ds (srt u.pas)).2.2) else ({ u with pas:=u.pas++[n] },ds)
def rLeave (u:Vw) (n:Int) (keep:Bool) (ds:List Int):Vw×Bool×List Int:=
 if has u.act n=true then
  (if keep=true then ((rKnow { u with act:=rDrop u.act n } n ds).1,true,(rKnow { u with act:=rDrop u.act n } n ds).2) else ({ u with act:=rDrop u.act n },true,ds))
 else (u,false,ds)
def rEvict (u:Vw) (ds:List Int):Vw×Int×Bool×List Int:=
 if u.act=[] then (u,0,false,ds) else
  ((rLeave u (oneV ds (srt u.act)).1 true (oneV ds (srt u.act)).2.2).1,(oneV ds (srt u.act)).1,true,(rLeave u (oneV ds (srt u.act)).1 true (oneV ds (srt u.act)).2.2).2.2)
structure Like (v u:Vw):Prop where
 self:u.self=v.self
 act:v.act.Perm u.act
 pas:v.pas.Perm u.pas
 am:u.am=v.am
 pm:u.pm=v.pm
theorem perm_hasV {L M:List Int} (h:L.Perm M) (n:Int):has M n=has L n:=by
 by_cases hn:n∈L
 ·rw [(has_iff _ _).2 hn,(has_iff _ _).2 (h.mem_iff.1 hn)]
 ·rw [(has_no _ _).2 hn,(has_no _ _).2 (fun h'=>hn (h.mem_iff.2 h'))]
theorem perm_srt {L M:List Int} (h:L.Perm M) (hl:L.Pairwise (· <·)):srt M=L:=up_uniq ((srt_perm M).trans h.symm) (srt_up M) (hl.imp (fun h=>Int.le_of_lt h))
theorem perm_dropV {L M:List Int} (h:L.Perm M) (hl:L.Pairwise (· <·)) (n:Int):(sDrop L n).Perm (rDrop M n):=by rw [sDrop_eq hl];exact h.filter _
theorem perm_addV {L M:List Int} (h:L.Perm M) {m n:Int} (h0:has L n=false) (h1:1≤n) (h2:n≤65535) (h3:(L.length:Int)<m):(sAdd L m n).Perm (M++[n]):=by
 unfold sAdd
 rw [if_neg (by rw [h0];decide),if_pos ⟨h1,h2,h3⟩]
 exact ((ins_perm L n).trans (h.cons n)).trans (List.perm_append_comm (l₁ :=[n]) (l₂ :=M))
theorem like_forget {v u:Vw} (h:Like v u) (g:v.Good) (n:Int):Like (vForget v n) (rForget u n):=⟨h.self,h.act,perm_dropV h.pas g.pas.up n,h.am,h.pm⟩
theorem like_joinOk {v u:Vw} (h:Like v u) (g:v.Good) (n:Int):rJoinNo u n= !vJoinOk v n:=by
 unfold rJoinNo vJoinOk sAddOk
 rw [perm_hasV h.act,h.self,h.am,h.act.symm.length_eq]
 have hn:has v.act n=true→1≤n∧n≤65535:=fun e=>g.act.node n ((has_iff _ _).1 e)
 generalize has v.act n=b at hn ⊢
 rw [Bool.eq_iff_iff]
 by_cases hs:n=v.self
 ·simp [hs]
 ·have:(n==v.self)=false:=by simpa using hs
  rw [this]
  cases b
  ·simp
  ·have:=hn rfl
   simp
   omega
theorem like_join {v u:Vw} (h:Like v u) (g:v.Good) (n:Int):Like (vJoin v n) (rJoin u n):=by
 have hk:=like_joinOk h g n
 unfold rJoin vJoin
 rcases Bool.eq_false_or_eq_true (vJoinOk v n) with hj | hj
 rotate_left
 ·rw [hj] at hk
  rw [if_pos (show rJoinNo u n=true by rw [hk];rfl),if_neg (show ¬ vJoinOk v n=true by rw [hj];simp)]
  exact h
 ·rw [hj] at hk
  rw [if_neg (show ¬ rJoinNo u n=true by rw [hk];simp),if_pos hj]
  refine ⟨h.self,?_,perm_dropV h.pas g.pas.up n,h.am,h.pm⟩
  simp only
  rw [perm_hasV h.act]
  cases hh:has v.act n
  ·rw [if_neg (by simp)]
   unfold vJoinOk sAddOk at hj
   rw [hh] at hj
   simp only [Bool.false_or,Bool.and_eq_true,decide_eq_true_eq] at hj
   exact perm_addV h.act hh hj.1.1.1 hj.1.1.2 hj.1.2
  ·rw [if_pos rfl]
   unfold sAdd
   rw [if_pos hh]
   exact h.act
theorem like_know {v u:Vw} (h:Like v u) (g:v.Good) (n:Int) {ds:List Int} (hr:∀ x∈ds,0≤x∧x<4294967296):Like (vKnow v n ds).1 (rKnow u n ds).1∧(rKnow u n ds).2=(vKnow v n ds).2:=by
 have hs:srt u.pas=v.pas:=perm_srt h.pas g.pas.up
 unfold rKnow vKnow
 rcases Bool.eq_false_or_eq_true (vNew v n) with hv | hv
 rotate_left
 ·rw [if_neg (show ¬ vNew v n=true by rw [hv];simp)]
  have:rKnowNo u n=true:=by
   unfold vNew at hv
   unfold rKnowNo
   rw [perm_hasV h.act,perm_hasV h.pas,h.self,h.pm]
   generalize has v.act n=b1 at hv ⊢
   generalize has v.pas n=b2 at hv ⊢
   by_cases h1:1≤n
   ·by_cases h2:n≤65535
    ·rw [decide_eq_true h1,decide_eq_true h2] at hv
     cases b1<;>cases b2<;>simp_all
    ·rw [decide_eq_true (show 65535<n by omega)];simp
   ·rw [decide_eq_true (show n<1 by omega)];simp
  rw [if_pos this]
  exact ⟨h,rfl⟩
 ·rw [if_pos hv]
  unfold vNew at hv
  simp only [Bool.and_eq_true,decide_eq_true_eq,Bool.not_eq_true'] at hv
  obtain ⟨⟨⟨⟨h1,h2⟩,h3⟩,h4⟩,h5⟩:=hv
  have hno:rKnowNo u n=(v.pm==0):=by
   unfold rKnowNo
   rw [perm_hasV h.act,perm_hasV h.pas,h.self,h.pm,h3,h4,h5,decide_eq_false (show ¬ n<1 by omega),decide_eq_false (show ¬ 65535<n by omega)]
   simp
  have hl:=h.pas.length_eq
  have hf:=g.pas.fit
  have h0:=g.pas.least
  by_cases hz:v.pm=0
  ·rw [if_pos (show rKnowNo u n=true by rw [hno];simpa using hz)]
   have hp:v.pas=[]:=List.eq_nil_of_length_eq_zero (by omega)
   have hroom:vRoom v ds=([],ds):=by unfold vRoom;rw [hp];simp
   rw [hroom]
   refine ⟨⟨h.self,h.act,?_,h.am,h.pm⟩,rfl⟩
   simp only
   rw [if_neg (by unfold sAddOk;rw [hz];simp [has])]
   exact h.pas
  ·rw [if_neg (show ¬ rKnowNo u n=true by rw [hno];simpa using hz),hs,h.pm]
   by_cases hfull:v.pm≤(u.pas.length:Int)
   ·rw [if_pos hfull]
    have hne:v.pas≠[]:=fun e=>by rw [e] at hl;simp at hl;omega
    have hroom:vRoom v ds=(sDrop v.pas (oneV ds v.pas).1,(oneV ds v.pas).2.2):=by
     unfold vRoom
     rw [if_pos ⟨by unfold vFull;simp;omega,hne⟩]
    rw [hroom]
    obtain ⟨o,ho⟩:∃ o,o=(oneV ds v.pas).1:=⟨_,rfl⟩
    have hm:o∈v.pas:=by rw [ho];exact (oneV_mem hr hne).1
    have hlen:=sDrop_len g.pas.up ((has_iff _ _).2 hm)
    have hnn:has (sDrop v.pas o) n=false:=(has_no _ _).2 (fun e=>(has_no _ _).1 h5 ((sDrop_mem g.pas.up o n).1 e).1)
    rw [←ho]
    simp only
    rw [if_pos (by unfold sAddOk;rw [hnn];simp;omega)]
    refine ⟨⟨h.self,h.act,?_,h.am,rfl⟩,trivial⟩
    exact perm_addV (perm_dropV h.pas g.pas.up o) hnn h1 h2 (by omega)
   ·rw [if_neg hfull]
    have hroom:vRoom v ds=(v.pas,ds):=by
     unfold vRoom
     rw [if_neg (fun e=>by have:=e.1;unfold vFull at this;simp at this;omega)]
    rw [hroom]
    simp only
    rw [if_pos (by unfold sAddOk;rw [h5];simp;omega)]
    exact ⟨⟨h.self,h.act,perm_addV h.pas h5 h1 h2 (by omega),h.am,rfl⟩,trivial⟩
theorem like_leave {v u:Vw} (h:Like v u) (g:v.Good) (n:Int) (keep:Bool) {ds:List Int} (hr:∀ x∈ds,0≤x∧x<4294967296):
  Like (vLeave v n keep ds).1 (rLeave u n keep ds).1∧(rLeave u n keep ds).2=(vLeave v n keep ds).2:=by
 have h2:Like { v with act:=sDrop v.act n } { u with act:=rDrop u.act n }:=⟨h.self,perm_dropV h.act g.act.up n,h.pas,h.am,h.pm⟩
 have g2:Vw.Good { v with act:=sDrop v.act n }:=⟨g.act.drop n,g.pas⟩
 unfold rLeave vLeave
 rw [perm_hasV h.act]
 cases has v.act n
 ·exact ⟨h,rfl⟩
 ·cases keep
  ·exact ⟨h2,rfl⟩
  ·obtain ⟨a,b⟩:=like_know h2 g2 n hr
   refine ⟨a,?_⟩
   simp only [if_true]
   rw [b]
theorem like_evict {v u:Vw} (h:Like v u) (g:v.Good) {ds:List Int} (hr:∀ x∈ds,0≤x∧x<4294967296):
  Like (vEvict v ds).1 (rEvict u ds).1∧(rEvict u ds).2=(vEvict v ds).2:=by
 have hs:srt u.act=v.act:=perm_srt h.act g.act.up
 unfold rEvict vEvict
 rw [hs]
 by_cases he:v.act=[]
 ·have:u.act=[]:=by have:=h.act.length_eq;rw [he] at this;exact List.eq_nil_of_length_eq_zero this.symm
  rw [if_pos he,if_pos this]
  exact ⟨h,rfl⟩
 ·have:u.act≠[]:=fun e=>he (by have:=h.act.length_eq;rw [e] at this;exact List.eq_nil_of_length_eq_zero this)
  rw [if_neg he,if_neg this]
  obtain ⟨a,b⟩:=like_leave h g (oneV ds v.act).1 true (oneV_range (l:=v.act) hr)
  refine ⟨a,?_⟩
  simp only
  rw [b]
end
section
open Go.RowKit Go.Proofs
structure Rh where
 u:Vw
 asked:List Int
def rhAskNo (h:Rh) (n:Int):Bool:=decide (n<1)||decide (65535<n)||(n==h.u.self)||has h.u.act n||has h.asked n||decide ((64:Int)≤(h.asked.length:Int))
def rhAsk (h:Rh) (n:Int) (high:Bool):Rh×List Ho:=if rhAskNo h n=true then (h,[]) else (⟨h.u,h.asked++[n]⟩,[⟨n,3,high⟩])
def raFull (u:Vw):Bool:=decide (u.am≤(u.act.length:Int))
def rhTake (h:Rh) (n:Int) (ds:List Int):Rh×List Ho×List Int:=
 if has h.u.act n=true then (h,[],ds) else
  if raFull h.u=true then
   (⟨rJoin (rEvict h.u ds).1 n,if (rEvict h.u ds).2.2.1=true then rDrop h.asked (rEvict h.u ds).2.1 else h.asked⟩,if (rEvict h.u ds).2.2.1=true then [⟨(rEvict h.u ds).2.1,6,false⟩] else [],(rEvict h.u ds).2.2.2)
  else (⟨rJoin h.u n,h.asked⟩,[],ds)
def rhOnBye (h:Rh) (n:Int) (ds:List Int):Rh×List Int:=(⟨(rLeave h.u n true ds).1,h.asked⟩,(rLeave h.u n true ds).2.2)
def rhOnNo (h:Rh) (n:Int) (ds:List Int):Rh×List Ho×List Int:=
 if has h.u.act n=true then ((rhOnBye ⟨h.u,rDrop h.asked n⟩ n ds).1,[⟨n,6,false⟩],(rhOnBye ⟨h.u,rDrop h.asked n⟩ n ds).2) else (⟨h.u,rDrop h.asked n⟩,[],ds)
def rhOnBreak (h:Rh) (n:Int) (ds:List Int):Rh:=⟨rForget (rLeave h.u n false ds).1 n,rDrop h.asked n⟩
structure HInv (h:Hd) (g:Rh):Prop where
 like:Like h.v g.u
 asked:h.asked.Perm g.asked
 good:h.Good
 sane:h.v.Sane
 self:h.v.self∉h.asked
theorem vKnow_am (v:Vw) (n:Int) (ds:List Int):(vKnow v n ds).1.self=v.self∧(vKnow v n ds).1.am=v.am∧(vKnow v n ds).1.pm=v.pm∧(vKnow v n ds).1.act=v.act:=by
 unfold vKnow
 split<;>exact ⟨rfl,rfl,rfl,rfl⟩
theorem vLeave_am (v:Vw) (n:Int) (k:Bool) (ds:List Int):(vLeave v n k ds).1.self=v.self∧(vLeave v n k ds).1.am=v.am∧(vLeave v n k ds).1.pm=v.pm∧(vLeave v n k ds).1.act=(if has v.act n=true then sDrop v.act n else v.act):=by
 unfold vLeave
 by_cases h:has v.act n=true
 ·rw [if_pos h,if_pos h]
  split
  ·obtain ⟨a,b,c,d⟩:=vKnow_am { v with act:=sDrop v.act n } n ds
   exact ⟨a,b,c,d⟩
  ·exact ⟨rfl,rfl,rfl,rfl⟩
 ·rw [if_neg h,if_neg h]
  exact ⟨rfl,rfl,rfl,rfl⟩
theorem vJoin_am (v:Vw) (n:Int):(vJoin v n).self=v.self∧(vJoin v n).am=v.am∧(vJoin v n).pm=v.pm:=by
 unfold vJoin
 split<;>exact ⟨rfl,rfl,rfl⟩
theorem vForget_am (v:Vw) (n:Int):(vForget v n).self=v.self∧(vForget v n).am=v.am∧(vForget v n).pm=v.pm∧(vForget v n).act=v.act:=⟨rfl,rfl,rfl,rfl⟩
theorem inv_drop {h:Hd} {g:Rh} (hi:HInv h g) (n:Int):HInv ⟨h.v,sDrop h.asked n⟩ ⟨g.u,rDrop g.asked n⟩:=
 ⟨hi.like,perm_dropV hi.asked hi.good.asked.up n,⟨hi.good.v,hi.good.asked.drop n⟩,hi.sane,fun hm=>hi.self ((sDrop_mem hi.good.asked.up n _).1 hm).1⟩
theorem inv_ask {h:Hd} {g:Rh} (hi:HInv h g) (n:Int) (high:Bool):HInv (hAsk h n high).1 (rhAsk g n high).1∧(rhAsk g n high).2=(hAsk h n high).2:=by
 have hno:rhAskNo g n= !hAsks h n:=by
  unfold rhAskNo hAsks sAddOk
  rw [perm_hasV hi.like.act,perm_hasV hi.asked,hi.like.self,hi.asked.symm.length_eq]
  generalize has h.v.act n=b1
  generalize has h.asked n=b2
  rw [Bool.eq_iff_iff]
  by_cases hs:n=h.v.self
  ·simp [hs]
  ·have:(n==h.v.self)=false:=by simpa using hs
   rw [this]
   cases b1<;>cases b2<;>simp<;>omega
 unfold rhAsk hAsk
 rw [hno]
 cases hk:hAsks h n
 ·exact ⟨hi,rfl⟩
 ·refine ⟨?_,rfl⟩
  unfold hAsks at hk
  simp only [Bool.and_eq_true,Bool.not_eq_true',beq_eq_false_iff_ne] at hk
  obtain ⟨⟨⟨h1,h2⟩,h3⟩,h4⟩:=hk
  have h5:1≤n∧n≤65535∧(h.asked.length:Int)<64:=by
   unfold sAddOk at h4
   simp only [h3,Bool.false_or,Bool.and_eq_true,decide_eq_true_eq] at h4
   exact ⟨h4.1.1,h4.1.2,h4.2⟩
  refine ⟨hi.like,perm_addV hi.asked h3 h5.1 h5.2.1 h5.2.2,⟨hi.good.v,hi.good.asked.add n⟩,hi.sane,fun hm=>?_⟩
  rcases sAdd_sub hm with e | hm
  ·exact h1 e.symm
  ·exact hi.self hm
theorem join_ok {v:Vw} {n:Int} (hn:1≤n∧n≤65535) (hs:n≠v.self) (hl:(v.act.length:Int)<v.am):vJoinOk v n=true:=by
 unfold vJoinOk sAddOk
 simp only [Bool.and_eq_true,Bool.or_eq_true,decide_eq_true_eq,Bool.not_eq_true',beq_eq_false_iff_ne]
 exact ⟨.inr ⟨⟨hn.1,hn.2⟩,hl⟩,hs⟩
theorem inv_take {h:Hd} {g:Rh} (hi:HInv h g) {n:Int} (hn:1≤n∧n≤65535) (hs:n≠h.v.self) (ha:0<h.v.am) {ds:List Int} (hr:∀ x∈ds,0≤x∧x<4294967296):
  HInv (hTake h n ds).1 (rhTake g n ds).1∧(rhTake g n ds).2.1=(hTake h n ds).2.1∧(rhTake g n ds).2.2=(hTake h n ds).2.2.2∧(hTake h n ds).2.2.1=true:=by
 have hh:=perm_hasV hi.like.act n
 have hf:raFull g.u=vaFull h.v:=by unfold raFull vaFull;rw [hi.like.am,hi.like.act.symm.length_eq]
 have hns:(n==h.v.self)=false:=by simpa using hs
 unfold rhTake hTake
 rw [hh,hf]
 by_cases h1:has h.v.act n=true
 ·rw [if_pos h1,if_pos h1]
  exact ⟨hi,rfl,rfl,rfl⟩
 ·rw [if_neg h1,if_neg h1]
  by_cases h2:vaFull h.v=true
  ·have hne:h.v.act≠[]:=by
    intro e
    unfold vaFull at h2
    rw [e] at h2
    simp at h2
    omega
   have E:=vEvict_facts hi.good.v hi.sane hr hne
   obtain ⟨L,e2⟩:=like_evict hi.like hi.good.v hr
   have e3:(rEvict g.u ds).2.1=(vEvict h.v ds).2.1:=by rw [e2]
   have e4:(rEvict g.u ds).2.2.1=(vEvict h.v ds).2.2.1:=by rw [e2]
   have e5:(rEvict g.u ds).2.2.2=(vEvict h.v ds).2.2.2:=by rw [e2]
   have hG:=vEvict_good hi.good.v ds
   have hS:=vEvict_sane hi.good.v hi.sane ds
   have hev:hEv h ds=vEvict h.v ds:=by unfold hEv;rw [if_pos h2]
   have hev2:hEvs h n ds=true:=by unfold hEvs;rw [hev,E.ok,hns];rfl
   have hjo:vJoinOk (vEvict h.v ds).1 n=true:=by
    refine join_ok hn (by rw [E.self];exact hs) ?_
    have:=E.len
    have:=hi.good.v.act.fit
    rw [E.am]
    omega
   unfold hRoomV hRoomA hRoomO
   rw [if_pos h2,if_pos hev2,if_pos hev2,if_pos hev2,hev,if_pos hjo,e4,E.ok,if_pos rfl,if_pos rfl,e3,e5]
   refine ⟨⟨like_join L hG n,perm_dropV hi.asked hi.good.asked.up _,⟨vJoin_good hG n,hi.good.asked.drop _⟩,vJoin_sane hG hS n,fun hm=>?_⟩,rfl,rfl,rfl⟩
   have:=((sDrop_mem hi.good.asked.up _ _).1 hm).1
   simp only [(vJoin_am _ n).1,E.self] at this
   exact hi.self this
  ·have hev:hEv h ds=(h.v,0,false,ds):=by unfold hEv;rw [if_neg h2]
   have hev2:hEvs h n ds=false:=by unfold hEvs;rw [hev];rfl
   have hjo:vJoinOk h.v n=true:=by
    refine join_ok hn hs ?_
    unfold vaFull at h2
    simp only [decide_eq_true_eq] at h2
    omega
   unfold hRoomV hRoomA hRoomO
   rw [if_neg h2,hev2,hev]
   simp only [Bool.false_eq_true,if_false,hjo,if_true]
   refine ⟨⟨like_join hi.like hi.good.v n,hi.asked,⟨vJoin_good hi.good.v n,hi.good.asked⟩,vJoin_sane hi.good.v hi.sane n,?_⟩,by simp,by simp,by simp⟩
   rw [(vJoin_am _ n).1]
   exact hi.self
theorem take_zero {h:Hd} (hg:h.Good) {n:Int} (ha:h.v.am=0) (ds:List Int):hTake h n ds=(h,[],false,ds):=by
 have hl:h.v.act=[]:=List.eq_nil_of_length_eq_zero (by have:=hg.v.act.fit;omega)
 have h1:¬ has h.v.act n=true:=by rw [hl];simp [has]
 have h2:vaFull h.v=true:=by unfold vaFull;rw [ha];simp
 have hev:hEv h ds=(h.v,0,false,ds):=by unfold hEv vEvict;rw [if_pos h2,if_pos hl]
 have hev2:hEvs h n ds=false:=by unfold hEvs;rw [hev];rfl
 unfold hTake hRoomV
 have h3:vJoinOk h.v n=false:=by
  unfold vJoinOk sAddOk
  rw [hl,ha]
  simp [has]
 rw [if_neg h1,hev2,hev]
 simp only [Bool.false_eq_true,if_false,h3]
theorem hAsked_node {h:Hd} {g:Rh} (hi:HInv h g) {n:Int} (hn:has h.asked n=true):(1≤n∧n≤65535)∧n≠h.v.self:=by
 have hm:=(has_iff _ _).1 hn
 exact ⟨hi.good.asked.node n hm,fun e=>hi.self (e▸hm)⟩
theorem inv_onBye {h:Hd} {g:Rh} (hi:HInv h g) (n:Int) {ds:List Int} (hr:∀ x∈ds,0≤x∧x<4294967296):
  HInv (hOnBye h n ds).1 (rhOnBye g n ds).1∧(rhOnBye g n ds).2=(hOnBye h n ds).2:=by
 obtain ⟨L,e⟩:=like_leave hi.like hi.good.v n true hr
 refine ⟨⟨L,hi.asked,⟨vLeave_good hi.good.v n true ds,hi.good.asked⟩,vLeave_sane hi.good.v hi.sane n true ds,?_⟩,?_⟩
 ·unfold hOnBye
  rw [(vLeave_am h.v n true ds).1]
  exact hi.self
 ·unfold rhOnBye hOnBye
  rw [e]
theorem inv_onNo {h:Hd} {g:Rh} (hi:HInv h g) (n:Int) {ds:List Int} (hr:∀ x∈ds,0≤x∧x<4294967296):
  HInv (hOnNo h n ds).1 (rhOnNo g n ds).1∧(rhOnNo g n ds).2=(hOnNo h n ds).2:=by
 unfold rhOnNo hOnNo
 rw [perm_hasV hi.like.act]
 have hd:=inv_drop hi n
 obtain ⟨b1,b2⟩:=inv_onBye hd n hr
 split
 ·exact ⟨b1,by rw [b2]⟩
 ·exact ⟨hd,rfl⟩
theorem inv_onBreak {h:Hd} {g:Rh} (hi:HInv h g) (n:Int) {ds:List Int} (hr:∀ x∈ds,0≤x∧x<4294967296):
  HInv (hOnBreak h n) (rhOnBreak g n ds)∧(rLeave g.u n false ds).2.2=ds:=by
 have hd:=inv_drop hi n
 have h0:(vLeave h.v n false ds).1=(vLeave h.v n false []).1∧(vLeave h.v n false ds).2.2=ds:=by
  unfold vLeave
  split<;>exact ⟨rfl,rfl⟩
 obtain ⟨L,e⟩:=like_leave hi.like hi.good.v n false hr
 have hG:=vLeave_good hi.good.v n false ds
 have hS:=vLeave_sane hi.good.v hi.sane n false ds
 refine ⟨?_,by rw [e];exact h0.2⟩
 unfold hOnBreak rhOnBreak
 rw [←h0.1]
 refine ⟨like_forget L hG n,hd.asked,⟨vForget_good hG n,hd.good.asked⟩,vForget_sane hG hS n,?_⟩
 rw [(vForget_am _ n).1,(vLeave_am h.v n false ds).1]
 exact hd.self
end
section
open Go.RowKit Go.Proofs
def HI (h:Hd):Prop:=HInv h ⟨h.v,h.asked⟩
theorem HInv.hi {h:Hd} {g:Rh} (k:HInv h g):HI h:=⟨⟨rfl,List.Perm.refl _,List.Perm.refl _,rfl,rfl⟩,List.Perm.refl _,k.good,k.sane,k.self⟩
theorem sAdd_iff {l:List Int} {m n:Int} (h:sAddOk l m n=true) (x:Int):x∈sAdd l m n↔x=n∨x∈l:=by
 constructor
 ·exact fun hx=>sAdd_sub hx
 ·rintro (rfl | hx)
  ·exact sAdd_has h
  ·exact sAdd_sup hx
structure Took (h:Hd) (n:Int) (h':Hd) (o:List Ho):Prop where
 hi:HI h'
 self:h'.v.self=h.v.self
 am:h'.v.am=h.v.am
 has:n∈h'.v.act
 way:(n∈h.v.act∧h'=h∧o=[])∨
  (n∉h.v.act∧vaFull h.v=false∧o=[]∧h'.asked=h.asked∧∀ x,x∈h'.v.act↔x=n∨x∈h.v.act)∨
  (n∉h.v.act∧vaFull h.v=true∧∃ old,old∈h.v.act∧old≠n∧o=[⟨old,6,false⟩]∧h'.asked=sDrop h.asked old∧∀ x,x∈h'.v.act↔x=n∨(x∈h.v.act∧x≠old))
theorem hTake_law {h:Hd} (hi:HI h) {n:Int} (hn:1≤n∧n≤65535) (hs:n≠h.v.self) (ha:0<h.v.am) {ds:List Int} (hr:∀ x∈ds,0≤x∧x<4294967296):
  (hTake h n ds).2.2.1=true∧Took h n (hTake h n ds).1 (hTake h n ds).2.1:=by
 obtain ⟨t1, -, -, t4⟩:=inv_take hi hn hs ha hr
 refine ⟨t4,?_⟩
 have hH:=t1.hi
 have hns:(n==h.v.self)=false:=by simpa using hs
 unfold hTake at hH ⊢
 by_cases h1:has h.v.act n=true
 ·rw [if_pos h1] at hH ⊢
  have hm:=(has_iff _ _).1 h1
  exact ⟨hH,rfl,rfl,hm, .inl ⟨hm,rfl,rfl⟩⟩
 ·rw [if_neg h1] at hH ⊢
  have hm:n∉h.v.act:=fun e=>h1 ((has_iff _ _).2 e)
  by_cases h2:vaFull h.v=true
  ·have hne:h.v.act≠[]:=by
    intro e
    unfold vaFull at h2
    rw [e] at h2
    simp at h2
    omega
   have E:=vEvict_facts hi.good.v hi.sane hr hne
   have hev:hEv h ds=vEvict h.v ds:=by unfold hEv;rw [if_pos h2]
   have hev2:hEvs h n ds=true:=by unfold hEvs;rw [hev,E.ok,hns];rfl
   have hl:((vEvict h.v ds).1.act.length:Int)<(vEvict h.v ds).1.am:=by
    have:=E.len
    have:=hi.good.v.act.fit
    rw [E.am]
    omega
   have hjo:vJoinOk (vEvict h.v ds).1 n=true:=join_ok hn (by rw [E.self];exact hs) hl
   have hadd:sAddOk (vEvict h.v ds).1.act (vEvict h.v ds).1.am n=true:=by
    unfold vJoinOk at hjo
    simp only [Bool.and_eq_true] at hjo
    exact hjo.1
   unfold hRoomV hRoomA hRoomO at hH ⊢
   rw [if_pos hev2,if_pos hev2,if_pos hev2,hev,if_pos hjo] at hH ⊢
   have hact:(vJoin (vEvict h.v ds).1 n).act=sAdd (vEvict h.v ds).1.act (vEvict h.v ds).1.am n:=by unfold vJoin;rw [if_pos hjo]
   refine ⟨hH,?_,?_,?_, .inr (.inr ⟨hm,h2,(vEvict h.v ds).2.1,E.was,fun e=>hm (e▸E.was),rfl,rfl,fun x=>?_⟩)⟩
   ·simp only [(vJoin_am _ n).1,E.self]
   ·simp only [(vJoin_am _ n).2.1,E.am]
   ·simp only [hact]
    exact (sAdd_iff hadd n).2 (.inl rfl)
   ·simp only [hact]
    rw [sAdd_iff hadd,E.act,sDrop_mem hi.good.v.act.up]
  ·have hev:hEv h ds=(h.v,0,false,ds):=by unfold hEv;rw [if_neg h2]
   have hev2:hEvs h n ds=false:=by unfold hEvs;rw [hev];rfl
   have hl:(h.v.act.length:Int)<h.v.am:=by
    unfold vaFull at h2
    simp only [decide_eq_true_eq] at h2
    omega
   have hjo:vJoinOk h.v n=true:=join_ok hn hs hl
   have hadd:sAddOk h.v.act h.v.am n=true:=by
    unfold vJoinOk at hjo
    simp only [Bool.and_eq_true] at hjo
    exact hjo.1
   unfold hRoomV hRoomA hRoomO at hH ⊢
   rw [hev2,hev] at hH ⊢
   simp only [Bool.false_eq_true,if_false,hjo,if_true] at hH ⊢
   have hact:(vJoin h.v n).act=sAdd h.v.act h.v.am n:=by unfold vJoin;rw [if_pos hjo]
   refine ⟨hH,(vJoin_am _ n).1,(vJoin_am _ n).2.1,?_, .inr (.inl ⟨hm,by simpa using h2,rfl,rfl,fun x=>?_⟩)⟩
   ·simp only [hact]
    exact (sAdd_iff hadd n).2 (.inl rfl)
   ·simp only [hact]
    exact sAdd_iff hadd x
theorem hOnAsk_law {h:Hd} (hi:HI h) {n:Int} (hn:1≤n∧n≤65535) (hs:n≠h.v.self) (ha:0<h.v.am) (high:Bool) {ds:List Int} (hr:∀ x∈ds,0≤x∧x<4294967296):
  (∃ h' o,Took h n h' o∧(hOnAsk h n high ds).1=h'∧(hOnAsk h n high ds).2.1=o++[⟨n,4,false⟩]∧(n∈h.v.act∨high=true∨vaFull h.v=false))∨
  (n∉h.v.act∧vaFull h.v=true∧high=false∧(hOnAsk h n high ds).1=h∧(hOnAsk h n high ds).2.1=[⟨n,5,false⟩]):=by
 have hns:(n==h.v.self)=false:=by simpa using hs
 unfold hOnAsk
 by_cases h1:has h.v.act n=true
 ·have hm:=(has_iff _ _).1 h1
  rw [if_pos h1]
  exact .inl ⟨h,[],⟨hi,rfl,rfl,hm, .inl ⟨hm,rfl,rfl⟩⟩,rfl,rfl, .inl hm⟩
 ·have hm:n∉h.v.act:=fun e=>h1 ((has_iff _ _).2 e)
  rw [if_neg h1]
  have hmay:hMay h n high=(high|| !vaFull h.v):=by
   unfold hMay
   rw [decide_eq_true hn.1,decide_eq_true hn.2,hns]
   rfl
  rw [hmay]
  obtain ⟨t1,t2⟩:=hTake_law hi hn hs ha hr
  cases hx:(high|| !vaFull h.v)
  ·right
   simp only [Bool.or_eq_false_iff,Bool.not_eq_false'] at hx
   exact ⟨hm,hx.2,hx.1,rfl,rfl⟩
  ·left
   rw [if_pos rfl,if_pos t1]
   refine ⟨_,_,t2,rfl,rfl, .inr ?_⟩
   cases high
   ·right
    simpa using hx
   ·exact .inl rfl
theorem hAsk_law {h:Hd} (hi:HI h) (n:Int) (high:Bool):
  (hAsk h n high=(⟨h.v,sAdd h.asked 64 n⟩,[⟨n,3,high⟩])∧n∉h.v.act∧n∉h.asked∧n≠h.v.self∧(∀ x,x∈sAdd h.asked 64 n↔x=n∨x∈h.asked)∧HI ⟨h.v,sAdd h.asked 64 n⟩)∨hAsk h n high=(h,[]):=by
 have hk:=(inv_ask hi n high).1.hi
 unfold hAsk at hk ⊢
 cases ha:hAsks h n
 ·exact .inr rfl
 ·left
  rw [ha,if_pos rfl] at hk
  unfold hAsks at ha
  simp only [Bool.and_eq_true,Bool.not_eq_true',beq_eq_false_iff_ne] at ha
  exact ⟨rfl,(has_no _ _).1 ha.1.1.2,(has_no _ _).1 ha.1.2,ha.1.1.1,fun x=>sAdd_iff ha.2 x,hk⟩
theorem hOnBye_law {h:Hd} (hi:HI h) (n:Int) {ds:List Int} (hr:∀ x∈ds,0≤x∧x<4294967296):
  HI (hOnBye h n ds).1∧(hOnBye h n ds).1.v.self=h.v.self∧(hOnBye h n ds).1.v.am=h.v.am∧(hOnBye h n ds).1.asked=h.asked∧∀ x,x∈(hOnBye h n ds).1.v.act↔x∈h.v.act∧x≠n:=by
 obtain ⟨a,b,c,d⟩:=vLeave_am h.v n true ds
 refine ⟨(inv_onBye hi n hr).1.hi,a,b,rfl,fun x=>?_⟩
 unfold hOnBye
 simp only
 rw [d]
 split
 ·exact sDrop_mem hi.good.v.act.up n x
 ·rename_i hno
  exact ⟨fun hx=>⟨hx,fun e=>hno ((has_iff _ _).2 (e▸hx))⟩,fun hx=>hx.1⟩
theorem hOnNo_law {h:Hd} (hi:HI h) (n:Int) {ds:List Int} (hr:∀ x∈ds,0≤x∧x<4294967296):
  HI (hOnNo h n ds).1∧(hOnNo h n ds).1.v.self=h.v.self∧(hOnNo h n ds).1.v.am=h.v.am∧(∀ x,x∈(hOnNo h n ds).1.asked↔x∈h.asked∧x≠n)∧(∀ x,x∈(hOnNo h n ds).1.v.act↔x∈h.v.act∧x≠n)∧
   (hOnNo h n ds).2.1=(if has h.v.act n=true then [⟨n,6,false⟩] else []):=by
 have hk:=(inv_onNo hi n hr).1.hi
 have hd:=(inv_drop hi n).hi
 obtain ⟨b1,b2,b3,b4,b5⟩:=hOnBye_law hd n hr
 unfold hOnNo at hk ⊢
 by_cases h1:has h.v.act n=true
 ·rw [if_pos h1] at hk ⊢
  rw [if_pos h1]
  exact ⟨hk,b2,b3,fun x=>by simp only [b4];exact sDrop_mem hi.good.asked.up n x,b5,rfl⟩
 ·rw [if_neg h1] at hk ⊢
  rw [if_neg h1]
  exact ⟨hk,rfl,rfl,fun x=>sDrop_mem hi.good.asked.up n x,fun x=>⟨fun hx=>⟨hx,fun e=>h1 ((has_iff _ _).2 (e▸hx))⟩,fun hx=>hx.1⟩,rfl⟩
theorem hOnBreak_law {h:Hd} (hi:HI h) (n:Int):
  HI (hOnBreak h n)∧(hOnBreak h n).v.self=h.v.self∧(hOnBreak h n).v.am=h.v.am∧(∀ x,x∈(hOnBreak h n).asked↔x∈h.asked∧x≠n)∧(∀ x,x∈(hOnBreak h n).v.act↔x∈h.v.act∧x≠n):=by
 have hk:=(inv_onBreak hi n (ds:=[]) (by simp)).1.hi
 obtain ⟨a,b,c,d⟩:=vLeave_am h.v n false []
 refine ⟨hk,a,b,fun x=>sDrop_mem hi.good.asked.up n x,fun x=>?_⟩
 unfold hOnBreak
 simp only [(vForget_am _ n).2.2.2]
 rw [d]
 split
 ·exact sDrop_mem hi.good.v.act.up n x
 ·rename_i hno
  exact ⟨fun hx=>⟨hx,fun e=>hno ((has_iff _ _).2 (e▸hx))⟩,fun hx=>hx.1⟩
theorem hOnYes_law {h:Hd} (hi:HI h) (n:Int) (ha:0<h.v.am) {ds:List Int} (hr:∀ x∈ds,0≤x∧x<4294967296):
  (n∈h.asked∧Took ⟨h.v,sDrop h.asked n⟩ n (hOnYes h n ds).1 (hOnYes h n ds).2.1∧HI ⟨h.v,sDrop h.asked n⟩)∨
  (n∉h.asked∧n∈h.v.act∧hOnYes h n ds=(h,[],ds))∨(n∉h.asked∧n∉h.v.act∧hOnYes h n ds=(h,[⟨n,6,false⟩],ds)):=by
 unfold hOnYes
 by_cases h0:has h.asked n=true
 ·left
  obtain ⟨n1,n2⟩:=hAsked_node hi h0
  have hd:=(inv_drop hi n).hi
  rw [if_pos h0]
  exact ⟨(has_iff _ _).1 h0,(hTake_law hd n1 n2 ha hr).2,hd⟩
 ·right
  rw [if_neg h0]
  have hm:n∉h.asked:=fun e=>h0 ((has_iff _ _).2 e)
  by_cases h1:has h.v.act n=true
  ·rw [if_pos h1]
   exact .inl ⟨hm,(has_iff _ _).1 h1,rfl⟩
  ·rw [if_neg h1]
   exact .inr ⟨hm,fun e=>h1 ((has_iff _ _).2 e),rfl⟩
end
section
open Go.RowKit Go.Proofs
inductive PLet | lAsk | lYes | lNo | lBye | lBrk
deriving DecidableEq
namespace PairLaw
open PLet
def yts (s:Bool):List PLet→Bool
 | []=>s
 | lAsk::t=>yts s t
 | lYes::t=>yts true t
 | _::t=>yts false t
def yt (l:List PLet):Bool:=yts false l
def Quiet (w:List PLet):Prop:=lNo∉w∧lBye∉w∧lBrk∉w
structure PI (a k a' k':Prop) (w w':List PLet):Prop where
 j1:a→Quiet w'→a'∨lAsk∈w∨yt w=true
 j3b:∀ t,lBye::t <:+ w→(a→lAsk∈t∨yt t=true)∧(k→lAsk∈t)
 j3x:lBrk∉w'→∀ t,lBrk::t <:+ w→(a→lAsk∈t∨yt t=true)∧(k→lAsk∈t)
 j2:lBrk∉w'→yt w=true→k'→a∨lAsk∈w'
 j5:lBrk∉w.tail
 j6:lBrk∈w'→lYes∉w∧lNo∉w
def Both (a k a' k':Prop) (w w':List PLet):Prop:=PI a k a' k' w w'∧PI a' k' a k w' w
theorem yts_push (s:Bool) (l:List PLet) (x:PLet):yts s (l++[x])=(match x with | lAsk=>yts s l | lYes=>true | _=>false):=by
 induction l generalizing s with
 | nil=>cases x<;>rfl
 | cons y t ih=>cases y<;>exact ih _
theorem yt_push (l:List PLet) (x:PLet):yt (l++[x])=(match x with | lAsk=>yt l | lYes=>true | _=>false):=yts_push _ _ _
theorem yts_up (l:List PLet) (h:yts false l=true):yts true l=true:=by
 induction l with
 | nil=>cases h
 | cons y t ih=>cases y<;>first | exact h | exact ih h
theorem yts_or (l:List PLet) (h:yts true l=true):yts false l=true∨Quiet l:=by
 induction l with
 | nil=>exact .inr ⟨by simp,by simp,by simp⟩
 | cons y t ih=>
  cases y
  ·rcases ih h with h | ⟨h1,h2,h3⟩
   ·exact .inl h
   ·exact .inr ⟨by simpa using h1,by simpa using h2,by simpa using h3⟩
  ·exact .inl h
  all_goals exact .inl h
theorem suf_push (c x:PLet) (t w:List PLet):c::t <:+ w++[x]↔(∃ t',t=t'++[x]∧c::t' <:+ w)∨(t=[]∧c=x):=by
 rw [List.suffix_concat_iff]
 constructor
 ·rintro (h | ⟨u,h1,h2⟩)
  ·cases h
  ·cases u with
   | nil=>simp at h1;exact .inr ⟨h1.2,h1.1⟩
   | cons y u=>
    simp at h1
    obtain ⟨rfl,rfl⟩:=h1
    exact .inl ⟨u,rfl,h2⟩
 ·rintro (⟨t',rfl,h⟩ | ⟨rfl,rfl⟩)
  ·exact .inr ⟨c::t',rfl,h⟩
  ·exact .inr ⟨[],rfl,List.nil_suffix⟩
theorem suf_mem {c:PLet} {t w:List PLet} (h:c::t <:+ w):c∈w:=h.subset List.mem_cons_self
theorem tail_push (w:List PLet) (x:PLet) (h:x≠lBrk) (hj:lBrk∉w.tail):lBrk∉(w++[x]).tail:=by
 cases w with
 | nil=>simp
 | cons y t=>simp at hj ⊢;exact ⟨hj,fun e=>h e.symm⟩
theorem yt_ask (t:List PLet):yt (lAsk::t)=yt t:=rfl
theorem yt_no (t:List PLet):yt (lNo::t)=yt t:=rfl
theorem yt_bye (t:List PLet):yt (lBye::t)=yt t:=rfl
theorem yt_brk (t:List PLet):yt (lBrk::t)=yt t:=rfl
theorem yt_yes1 (t:List PLet) (h:yt t=true):yt (lYes::t)=true:=yts_up t h
theorem yt_yes2 (t:List PLet) (h:yt (lYes::t)=true):yt t=true∨Quiet t:=yts_or t h
theorem yt_yes3 (t:List PLet) (h:Quiet t):yt (lYes::t)=true:=by
 show yts true t=true
 induction t with
 | nil=>rfl
 | cons y t ih=>
  have hq:Quiet t:=⟨fun e=>h.1 (List.mem_cons_of_mem _ e),fun e=>h.2.1 (List.mem_cons_of_mem _ e),fun e=>h.2.2 (List.mem_cons_of_mem _ e)⟩
  cases y
  ·exact ih hq
  ·exact ih hq
  ·exact absurd List.mem_cons_self h.1
  ·exact absurd List.mem_cons_self h.2.1
  ·exact absurd List.mem_cons_self h.2.2
theorem yt_mem (t:List PLet) (h:yt t=true):lYes∈t:=by
 induction t with
 | nil=>cases h
 | cons y t ih=>
  cases y
  ·exact List.mem_cons_of_mem _ (ih h)
  ·exact List.mem_cons_self
  ·exact List.mem_cons_of_mem _ (ih h)
  ·exact List.mem_cons_of_mem _ (ih h)
  ·exact List.mem_cons_of_mem _ (ih h)
theorem yt_pushYes (l:List PLet):yt (l++[lYes])=true:=yt_push l lYes
theorem suf_head (c d:PLet) (t w:List PLet):c::t <:+ d::w↔(c=d∧t=w)∨c::t <:+ w:=by
 rw [List.suffix_cons_iff]
 simp
theorem q_push (w:List PLet) (x:PLet):Quiet (w++[x])↔Quiet w∧x≠lNo∧x≠lBye∧x≠lBrk:=by
 unfold Quiet
 simp only [List.mem_append,List.mem_singleton]
 grind
theorem q_head (w:List PLet) (x:PLet):Quiet (x::w)↔Quiet w∧x≠lNo∧x≠lBye∧x≠lBrk:=by
 unfold Quiet
 simp only [List.mem_cons]
 grind
theorem t_ask {a k a' k':Prop} {w w':List PLet} (h:Both a k a' k' w w') (h0:¬ a):Both a True a' k' (w++[lAsk]) w':=by
 obtain ⟨⟨j1,j3b,j3x,j2,j5,j6⟩,⟨i1,i3b,i3x,i2,i5,i6⟩⟩:=h
 refine ⟨⟨?_,?_,?_,?_,?_,?_⟩,⟨?_,?_,?_,?_,?_,?_⟩⟩
 all_goals try simp only [yt_push,suf_push,q_push,List.mem_append,List.mem_cons] at *
 all_goals grind [tail_push,Quiet,yt_yes1,yt_yes2,yt_yes3,yt_mem,yt_pushYes,suf_mem,List.mem_of_mem_tail]
theorem t_evict {a k a' k':Prop} {w w':List PLet} (h:Both a k a' k' w w'):Both False False a' k' (w++[lBye]) w':=by
 obtain ⟨⟨j1,j3b,j3x,j2,j5,j6⟩,⟨i1,i3b,i3x,i2,i5,i6⟩⟩:=h
 refine ⟨⟨?_,?_,?_,?_,?_,?_⟩,⟨?_,?_,?_,?_,?_,?_⟩⟩
 all_goals try simp only [yt_push,suf_push,q_push,List.mem_append,List.mem_cons] at *
 all_goals grind [tail_push,Quiet,yt_yes1,yt_yes2,yt_yes3,yt_mem,yt_pushYes,suf_mem,List.mem_of_mem_tail]
theorem t_asked {a k a' k':Prop} {w t:List PLet} (h:Both a k a' k' w (lAsk::t)):Both True k a' k' (w++[lYes]) t:=by
 obtain ⟨⟨j1,j3b,j3x,j2,j5,j6⟩,⟨i1,i3b,i3x,i2,i5,i6⟩⟩:=h
 refine ⟨⟨?_,?_,?_,?_,?_,?_⟩,⟨?_,?_,?_,?_,?_,?_⟩⟩
 all_goals try simp only [yt_push,suf_push,suf_head,q_push,q_head,yt_ask,List.tail_cons,List.mem_append,List.mem_cons] at *
 all_goals grind [tail_push,Quiet,yt_yes1,yt_yes2,yt_yes3,yt_mem,yt_pushYes,suf_mem,List.mem_of_mem_tail]
theorem t_askNo {a k a' k':Prop} {w t:List PLet} (h:Both a k a' k' w (lAsk::t)) (h0:¬ a):Both a k a' k' (w++[lNo]) t:=by
 obtain ⟨⟨j1,j3b,j3x,j2,j5,j6⟩,⟨i1,i3b,i3x,i2,i5,i6⟩⟩:=h
 refine ⟨⟨?_,?_,?_,?_,?_,?_⟩,⟨?_,?_,?_,?_,?_,?_⟩⟩
 all_goals try simp only [yt_push,suf_push,suf_head,q_push,q_head,yt_ask,List.tail_cons,List.mem_append,List.mem_cons] at *
 all_goals grind [tail_push,Quiet,yt_yes1,yt_yes2,yt_yes3,yt_mem,yt_pushYes,suf_mem,List.mem_of_mem_tail]
theorem t_yes {a k a' k':Prop} {w t:List PLet} (h:Both a k a' k' w (lYes::t)) (h0:k):Both True False a' k' w t:=by
 obtain ⟨⟨j1,j3b,j3x,j2,j5,j6⟩,⟨i1,i3b,i3x,i2,i5,i6⟩⟩:=h
 refine ⟨⟨?_,?_,?_,?_,?_,?_⟩,⟨?_,?_,?_,?_,?_,?_⟩⟩
 all_goals try simp only [suf_head,q_head,List.tail_cons,List.mem_cons] at *
 all_goals grind [tail_push,Quiet,yt_yes1,yt_yes2,yt_yes3,yt_mem,yt_pushYes,suf_mem,List.mem_of_mem_tail]
theorem t_yes0 {a k a' k':Prop} {w t:List PLet} (h:Both a k a' k' w (lYes::t)) (h0:a) (h1:¬ k):Both a k a' k' w t:=by
 obtain ⟨⟨j1,j3b,j3x,j2,j5,j6⟩,⟨i1,i3b,i3x,i2,i5,i6⟩⟩:=h
 refine ⟨⟨?_,?_,?_,?_,?_,?_⟩,⟨?_,?_,?_,?_,?_,?_⟩⟩
 all_goals try simp only [suf_head,q_head,List.tail_cons,List.mem_cons] at *
 all_goals grind [tail_push,Quiet,yt_yes1,yt_yes2,yt_yes3,yt_mem,yt_pushYes,suf_mem,List.mem_of_mem_tail]
theorem t_yesB {a k a' k':Prop} {w t:List PLet} (h:Both a k a' k' w (lYes::t)) (h0:¬ a) (h1:¬ k):Both a k a' k' (w++[lBye]) t:=by
 obtain ⟨⟨j1,j3b,j3x,j2,j5,j6⟩,⟨i1,i3b,i3x,i2,i5,i6⟩⟩:=h
 refine ⟨⟨?_,?_,?_,?_,?_,?_⟩,⟨?_,?_,?_,?_,?_,?_⟩⟩
 all_goals try simp only [yt_push,suf_push,suf_head,q_push,q_head,List.tail_cons,List.mem_append,List.mem_cons] at *
 all_goals grind [tail_push,Quiet,yt_yes1,yt_yes2,yt_yes3,yt_mem,yt_pushYes,suf_mem,List.mem_of_mem_tail]
theorem t_noB {a k a' k':Prop} {w t:List PLet} (h:Both a k a' k' w (lNo::t)):Both False False a' k' (w++[lBye]) t:=by
 obtain ⟨⟨j1,j3b,j3x,j2,j5,j6⟩,⟨i1,i3b,i3x,i2,i5,i6⟩⟩:=h
 refine ⟨⟨?_,?_,?_,?_,?_,?_⟩,⟨?_,?_,?_,?_,?_,?_⟩⟩
 all_goals try simp only [yt_push,suf_push,suf_head,q_push,q_head,yt_no,List.tail_cons,List.mem_append,List.mem_cons] at *
 all_goals grind [tail_push,Quiet,yt_yes1,yt_yes2,yt_yes3,yt_mem,yt_pushYes,suf_mem,List.mem_of_mem_tail]
theorem t_no {a k a' k':Prop} {w t:List PLet} (h:Both a k a' k' w (lNo::t)) (h0:¬ a):Both a False a' k' w t:=by
 obtain ⟨⟨j1,j3b,j3x,j2,j5,j6⟩,⟨i1,i3b,i3x,i2,i5,i6⟩⟩:=h
 refine ⟨⟨?_,?_,?_,?_,?_,?_⟩,⟨?_,?_,?_,?_,?_,?_⟩⟩
 all_goals try simp only [suf_head,q_head,yt_no,List.tail_cons,List.mem_cons] at *
 all_goals grind [tail_push,Quiet,yt_yes1,yt_yes2,yt_yes3,yt_mem,yt_pushYes,suf_mem,List.mem_of_mem_tail]
theorem t_bye {a k a' k':Prop} {w t:List PLet} (h:Both a k a' k' w (lBye::t)):Both False k a' k' w t:=by
 obtain ⟨⟨j1,j3b,j3x,j2,j5,j6⟩,⟨i1,i3b,i3x,i2,i5,i6⟩⟩:=h
 refine ⟨⟨?_,?_,?_,?_,?_,?_⟩,⟨?_,?_,?_,?_,?_,?_⟩⟩
 all_goals try simp only [suf_head,q_head,yt_bye,List.tail_cons,List.mem_cons] at *
 all_goals grind [tail_push,Quiet,yt_yes1,yt_yes2,yt_yes3,yt_mem,yt_pushYes,suf_mem,List.mem_of_mem_tail]
theorem t_brk {a k a' k':Prop} {w t:List PLet} (h:Both a k a' k' w (lBrk::t)):Both False False a' k' w t:=by
 obtain ⟨⟨j1,j3b,j3x,j2,j5,j6⟩,⟨i1,i3b,i3x,i2,i5,i6⟩⟩:=h
 refine ⟨⟨?_,?_,?_,?_,?_,?_⟩,⟨?_,?_,?_,?_,?_,?_⟩⟩
 all_goals try simp only [suf_head,q_head,yt_brk,List.tail_cons,List.mem_cons] at *
 all_goals grind [tail_push,Quiet,yt_yes1,yt_yes2,yt_yes3,yt_mem,yt_pushYes,suf_mem,List.mem_of_mem_tail]
theorem t_break {a k a' k':Prop}:Both a k a' k' [lBrk] [lBrk]:=by
 refine ⟨⟨?_,?_,?_,?_,?_,?_⟩,⟨?_,?_,?_,?_,?_,?_⟩⟩
 all_goals simp [Quiet,yt,yts,suf_head]
theorem t_start:Both False False False False [] []:=by
 refine ⟨⟨?_,?_,?_,?_,?_,?_⟩,⟨?_,?_,?_,?_,?_,?_⟩⟩
 all_goals simp [Quiet,yt,yts]
theorem t_rest {a k a' k':Prop} (h:Both a k a' k' [] []) (ha:a):a':=by
 rcases h.1.j1 ha ⟨by simp,by simp,by simp⟩ with h | h | h
 ·exact h
 ·simp at h
 ·cases h
end PairLaw
end
end Go.Proofs.YtelepohdfcjnfaaGreat
