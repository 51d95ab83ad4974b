/-
  The state of a walk: variables of its own, rows of its own, rows that are only read, a draw.
-/
import Derived.Test.YtelepohdfcjnfaaGreatZViewSn
namespace Go.Proofs.YtelepohdfcjnfaaGreat
open Go.RowKit Go.Proofs
structure Blk where
 b:Nat
 cs:Array Value
 ty:TypeId
structure Rw where
 a:Option Addr
 n:Nat
 cap:Nat
 cs:List Value
structure Ow where
 e:TypeId
 sz:Nat
 v:Value
 n:Nat
 xs:List Value
abbrev KpT (T:TypeId):Prop:=T=95∨T=162
abbrev NoT (T:TypeId):Prop:=T≠107∧T≠105∧¬ KpT T
structure Ori where
 o:Nat→Prop
 k:Nat→Option Obj
 nk:∀ b cs T z,k b=some (.cells cs T z)→KpT T
instance:CoeFun Ori (fun _=>Nat→Prop):=⟨Ori.o⟩
def Ori.of (f:Nat→Prop):Ori:=⟨f,fun _=>none,fun _ _ _ _ h=>nomatch h⟩
def Ori.all:Ori:=Ori.of (fun _=>True)
def Kp (O:Ori) (w:World):Prop:=∀ b x,O.k b=some x→w.heap[b]?=some x
theorem Kp.of (f:Nat→Prop) (w:World):Kp (Ori.of f) w:=fun _ _ h=>nomatch h
theorem Kp.fr {O:Ori} {S:Nat→Prop} {w w':World} (h:Kp O w) (f:Fr S w w') (hS:∀ k,S k→∃ T,Ty w k T∧¬ KpT T):Kp O w':=by
 intro b x hb
 have h1:=h b x hb
 rw [f.block b (Array.getElem?_eq_some_iff.1 h1).1 ?_]
 ·exact h1
 ·intro hs
  obtain ⟨T,⟨cs,z,h2⟩,h3⟩:=hS b hs
  rw [h1] at h2
  cases h2
  exact h3 (O.nk b cs T z hb)
structure Sta (W:World) (O:Ori) (p:Value) (ds:List Int) (B:List Blk) (L:List Ow) (R:List Rw) (w:World):Prop where
 fr':Fr (pblk p) W w∧Kp O w
 ty:(∀ x∈B,NoT x.ty)∧∀ o∈L,NoT o.e
 dr:DrawV w p ds
 blk:∀ x∈B,w.heap[x.b]?=some (.cells x.cs x.ty (0,0))∧W.heap.size≤x.b
 nd:(B.map Blk.b).Nodup
 own:∀ o∈L,w.ownsRow W.heap.size o.e o.sz o.v o.n o.xs
 nl:L.Pairwise (fun x y=>∀ k,x.v.ownBlock=some k→y.v.ownBlock≠some k)
 nbl:∀ x∈B,∀ o∈L,o.v.ownBlock≠some x.b
 row:∀ r∈R,SlA w r.a r.n r.cap r.cs
 far:∀ r∈R,r.cs≠[]→∀ q,r.a=some q→¬ pblk p q.block∧(∀ x∈B,x.b≠q.block)∧(∀ o∈L,o.v.ownBlock≠some q.block)∧(O q.block∨W.heap.size≤q.block)
theorem Sta.fr {W:World} {O:Ori} {p:Value} {ds:List Int} {B:List Blk} {L:List Ow} {R:List Rw} {w:World} (h:Sta W O p ds B L R w):Fr (pblk p) W w:=h.fr'.1
theorem Sta.kp {W:World} {O:Ori} {p:Value} {ds:List Int} {B:List Blk} {L:List Ow} {R:List Rw} {w:World} (h:Sta W O p ds B L R w):Kp O w:=h.fr'.2
def Org (R:List Rw):Ori:=Ori.of (fun k=>∃ r∈R,r.cs≠[]∧∃ q,r.a=some q∧q.block=k)
theorem SlA.keepC {T:Nat→Prop} {w w':World} {a:Option Addr} {n cap:Nat} {cs:List Value} (h:SlA w a n cap cs) (f:Fr T w w') (hT:cs≠[]→∀ q,a=some q→¬ T q.block):SlA w' a n cap cs:=
 ⟨h.le,h.max,fun j u hj=>by
  obtain ⟨b,o,rfl,hc⟩:=h.cell j u hj
  exact ⟨b,o,rfl,f.cell hc (show ¬ T b from hT (fun e=>by rw [e] at hj;simp at hj) ⟨b,o,none⟩ rfl)⟩⟩
theorem SlA.ltC {w:World} {a:Option Addr} {n cap:Nat} {cs:List Value} (h:SlA w a n cap cs) (hn:cs≠[]) {q:Addr} (hq:a=some q):q.block<w.heap.size:=by
 cases cs with
 | nil=>exact absurd rfl hn
 | cons u r=>
  obtain ⟨b,o,e,hc⟩:=h.cell 0 u rfl
  rw [hq] at e
  cases e
  exact lt_of_cell hc
theorem own_in {w:World} {base:Nat} {e:TypeId} {sz:Nat} {v:Value} {n:Nat} {xs:List Value} (h:w.ownsRow base e sz v n xs) {k:Nat} (hk:v.ownBlock=some k):base≤k∧k<w.heap.size:=by
 rcases h.2 with ⟨rfl,_⟩ | ⟨g,cap,cur,rfl,hg,hh,_⟩
 ·cases hk
 ·cases hk;exact ⟨hg,(Array.getElem?_eq_some_iff.1 hh).1⟩
theorem lt_heap {w:World} {b:Nat} {o:Obj} (h:w.heap[b]?=some o):b<w.heap.size:=(Array.getElem?_eq_some_iff.1 h).1
theorem at_ {α:Type} {l:List α} {x:α} (i:Nat) (h:l[i]?=some x):x∈l:=List.mem_of_getElem? h
theorem inN {α:Type} {l:List α}:∀ x∈([]:List α),x∈l:=fun _ h=>nomatch h
theorem inC {α:Type} {a:α} {m l:List α} (h:a∈l) (k:∀ x∈m,x∈l):∀ x∈a::m,x∈l:=fun x hx=>by
 rcases List.mem_cons.1 hx with rfl | hx
 ·exact h
 ·exact k x hx
section
variable {W:World} {O:Ori} {p:Value} {ds ds':List Int} {B:List Blk} {L L2:List Ow} {R R2 Rin:List Rw} {w w':World}
theorem Sta.lt (h:Sta W O p ds B L R w) {k:Nat} (hk:pblk p k):k<w.heap.size:=h.dr.lt k hk
theorem Sta.nb (h:Sta W O p ds B L R w) {k:Nat} (hk:w.heap.size≤k):¬ pblk p k:=fun e=>by have:=h.lt e;omega
theorem DrawV.ty {w:World} {p:Value} {ds:List Int} (h:DrawV w p ds) {k:Nat} (hk:pblk p k):Ty w k 107:=by
 rcases h with ⟨rfl,_⟩ | ⟨d,rfl,h⟩
 ·unfold pblk at hk;cases hk
 ·unfold pblk at hk;cases hk;exact h.ty
theorem DrawV.keepT {w w':World} {p:Value} {ds:List Int} {b:Nat} {T:TypeId} (h:DrawV w p ds) (f:Fr (fun k=>k=b) w w') (ht:Ty w b T) (hn:NoT T):DrawV w' p ds:=by
 rcases h with h | ⟨d,h1,h2⟩
 ·exact .inl h
 ·exact .inr ⟨d,h1,h2.keepTy f ht hn.1 hn.2.1⟩
theorem Sta.tyB (h:Sta W O p ds B L R w) {x:Blk} (hx:x∈B):Ty w x.b x.ty:=⟨_,_,(h.blk x hx).1⟩
theorem own_ty {w:World} {base:Nat} {e:TypeId} {sz n:Nat} {v:Value} {xs:List Value} (h:w.ownsRow base e sz v n xs) {k:Nat} (hk:v.ownBlock=some k):Ty w k e:=by
 rcases h.2 with ⟨rfl,_⟩ | ⟨g,cap,cur,rfl,_,hh,_⟩
 ·cases hk
 ·cases hk;exact ⟨_,_,hh⟩
theorem Sta.pB (h:Sta W O p ds B L R w) {x:Blk} (hx:x∈B):¬ pblk p x.b:=fun e=>(h.ty.1 x hx).1 ((h.tyB hx).uniq (h.dr.ty e))
theorem Sta.pL (h:Sta W O p ds B L R w) {o:Ow} (ho:o∈L) {k:Nat} (hk:o.v.ownBlock=some k):¬ pblk p k:=fun e=>(h.ty.2 o ho).1 ((own_ty (h.own o ho) hk).uniq (h.dr.ty e))
theorem Sta.size (h:Sta W O p ds B L R w):W.heap.size≤w.heap.size:=h.fr.size
theorem Sta.blkAt (h:Sta W O p ds B L R w) (i:Nat) {b:Nat} {cs:Array Value} {ty:TypeId} (hi:B[i]?=some ⟨b,cs,ty⟩):w.heap[b]?=some (.cells cs ty (0,0)):=(h.blk _ (List.mem_of_getElem? hi)).1
theorem Sta.cell (h:Sta W O p ds B L R w) (i j:Nat) {b:Nat} {cs:Array Value} {ty:TypeId} {v:Value} (hi:B[i]?=some ⟨b,cs,ty⟩) (hj:cs[j]?=some v):w.cell? ⟨b,j,none⟩=some v:=by
 rw [Lib.cell_of_heap (h.blkAt i hi)];exact hj
theorem Sta.froz (h:Sta W O p ds B L R w) (i j:Nat) {b:Nat} {cs:Array Value} {ty:TypeId} (hi:B[i]?=some ⟨b,cs,ty⟩):w.frozen? ⟨b,j,none⟩=false:=Lib.frozen_of_heap (h.blkAt i hi) j
theorem Sta.rowAt (h:Sta W O p ds B L R w) (i:Nat) {a:Option Addr} {n cap:Nat} {cs:List Value} (hi:R[i]?=some ⟨a,n,cap,cs⟩):SlA w a n cap cs:=h.row _ (List.mem_of_getElem? hi)
theorem Sta.ownAt (h:Sta W O p ds B L R w) (i:Nat) {e:TypeId} {sz n:Nat} {v:Value} {xs:List Value} (hi:L[i]?=some ⟨e,sz,v,n,xs⟩):w.ownsRow W.heap.size e sz v n xs:=h.own _ (List.mem_of_getElem? hi)
theorem Sta.call (h:Sta W O p ds B L R w) (f:Fr (pblk p) w w') (d:DrawV w' p ds'):Sta W O p ds' B L R w' where
 fr':=⟨Fr.trans h.fr f (fun _ h=> .inl h),h.kp.fr f (fun k hk=>⟨_,h.dr.ty hk,by decide⟩)⟩
 ty:=h.ty
 dr:=d
 blk:=fun x hx=>⟨blk_keep f (h.blk x hx).1 (h.pB hx),(h.blk x hx).2⟩
 nd:=h.nd
 own:=fun o ho=>own_fr (h.own o ho) f (fun _ hq=>h.pL ho hq)
 nl:=h.nl
 nbl:=h.nbl
 row:=fun r hr=>(h.row r hr).keepC f (fun hn q hq=>(h.far r hr hn q hq).1)
 far:=h.far
theorem Sta.gr (h:Sta W O p ds B L R w) (f:Gr w w'):Sta W O p ds B L R w':=h.call (gr_pblk f) (h.dr.keep f)
theorem Sta.var (h:Sta W O p ds B L R w) (f:Gr w w') {b:Nat} {cs:Array Value} {ty:TypeId} (hb:w'.heap[b]?=some (.cells cs ty (0,0))) (hn:w.heap.size≤b) (ht:NoT ty:=by decide):Sta W O p ds (⟨b,cs,ty⟩::B) L R w':=by
 have k:=h.gr f
 have hs:=h.size
 refine ⟨k.fr',⟨fun x hx=>(List.mem_cons.1 hx).elim (fun e=>e▸ht) (k.ty.1 x),k.ty.2⟩,k.dr,?_,?_,k.own,k.nl,?_,k.row,?_⟩
 ·intro x hx
  rcases List.mem_cons.1 hx with rfl | hx
  ·exact ⟨hb,Nat.le_trans hs hn⟩
  ·exact k.blk x hx
 ·rw [List.map_cons,List.nodup_cons]
  refine ⟨fun hm=>?_,k.nd⟩
  obtain ⟨x,hx,e⟩:=List.mem_map.1 hm
  have:=lt_heap (h.blk x hx).1
  simp only at e
  omega
 ·intro x hx o ho
  rcases List.mem_cons.1 hx with rfl | hx
  ·intro e
   have:=(own_in (h.own o ho) e).2
   simp only at this
   omega
  ·exact k.nbl x hx o ho
 ·intro r hr hne q hq
  obtain ⟨h1,h2,h3,h4⟩:=k.far r hr hne q hq
  refine ⟨h1,fun x hx=>?_,h3,h4⟩
  rcases List.mem_cons.1 hx with rfl | hx
  ·intro e
   have:=(h.row r hr).ltC hne hq
   simp only at e
   omega
  ·exact h2 x hx
theorem Sta.box (h:Sta W O p ds B L R w) (cs:Array Value) (ty:TypeId) {n:Nat} (hn:n=w.heap.size) (ht:NoT ty:=by decide):Sta W O p ds (⟨n,cs,ty⟩::B) L R (w.alloc (.cells cs ty)):=
 h.var ((Fr.refl _ _).alloc _) (by rw [heap_alloc_if,if_pos hn]) (Nat.le_of_eq hn.symm) ht
theorem nodup_at {B:List Blk} (h:(B.map Blk.b).Nodup) {i j:Nat} {x y:Blk} (hx:B[i]?=some x) (hy:B[j]?=some y) (hij:i≠j):x.b≠y.b:=by
 intro e
 obtain ⟨h1,h2⟩:=List.getElem?_eq_some_iff.1 hx
 obtain ⟨h3,h4⟩:=List.getElem?_eq_some_iff.1 hy
 have hp:=List.pairwise_iff_getElem.1 h
 rcases Nat.lt_or_gt_of_ne hij with hlt | hlt
 ·refine hp i j (by simpa using h1) (by simpa using h3) hlt ?_
  rw [List.getElem_map,List.getElem_map,h2,h4,e]
 ·refine hp j i (by simpa using h3) (by simpa using h1) hlt ?_
  rw [List.getElem_map,List.getElem_map,h2,h4,e]
theorem set_in {α:Type} {l:List α} {i:Nat} {y x:α} (h:x∈l.set i y):x=y∨∃ j,j≠i∧l[j]?=some x:=by
 obtain ⟨j,hj⟩:=List.getElem?_of_mem h
 rw [List.getElem?_set] at hj
 split at hj
 ·split at hj
  ·cases hj;exact .inl rfl
  ·cases hj
 ·rename_i hne
  exact .inr ⟨j,fun e=>hne e.symm,hj⟩
theorem Sta.store (h:Sta W O p ds B L R w) (i:Nat) {b:Nat} {cs cs':Array Value} {ty:TypeId} (hi:B[i]?=some ⟨b,cs,ty⟩) (f:Fr (fun k=>k=b) w w') (hb:w'.heap[b]?=some (.cells cs' ty (0,0))):Sta W O p ds (B.set i ⟨b,cs',ty⟩) L R w':=by
 have hm:=List.mem_of_getElem? hi
 have hW:=(h.blk _ hm).2
 simp only at hW
 have hmap:(B.set i ⟨b,cs',ty⟩).map Blk.b=B.map Blk.b:=by
  apply List.ext_getElem?
  intro j
  rw [List.getElem?_map,List.getElem?_map,List.getElem?_set]
  split
  ·rename_i e
   subst e
   rw [hi]
   split
   ·rfl
   ·rename_i hn
    exact absurd (List.getElem?_eq_some_iff.1 hi).1 hn
  ·rfl
 refine ⟨⟨Fr.trans h.fr f (fun k hk=> .inr (by omega)),h.kp.fr f (fun k hk=>⟨_,hk▸h.tyB hm,(h.ty.1 _ hm).2.2⟩)⟩,⟨fun x hx=>(set_in hx).elim (fun e=>by rw [e];exact h.ty.1 ⟨b,cs,ty⟩ hm) (fun ⟨j,_,hj⟩=>h.ty.1 x (List.mem_of_getElem? hj)),h.ty.2⟩,h.dr.keepT f (h.tyB hm) (h.ty.1 _ hm),?_,by rw [hmap];exact h.nd,fun o ho=>own_fr (h.own o ho) f (fun q hq e=>h.nbl _ hm o ho (by rw [hq,e])),h.nl,?_,fun r hr=>(h.row r hr).keepC f (fun hn q hq e=>(h.far r hr hn q hq).2.1 _ hm e.symm),?_⟩
 ·intro x hx
  rcases set_in hx with rfl | ⟨j,hj,hx⟩
  ·exact ⟨hb,hW⟩
  ·have hx':=List.mem_of_getElem? hx
   exact ⟨blk_keep f (h.blk x hx').1 (nodup_at h.nd hx hi hj),(h.blk x hx').2⟩
 ·intro x hx o ho
  rcases set_in hx with rfl | ⟨j,hj,hx⟩
  ·exact h.nbl _ hm o ho
  ·exact h.nbl x (List.mem_of_getElem? hx) o ho
 ·intro r hr hn q hq
  obtain ⟨h1,h2,h3,h4⟩:=h.far r hr hn q hq
  refine ⟨h1,fun x hx=>?_,h3,h4⟩
  rcases set_in hx with rfl | ⟨j,hj,hx⟩
  ·exact fun e=>h2 _ hm e
  ·exact h2 x (List.mem_of_getElem? hx)
theorem Sta.setC (h:Sta W O p ds B L R w) (i:Nat) {b:Nat} {cs:Array Value} {ty:TypeId} (hi:B[i]?=some ⟨b,cs,ty⟩) (j:Nat) (v:Value) (hj:j+1≤cs.size):Sta W O p ds (B.set i ⟨b,putAt cs j #[v],ty⟩) L R (w.setCell ⟨b,j,none⟩ v):=
 h.store i hi (fr_setCells b [v] j w) (blk_put (vs:= #[v]) (h.blkAt i hi) hj)
theorem Sta.enter (h:Sta W O p ds B L R w) (Rin:List Rw) (hin:∀ r∈Rin,r∈R):Sta w (Org Rin) p ds [] [] Rin w:=
 ⟨⟨Fr.refl _ _,Kp.of _ _⟩,⟨fun _ hx=>(by cases hx),fun _ hx=>(by cases hx)⟩,h.dr,fun _ hx=>(by cases hx),by simp,fun _ hx=>(by cases hx),List.Pairwise.nil,fun _ hx=>(by cases hx),fun r hr=>h.row r (hin r hr),
  fun r hr hn q hq=>⟨(h.far r (hin r hr) hn q hq).1,fun _ hx=>(by cases hx),fun _ hx=>(by cases hx), .inl ⟨r,hr,hn,q,hq,rfl⟩⟩⟩
theorem pn_no (k:Nat):¬ pblk (.pointer none) k:=fun h=>by unfold pblk at h;cases h
theorem Sta.leave (h:Sta W O p ds B L R w) (hin:∀ r∈Rin,r∈R) (k:Sta w (Org Rin) p ds' [] L2 R2 w'):Sta W O p ds' B (L2++L) (R2++R) w':=by
 have c:=h.call k.fr k.dr
 have hs:=h.size
 refine ⟨c.fr',⟨c.ty.1,fun o ho=>(List.mem_append.1 ho).elim (k.ty.2 o) (c.ty.2 o)⟩,c.dr,c.blk,c.nd,?_,?_,?_,?_,?_⟩
 ·intro o ho
  rcases List.mem_append.1 ho with ho | ho
  ·exact own_base (k.own o ho) hs
  ·exact c.own o ho
 ·refine List.pairwise_append.2 ⟨k.nl,c.nl,fun x hx y hy q hq e=>?_⟩
  have h1:=(own_in (k.own x hx) hq).1
  have h2:=(own_in (h.own y hy) e).2
  omega
 ·intro x hx o ho
  rcases List.mem_append.1 ho with ho | ho
  ·intro e
   have h1:=(own_in (k.own o ho) e).1
   have h2:=lt_heap (h.blk x hx).1
   omega
  ·exact c.nbl x hx o ho
 ·intro r hr
  rcases List.mem_append.1 hr with hr | hr
  ·exact k.row r hr
  ·exact c.row r hr
 ·intro r hr hn q hq
  rcases List.mem_append.1 hr with hr | hr
  ·obtain ⟨h1, -, h3,h4⟩:=k.far r hr hn q hq
   rcases h4 with ⟨r0,hr0,hn0,q0,hq0,e0⟩ | h4
   ·obtain ⟨g1,g2,g3,g4⟩:=h.far r0 (hin r0 hr0) hn0 q0 hq0
    rw [e0] at g1 g2 g3 g4
    refine ⟨h1,g2,fun o ho=>?_,g4⟩
    rcases List.mem_append.1 ho with ho | ho
    ·exact h3 o ho
    ·exact g3 o ho
   ·refine ⟨h1,fun x hx e=>?_,fun o ho=>?_, .inr (by omega)⟩
    ·have:=lt_heap (h.blk x hx).1;omega
    ·rcases List.mem_append.1 ho with ho | ho
     ·exact h3 o ho
     ·intro e
      have:=(own_in (h.own o ho) e).2
      omega
  ·obtain ⟨h1,h2,h3,h4⟩:=c.far r hr hn q hq
   refine ⟨h1,h2,fun o ho=>?_,h4⟩
   rcases List.mem_append.1 ho with ho | ho
   ·intro e
    have g1:=(own_in (k.own o ho) e).1
    have g2:=(h.row r hr).ltC hn hq
    omega
   ·exact h3 o ho
theorem Sta.out (h:Sta W O p ds B L R w) (hL:L2.Sublist L) (hR:∀ r∈R2,r∈R):Sta W O p ds [] L2 R2 w:=
 ⟨h.fr',⟨fun _ hx=>(by cases hx),fun o ho=>h.ty.2 o (hL.subset ho)⟩,h.dr,fun _ hx=>(by cases hx),by simp,fun o ho=>h.own o (hL.subset ho),h.nl.sublist hL,fun _ hx=>(by cases hx),fun r hr=>h.row r (hR r hr),
  fun r hr hn q hq=>by
   obtain ⟨h1, -, h3,h4⟩:=h.far r (hR r hr) hn q hq
   exact ⟨h1,fun _ hx=>(by cases hx),fun o ho=>h3 o (hL.subset ho),h4⟩⟩
theorem Sta.less (h:Sta W O p ds B L R w) (hL:L2.Sublist L) (hR:∀ r∈R2,r∈R):Sta W O p ds B L2 R2 w:=
 ⟨h.fr',⟨h.ty.1,fun o ho=>h.ty.2 o (hL.subset ho)⟩,h.dr,h.blk,h.nd,fun o ho=>h.own o (hL.subset ho),h.nl.sublist hL,fun x hx o ho=>h.nbl x hx o (hL.subset ho),fun r hr=>h.row r (hR r hr),
  fun r hr hn q hq=>by
   obtain ⟨h1,h2,h3,h4⟩:=h.far r (hR r hr) hn q hq
   exact ⟨h1,h2,fun o ho=>h3 o (hL.subset ho),h4⟩⟩
theorem Sta.permB {B2:List Blk} (h:Sta W O p ds B L R w) (hp:B2.Perm B):Sta W O p ds B2 L R w:=
 ⟨h.fr',⟨fun x hx=>h.ty.1 x (hp.mem_iff.1 hx),h.ty.2⟩,h.dr,fun x hx=>h.blk x (hp.mem_iff.1 hx),(hp.map Blk.b).nodup_iff.2 h.nd,h.own,h.nl,fun x hx=>h.nbl x (hp.mem_iff.1 hx),h.row,fun r hr hn q hq=>by
  obtain ⟨h1,h2,h3,h4⟩:=h.far r hr hn q hq
  exact ⟨h1,fun x hx=>h2 x (hp.mem_iff.1 hx),h3,h4⟩⟩
theorem Sta.swap {x y:Blk} (h:Sta W O p ds (x::y::B) L R w):Sta W O p ds (y::x::B) L R w:=h.permB (List.Perm.swap _ _ _)
theorem Sta.ownNew (h:Sta W O p ds B L R w) (f:Gr w w') {b n sz:Nat} {e:TypeId} {xs:List Value} (hb:w'.heap[b]?=some (.cells xs.toArray e (0,0))) (hn:w.heap.size≤b) (hl:xs.length=n * sz) (hm:n≤maxLen) (ht:NoT e:=by decide):
  Sta W O p ds B (⟨e,sz, .slice (some ⟨b,0,none⟩) n n,n,xs⟩::L) R w':=by
 have k:=h.gr f
 have hs:=h.size
 refine ⟨k.fr',⟨k.ty.1,fun o ho=>(List.mem_cons.1 ho).elim (fun e=>by rw [e];exact ht) (k.ty.2 o)⟩,k.dr,k.blk,k.nd,?_,List.pairwise_cons.2 ⟨fun y hy q hq e=>?_,k.nl⟩,?_,k.row,?_⟩
 ·intro o ho
  rcases List.mem_cons.1 ho with rfl | ho
  ·exact ⟨hl, .inr ⟨b,n,xs.toArray,rfl,by omega,hb,Nat.le_refl _,hm,by simpa using hl,by simp [←hl]⟩⟩
  ·exact k.own o ho
 ·have h2:=(own_in (h.own y hy) e).2
  injection hq with hq
  simp only at hq
  omega
 ·intro x hx o ho
  rcases List.mem_cons.1 ho with rfl | ho
  ·intro e
   injection e with e
   simp only at e
   have:=lt_heap (h.blk x hx).1
   omega
  ·exact k.nbl x hx o ho
 ·intro r hr hne q hq
  obtain ⟨h1,h2,h3,h4⟩:=k.far r hr hne q hq
  refine ⟨h1,h2,fun o ho=>?_,h4⟩
  rcases List.mem_cons.1 ho with rfl | ho
  ·intro e
   have:=(h.row r hr).ltC hne hq
   injection e with e
   simp only at e
   omega
  ·exact h3 o ho
theorem Sta.ownNil (h:Sta W O p ds B L R w) (e:TypeId) (sz:Nat) (ht:NoT e:=by decide):Sta W O p ds B (⟨e,sz, .slice none 0 0,0,[]⟩::L) R w:=
 ⟨h.fr',⟨h.ty.1,fun o ho=>(List.mem_cons.1 ho).elim (fun e=>by rw [e];exact ht) (h.ty.2 o)⟩,h.dr,h.blk,h.nd,fun o ho=>by
  rcases List.mem_cons.1 ho with rfl | ho
  ·exact World.ownsRow_nil _ _ _ _
  ·exact h.own o ho,List.pairwise_cons.2 ⟨fun _ _ q hq=>(by simp only [Value.ownBlock] at hq;cases hq),h.nl⟩,fun x hx o ho=>by
  rcases List.mem_cons.1 ho with rfl | ho
  ·exact fun e=>nomatch e
  ·exact h.nbl x hx o ho,h.row,fun r hr hn q hq=>by
  obtain ⟨h1,h2,h3,h4⟩:=h.far r hr hn q hq
  refine ⟨h1,h2,fun o ho=>?_,h4⟩
  rcases List.mem_cons.1 ho with rfl | ho
  ·exact fun e=>nomatch e
  ·exact h3 o ho⟩
theorem pair_at {L:List Ow} (h:L.Pairwise (fun x y=>∀ k,x.v.ownBlock=some k→y.v.ownBlock≠some k)) {i j:Nat} {x y:Ow} (hx:L[i]?=some x) (hy:L[j]?=some y) (hij:i≠j):∀ k,x.v.ownBlock=some k→y.v.ownBlock≠some k:=by
 obtain ⟨h1,rfl⟩:=List.getElem?_eq_some_iff.1 hx
 obtain ⟨h3,rfl⟩:=List.getElem?_eq_some_iff.1 hy
 rcases Nat.lt_or_gt_of_ne hij with hlt | hlt
 ·exact List.pairwise_iff_getElem.1 h i j h1 h3 hlt
 ·exact fun k hk e=>List.pairwise_iff_getElem.1 h j i h3 h1 hlt k e hk
theorem Sta.grow (h:Sta W O p ds B L R w) (i:Nat) {e:TypeId} {sz n n':Nat} {v v':Value} {xs xs':List Value} (hi:L[i]?=some ⟨e,sz,v,n,xs⟩) (g:w.grownBy w' v.ownBlock) (ho:w'.ownsRow W.heap.size e sz v' n' xs') (hv:v'.ownBlock=v.ownBlock∨v'.ownBlock=some w.heap.size):
  Sta W O p ds B (L.set i ⟨e,sz,v',n',xs'⟩) R w':=by
 have hm:=List.mem_of_getElem? hi
 have hs:=h.size
 have f:Fr (fun k=>v.ownBlock=some k) w w':=Fr.grown (Fr.refl _ _) g (fun q hq=> .inl hq)
 have hW:∀ k,v.ownBlock=some k→W.heap.size≤k:=fun k hk=>(own_in (h.own _ hm) hk).1
 have hcase:∀ k,v'.ownBlock=some k→v.ownBlock=some k∨w.heap.size≤k:=fun k hk=>by
  rcases hv with e | e
  ·exact .inl (by rw [←e];exact hk)
  ·rw [e] at hk;cases hk;exact .inr (Nat.le_refl _)
 refine ⟨⟨Fr.trans h.fr f (fun k hk=> .inr (hW k hk)),h.kp.fr f (fun k hk=>⟨_,own_ty (h.own _ hm) hk,(h.ty.2 _ hm).2.2⟩)⟩,⟨h.ty.1,fun x hx=>(set_in hx).elim (fun e9=>by rw [e9];exact h.ty.2 ⟨e,sz,v,n,xs⟩ hm) (fun ⟨j,_,hj⟩=>h.ty.2 x (List.mem_of_getElem? hj))⟩,?_,fun x hx=>⟨blk_keep f (h.blk x hx).1 (fun e=>h.nbl x hx _ hm e),(h.blk x hx).2⟩,h.nd,?_,?_,?_,fun r hr=>(h.row r hr).keepC f (fun hn q hq e=>(h.far r hr hn q hq).2.2.1 _ hm e),?_⟩
 ·rcases hb:v.ownBlock with _ | b
  ·exact h.dr.keep (f.mono (fun k _ e=>by rw [hb] at e;cases e))
  ·exact h.dr.keepT (b:=b) (f.mono (fun k _ e=>by rw [hb] at e;cases e;rfl)) (own_ty (h.own _ hm) hb) (h.ty.2 _ hm)
 ·intro o ho'
  rcases set_in ho' with rfl | ⟨j,hj,hx⟩
  ·exact ho
  ·exact own_fr (h.own o (List.mem_of_getElem? hx)) f (fun q hq e=>pair_at h.nl hx hi hj q hq e)
 ·rw [List.pairwise_iff_getElem]
  intro a b ha hb hab k hk e
  rw [List.getElem_set] at hk e
  rw [List.length_set] at ha hb
  split at hk
  ·split at e
   ·omega
   ·rename_i h1 h2
    have hy:L[b]?=some L[b]:=List.getElem?_eq_getElem hb
    rcases hcase k hk with c | c
    ·exact pair_at h.nl hi hy h2 k c e
    ·have:=(own_in (h.own _ (List.mem_of_getElem? hy)) e).2
     omega
  ·split at e
   ·rename_i h1 h2
    have hy:L[a]?=some L[a]:=List.getElem?_eq_getElem ha
    rcases hcase k e with c | c
    ·exact pair_at h.nl hi hy h1 k c hk
    ·have:=(own_in (h.own _ (List.mem_of_getElem? hy)) hk).2
     omega
   ·exact List.pairwise_iff_getElem.1 h.nl a b ha hb hab k hk e
 ·intro x hx o ho'
  rcases set_in ho' with rfl | ⟨j,hj,hy⟩
  ·intro e
   rcases hcase _ e with c | c
   ·exact h.nbl x hx _ hm c
   ·have:=lt_heap (h.blk x hx).1;omega
  ·exact h.nbl x hx o (List.mem_of_getElem? hy)
 ·intro r hr hn q hq
  obtain ⟨h1,h2,h3,h4⟩:=h.far r hr hn q hq
  refine ⟨h1,h2,fun o ho'=>?_,h4⟩
  rcases set_in ho' with rfl | ⟨j,hj,hy⟩
  ·intro e
   rcases hcase _ e with c | c
   ·exact h3 _ hm c
   ·have:=(h.row r hr).ltC hn hq;omega
  ·exact h3 o (List.mem_of_getElem? hy)
theorem Sta.asRow (h:Sta W O p ds B L R w) (i:Nat) {e:TypeId} {sz n:Nat} {v:Value} {xs:List Value} (hi:L[i]?=some ⟨e,sz,v,n,xs⟩):
  ∃ a cap,v= .slice a n cap∧Sta W O p ds B (L.eraseIdx i) (⟨a,n,cap,xs⟩::R) w:=by
 have hm:=List.mem_of_getElem? hi
 obtain ⟨a,cap,hv,hs,hb,hl⟩:=SlA.of_own (h.own _ hm)
 simp only at hv
 subst hv
 refine ⟨a,cap,rfl,h.fr',⟨h.ty.1,fun o ho=>h.ty.2 o (List.mem_of_mem_eraseIdx ho)⟩,h.dr,h.blk,h.nd,fun o ho=>h.own o (List.mem_of_mem_eraseIdx ho),h.nl.sublist (List.eraseIdx_sublist _ _),fun x hx o ho=>h.nbl x hx o (List.mem_of_mem_eraseIdx ho),?_,?_⟩
 ·intro r hr
  rcases List.mem_cons.1 hr with rfl | hr
  ·exact hs
  ·exact h.row r hr
 ·intro r hr hn q hq
  rcases List.mem_cons.1 hr with rfl | hr
  ·simp only at hq hn
   subst hq
   have hob:(Value.slice (some q) n cap).ownBlock=some q.block:=rfl
   have h1:=(own_in (h.own _ hm) hob).1
   refine ⟨h.pL hm hob,fun x hx e=>h.nbl x hx _ hm (by rw [e];exact hob),fun o ho=>?_, .inr h1⟩
   obtain ⟨j,hj,hne⟩:=List.mem_eraseIdx_iff_getElem?.1 ho
   exact pair_at h.nl hi hne (fun e=>hj e.symm) q.block hob
  ·obtain ⟨h1,h2,h3,h4⟩:=h.far r hr hn q hq
   exact ⟨h1,h2,fun o ho=>h3 o (List.mem_of_mem_eraseIdx ho),h4⟩
end
theorem rangeIn {w:World} {b:Nat} {cs:Array Value} {e:TypeId} {fz:Nat×Nat} {vs:List Value} (h:w.heap[b]?=some (.cells cs e fz)) (o:Nat) (hl:(cs.toList.drop o).take vs.length=vs):w.rangeAt b o vs:=by
 intro j v hj
 rw [Lib.cell_of_heap h]
 rw [←hl,List.getElem?_take] at hj
 split at hj
 ·rw [List.getElem?_drop] at hj
  simpa using hj
 ·cases hj
theorem wpQuiet_loadH {ops:Array Oper} {C:World→Prop} {Q:Act→Prop} {rest:List Oper} {o:Oper} {a:Act} (hg:o.guard=none) (ty:TypeId) (x:Operand) (ho:o.op= .load ty x)
  (b off:Nat) (hx:a.eval x= .pointer (some ⟨b,off,none⟩)) (cs:List Value) (d:TypeDesc) (hC:∀ w,C w→w.rangeAt b off cs)
  (hu:Tryz.prog.underlying ty=some d) (hd:d.isRow=true) (hi:(Tryz.prog.info? ty).map (·.size)=some cs.length)
  (h:wpQuiet Tryz.prog ops C Q rest (a.put o.dst (.agg cs.toArray))):wpQuiet Tryz.prog ops C Q (o::rest) a:=by
 have hw:Region.wanted o (yielded ops a.tmps)=true:=by unfold Region.wanted;rw [hg]
 unfold wpQuiet
 rw [if_pos hw]
 refine ⟨.agg cs.toArray,fun w hw'=>?_,h⟩
 have h1:=run_loadVar_mid (P:=Tryz.prog) w b off ty cs d (hC w hw') hu hd hi
 have h2:(execOp a.eval o).run Tryz.prog w= .ok (.value (.agg cs.toArray)) w:=by
  unfold execOp
  simp only [ho,hx,Instr.loadAt,Instr.sureAddr,Sem.run_bind,Sem.run_pure,Result.andThen_ok,h1]
 unfold Oper.quietAt Oper.quietUpon
 rw [h2]
 exact ⟨rfl,rfl⟩
section
variable {W:World} {O:Ori} {p:Value} {ds ds':List Int} {B:List Blk} {L L2:List Ow} {R R2 Rin:List Rw} {w w':World}
theorem Sta.initD {W:World} {p:Value} {ds:List Int} {R:List Rw} (hd:DrawV W p ds) (hr:∀ r∈R,SlA W r.a r.n r.cap r.cs∧(r.cs≠[]→∀ q,r.a=some q→¬ pblk p q.block)):Sta W Ori.all p ds [] [] R W:=
 ⟨⟨Fr.refl _ _,Kp.of _ _⟩,⟨fun _ hx=>(by cases hx),fun _ hx=>(by cases hx)⟩,hd,fun _ hx=>(by cases hx),by simp,fun _ hx=>(by cases hx),List.Pairwise.nil,fun _ hx=>(by cases hx),fun r h=>(hr r h).1,fun r h hn q hq=>⟨(hr r h).2 hn q hq,fun _ hx=>(by cases hx),fun _ hx=>(by cases hx), .inl trivial⟩⟩
theorem Sta.initR {W:World} {R:List Rw} (hr:∀ r∈R,SlA W r.a r.n r.cap r.cs):Sta W Ori.all (.pointer none) [] [] [] R W:=Sta.initD (DrawV.nil W) fun r h=>⟨hr r h,fun _ _ _=>pn_no _⟩
abbrev vrows (v:Vw) (y:VwP) (R:List Rw):List Rw:=⟨y.aa,v.act.length,y.ac,ints v.act⟩::⟨y.pa,v.pas.length,y.pc,ints v.pas⟩::R
theorem ints_ne {l:List Int} (h:l≠[]):ints l≠[]:=fun e=>h (by simpa using e)
theorem Sta.vw (h:Sta W O p ds B L R w) {v:Vw} {y:VwP} (h1:(⟨y.aa,v.act.length,y.ac,ints v.act⟩:Rw)∈R) (h2:(⟨y.pa,v.pas.length,y.pc,ints v.pas⟩:Rw)∈R) (g:v.Good):VwAt w v y:=⟨h.row _ h1,h.row _ h2,g⟩
theorem Sta.sep (h:Sta W O p ds B L R w) {v:Vw} {y:VwP} (h1:(⟨y.aa,v.act.length,y.ac,ints v.act⟩:Rw)∈R) (h2:(⟨y.pa,v.pas.length,y.pc,ints v.pas⟩:Rw)∈R):VwSep p v y:=
 ⟨fun hn q hq=>(h.far _ h1 (ints_ne hn) q hq).1,fun hn q hq=>(h.far _ h2 (ints_ne hn) q hq).1⟩
theorem Sta.rows (h:Sta W O p ds B L R w) (f:Fr (pblk p) w w') (d:DrawV w' p ds') (hr:∀ r∈R2,SlA w' r.a r.n r.cap r.cs∧(r.cs≠[]→∀ q,r.a=some q→(∃ r0∈R,r0.cs≠[]∧r0.a=some q)∨w.heap.size≤q.block)):Sta W O p ds' B L (R2++R) w':=by
 refine h.leave (L2:=[]) (Rin:=R) (fun _ h=>h) ⟨⟨f,Kp.of _ _⟩,⟨fun _ hx=>(by cases hx),fun _ hx=>(by cases hx)⟩,d,fun _ hx=>(by cases hx),by simp,fun _ hx=>(by cases hx),List.Pairwise.nil,fun _ hx=>(by cases hx),fun r h=>(hr r h).1,fun r h2 hn q hq=>?_⟩
 rcases (hr r h2).2 hn q hq with ⟨r0,hr0,hn0,e0⟩ | h4
 ·exact ⟨(h.far r0 hr0 hn0 q e0).1,fun _ hx=>(by cases hx),fun _ hx=>(by cases hx), .inl ⟨r0,hr0,hn0,q,e0,rfl⟩⟩
 ·exact ⟨h.nb h4,fun _ hx=>(by cases hx),fun _ hx=>(by cases hx), .inr h4⟩
theorem Sta.from_ {v v':Vw} {y y':VwP} (h1:(⟨y.aa,v.act.length,y.ac,ints v.act⟩:Rw)∈R) (h2:(⟨y.pa,v.pas.length,y.pc,ints v.pas⟩:Rw)∈R) (k:VwAt w' v' y') (f:VwFrom w v y v' y'):
  ∀ r∈vrows v' y' [],SlA w' r.a r.n r.cap r.cs∧(r.cs≠[]→∀ q,r.a=some q→(∃ r0∈R,r0.cs≠[]∧r0.a=some q)∨w.heap.size≤q.block):=by
 intro r hr
 rcases List.mem_cons.1 hr with rfl | hr
 ·refine ⟨k.act,fun hn q hq=>?_⟩
  rcases f.1 q hq with ⟨a,b⟩ | a
  ·exact .inl ⟨_,h1,by rw [←b];exact hn,a⟩
  ·exact .inr a
 ·rcases List.mem_cons.1 hr with rfl | hr
  ·refine ⟨k.pas,fun hn q hq=>?_⟩
   rcases f.2 q hq with ⟨a,b⟩ | a
   ·exact .inl ⟨_,h2,by rw [←b];exact hn,a⟩
   ·exact .inr a
  ·cases hr
theorem Sta.callV (h:Sta W O p ds B L R w) {v v':Vw} {y:VwP} {r:Array Value→Value} {e:Ending} (h1:(⟨y.aa,v.act.length,y.ac,ints v.act⟩:Rw)∈R) (h2:(⟨y.pa,v.pas.length,y.pc,ints v.pas⟩:Rw)∈R) (k:VEnd p v v' ds' r w y e w'):
  ∃ y',e= .returned (r (v'.arr y'))∧Sta W O p ds' B L (vrows v' y' R) w'∧v'.Good:=by
 obtain ⟨y',rfl,ha,hd,hf,hv⟩:=k
 exact ⟨y',rfl,h.rows hf hd (Sta.from_ h1 h2 ha hv),ha.good⟩
theorem Sta.callV0 (h:Sta W O p ds B L R w) {v v':Vw} {y:VwP} {r:Array Value→Value} {e:Ending} (h1:(⟨y.aa,v.act.length,y.ac,ints v.act⟩:Rw)∈R) (h2:(⟨y.pa,v.pas.length,y.pc,ints v.pas⟩:Rw)∈R) (k:VEnd0 v v' r w y e w'):
  ∃ y',e= .returned (r (v'.arr y'))∧Sta W O p ds B L (vrows v' y' R) w'∧v'.Good:=by
 obtain ⟨y',rfl,ha,hf,hv⟩:=k
 exact ⟨y',rfl,h.rows (gr_pblk hf) (h.dr.keep hf) (Sta.from_ h1 h2 ha hv),ha.good⟩
theorem Sta.callVN (h:Sta W O p ds B L R w) {v v':Vw} {y:VwP} {r:Array Value→Value} {e:Ending} (h1:(⟨y.aa,v.act.length,y.ac,ints v.act⟩:Rw)∈R) (h2:(⟨y.pa,v.pas.length,y.pc,ints v.pas⟩:Rw)∈R) (k:VEnd (.pointer none) v v' ds' r w y e w'):
  ∃ y',e= .returned (r (v'.arr y'))∧Sta W O p ds B L (vrows v' y' R) w'∧v'.Good:=by
 obtain ⟨y',rfl,ha,hd,hf,hv⟩:=k
 have hg:Gr w w':=hf.mono (fun k _ h=>absurd h (pn_no k))
 exact ⟨y',rfl,h.rows (gr_pblk hg) (h.dr.keep hg) (Sta.from_ h1 h2 ha hv),ha.good⟩
theorem Sta.drP (h:Sta W O p ds B L R w) {pe:Value} {de:List Int} (hp:(pe=p∧de=ds)∨(pe= .pointer none∧de=[])):DrawV w pe de:=by
 rcases hp with ⟨rfl,rfl⟩ | ⟨rfl,rfl⟩
 ·exact h.dr
 ·exact DrawV.nil w
theorem Sta.sepP (h:Sta W O p ds B L R w) {pe:Value} (hp:pe=p∨pe= .pointer none) {v:Vw} {y:VwP} (h1:(⟨y.aa,v.act.length,y.ac,ints v.act⟩:Rw)∈R) (h2:(⟨y.pa,v.pas.length,y.pc,ints v.pas⟩:Rw)∈R):VwSep pe v y:=by
 rcases hp with rfl | rfl
 ·exact h.sep h1 h2
 ·exact ⟨fun _ _ _=>pn_no _,fun _ _ _=>pn_no _⟩
theorem Sta.callVP (h:Sta W O p ds B L R w) {pe:Value} {D:List Int} (hp:(pe=p∧D=ds')∨(pe= .pointer none∧D=ds)) {v v':Vw} {y:VwP} {r:Array Value→Value} {e:Ending} (h1:(⟨y.aa,v.act.length,y.ac,ints v.act⟩:Rw)∈R) (h2:(⟨y.pa,v.pas.length,y.pc,ints v.pas⟩:Rw)∈R) (k:VEnd pe v v' ds' r w y e w'):
  ∃ y',e= .returned (r (v'.arr y'))∧Sta W O p D B L (vrows v' y' R) w'∧v'.Good:=by
 rcases hp with ⟨rfl,rfl⟩ | ⟨rfl,rfl⟩
 ·exact h.callV h1 h2 k
 ·exact h.callVN h1 h2 k
theorem Sta.callS (h:Sta W O p ds B L R w) {a0:Option Addr} {c0:Nat} {l0 l:List Int} {m:Int} {b:Bool} {e:Ending} (h1:(⟨a0,l0.length,c0,ints l0⟩:Rw)∈R) (k:SetOut3 a0 l0 l m b w e w'):
  ∃ a cap,e= .returned (.tuple #[setV a l.length cap m, .bool b])∧Sta W O p ds B L (⟨a,l.length,cap,ints l⟩::R) w':=by
 obtain ⟨a,cap,rfl,hs,hf,hv⟩:=k
 refine ⟨a,cap,rfl,h.rows (R2:=[⟨a,l.length,cap,ints l⟩]) (gr_pblk hf) (h.dr.keep hf) ?_⟩
 intro r hr
 rcases List.mem_cons.1 hr with rfl | hr
 ·refine ⟨hs,fun hn q hq=>?_⟩
  rcases hv q hq with ⟨a,b⟩ | a
  ·exact .inl ⟨_,h1,by rw [←b];exact hn,a⟩
  ·exact .inr a
 ·cases hr
end
end Go.Proofs.YtelepohdfcjnfaaGreat
