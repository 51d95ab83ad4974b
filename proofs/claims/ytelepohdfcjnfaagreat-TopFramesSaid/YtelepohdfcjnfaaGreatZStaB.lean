/-
  The state of a walk: a row of its own grows.
-/
import Derived.Test.YtelepohdfcjnfaaGreatZSta
import Derived.Maps.AppendAt
import Derived.Test.YtelepohdfcjnfaaGreatZOvSpec
import Derived.Test.YtelepohdfcjnfaaGreatZMixStart
namespace Go.Proofs.YtelepohdfcjnfaaGreat
section
open Go.RowKit Go.Proofs
theorem sla_add {w:World} {ad:Addr} {n c:Nat} {xs:List Value} (hs:SlA w (some ad) n c xs):∀ j u,xs[j]?=some u→w.cell? (ad.add j)=some u:=by
 intro j u hj
 obtain ⟨b,o,e2,hc⟩:=hs.cell j u hj
 injection e2 with ha
 rw [ha]
 unfold Addr.add
 split
 ·rename_i h0
  subst h0
  simpa using hc
 ·exact hc
theorem own_add {w:World} {base:Nat} {e:TypeId} {sz m c:Nat} {ad:Addr} {xs:List Value} (h:w.ownsRow base e sz (.slice (some ad) m c) m xs):∀ j u,xs[j]?=some u→w.cell? (ad.add j)=some u:=by
 obtain ⟨a,cap,hv,hs,hb, -⟩:=SlA.of_own h
 injection hv with ha h2 h3
 subst ha
 exact sla_add hs
section
variable {W:World} {O:Ori} {p:Value} {D:List Int} {B:List Blk} {L:List Ow} {R:List Rw} {w w':World}
theorem wpList_growT {ops:Array Oper} {rest:List Oper} {o:Oper} {A:Act} {Q:Exit→Act→World→Prop} (hgd:o.guard=none) (s x:Operand) (t e:TypeId) (sz bytes:Nat) (z0:Value)
  (hu:Tryz.prog.underlying t=some (.slice e)) (hinf:(Tryz.prog.info? e).map (fun i=>(i.zero,i.size,i.bytes))=some (some z0,sz,bytes)) (hzs:z0.cells.size=sz) (hsz:0<sz) (hby:bytes≤100000)
  (ho:o.op= .call { callee:= .builtin .append,args:= #[s,x],argTypes:= #[t,t] }) (ST:Sta W O p D B L R w) (i:Nat) {v:Value} {n m c:Nat} {xs news:List Value} {ad:Addr}
  (hi:L[i]?=some ⟨e,sz,v,n,xs⟩) (hx:A.eval x= .slice (some ad) m c) (hl:news.length=m * sz) (hnews:∀ j u,news[j]?=some u→w.cell? (ad.add j)=some u) (hs:A.eval s=v) (h1:news.all (·.oneCell')=true) (hb:n+m≤1000000)
  (h:∀ v' w',Sta W O p D B (L.set i ⟨e,sz,v',n+m,xs++news⟩) R w'→wpList Tryz.prog ops Q rest (A.put o.dst v') w'):wpList Tryz.prog ops Q (o::rest) A w:=by
 obtain ⟨z,hi1,hi2,hi3,hi4⟩:=info_parts hinf
 have hown:=ST.ownAt i hi
 refine wpList_append_own_at w hgd s x t ho W.heap.size e z z0 sz bytes hu hi1 hi2 hi3 hi4 hzs hsz v n xs hs hown ad m c news hx hl hnews (fun u hu=>(List.all_eq_true.1 h1) u hu) (by unfold maxLen;omega) (Nat.le_trans (Nat.mul_le_mul hb hby) (by decide)) ST.size ?_
 intro v' w' hown' hgrow _ hat
 exact h v' w' (ST.grow i hi hgrow hown' hat)
end
end
section
open Go.RowKit Go.Proofs
section
variable {W:World} {O:Ori} {p:Value} {ds ds':List Int} {B B2:List Blk} {L L2:List Ow} {R R2:List Rw} {w w':World}
theorem Sta.lessB (h:Sta W O p ds B L R w) (hB:B2.Sublist B):Sta W O p ds B2 L R w:=
 ⟨h.fr',⟨fun x hx=>h.ty.1 x (hB.subset hx),h.ty.2⟩,h.dr,fun x hx=>h.blk x (hB.subset hx),h.nd.sublist (hB.map _),h.own,h.nl,fun x hx=>h.nbl x (hB.subset hx),h.row,fun r hr hn q hq=>by
  obtain ⟨h1,h2,h3,h4⟩:=h.far r hr hn q hq
  exact ⟨h1,fun x hx=>h2 x (hB.subset hx),h3,h4⟩⟩
theorem Sta.addNil (h:Sta W O p ds B L R w) {r:Rw} (h0:r.cs=[]) (h1:r.n≤r.cap) (h2:r.cap≤9223372036854775807):Sta W O p ds B L (r::R) w:=
 ⟨h.fr',h.ty,h.dr,h.blk,h.nd,h.own,h.nl,h.nbl,fun x hx=>by
  rcases List.mem_cons.1 hx with rfl | hx
  ·exact ⟨h1,h2,fun j u hj=>by rw [h0] at hj;simp at hj⟩
  ·exact h.row x hx,fun x hx hn q hq=>by
  rcases List.mem_cons.1 hx with rfl | hx
  ·exact absurd h0 hn
  ·exact h.far x hx hn q hq⟩
theorem Sta.addNils (h:Sta W O p ds B L R w):∀ {k:List Rw},(∀ r∈k,r.cs=[]∧r.n≤r.cap∧r.cap≤9223372036854775807)→Sta W O p ds B L (k++R) w
 | [],_=>h
 | r::k,hk=>(Sta.addNils h (k:=k) (fun x hx=>hk x (List.mem_cons_of_mem _ hx))).addNil (hk r (List.mem_cons_self ..)).1 (hk r (List.mem_cons_self ..)).2.1 (hk r (List.mem_cons_self ..)).2.2
theorem Sta.ownIn (h:Sta W O p ds B L R w) (f:Gr w w') {e:TypeId} {sz n:Nat} {v:Value} {xs:List Value} (ho:w'.ownsRow w.heap.size e sz v n xs) (ht:NoT e:=by decide):Sta W O p ds B (⟨e,sz,v,n,xs⟩::L) R w':=by
 have hs:=h.size
 refine h.leave (L2:=[_]) (R2:=[]) (Rin:=[]) inN ⟨⟨gr_pblk f,Kp.of _ _⟩,⟨fun _ hx=>(by cases hx),fun o ho=>by rw [List.mem_singleton.1 ho];exact ht⟩,h.dr.keep f,fun _ hx=>(by cases hx),by simp,?_,List.pairwise_singleton _ _,fun _ hx=>(by cases hx),fun _ hx=>(by cases hx),fun _ hx=>(by cases hx)⟩
 intro o ho'
 rcases List.mem_cons.1 ho' with rfl | ho'
 ·exact ho
 ·cases ho'
theorem Sta.spend {e:TypeId} {sz n:Nat} {v:Value} {xs:List Value} {r:Rw} (h:Sta W O p ds B (⟨e,sz,v,n,xs⟩::L) R w) (f:Fr (fun k=>v.ownBlock=some k) w w') (hr:SlA w' r.a r.n r.cap r.cs) (hb:∀ q,r.a=some q→v.ownBlock=some q.block):Sta W O p ds B L (r::R) w':=by
 have hm:(⟨e,sz,v,n,xs⟩:Ow)∈(⟨e,sz,v,n,xs⟩::L):=List.mem_cons_self ..
 obtain ⟨hn1,hn2⟩:=List.pairwise_cons.1 h.nl
 have hbase:∀ k,v.ownBlock=some k→W.heap.size≤k:=fun k hk=>(own_in (h.own _ hm) hk).1
 refine ⟨⟨Fr.trans h.fr f (fun k hk=> .inr (hbase k hk)),h.kp.fr f (fun k hk=>⟨_,own_ty (h.own _ hm) hk,(h.ty.2 _ hm).2.2⟩)⟩,⟨h.ty.1,fun o ho=>h.ty.2 o (List.mem_cons_of_mem _ ho)⟩,?_,fun x hx=>⟨blk_keep f (h.blk x hx).1 (h.nbl x hx _ hm),(h.blk x hx).2⟩,h.nd,?_,hn2,fun x hx o ho=>h.nbl x hx o (List.mem_cons_of_mem _ ho),?_,?_⟩
 ·rcases hv:v.ownBlock with _ | b
  ·exact h.dr.keep (f.mono (fun k _ e=>by rw [hv] at e;cases e))
  ·exact h.dr.keepT (b:=b) (f.mono (fun k _ e=>by rw [hv] at e;cases e;rfl)) (own_ty (h.own _ hm) hv) (h.ty.2 _ hm)
 ·intro o ho
  exact own_fr (h.own o (List.mem_cons_of_mem _ ho)) f (fun q hq hv=>hn1 o ho q hv hq)
 ·intro x hx
  rcases List.mem_cons.1 hx with rfl | hx
  ·exact hr
  ·exact (h.row x hx).keepC f (fun hne q hq hv=>(h.far x hx hne q hq).2.2.1 _ hm hv)
 ·intro x hx hne q hq
  rcases List.mem_cons.1 hx with rfl | hx
  ·have hv:=hb q hq
   exact ⟨h.pL hm hv,fun y hy e=>h.nbl y hy _ hm (by rw [e];exact hv),fun o ho e=>hn1 o ho _ hv e, .inr (hbase _ hv)⟩
  ·obtain ⟨h1,h2,h3,h4⟩:=h.far x hx hne q hq
   exact ⟨h1,h2,fun o ho=>h3 o (List.mem_cons_of_mem _ ho),h4⟩
theorem Sta.ownPut (h:Sta W O p ds B L R w) (i:Nat) {e:TypeId} {sz n c g:Nat} {xs:List Value} (hi:L[i]?=some ⟨e,sz, .slice (some ⟨g,0,none⟩) n c,n,xs⟩) (j:Nat) (hj:j<n * sz) (v:Value):
  Sta W O p ds B (L.set i ⟨e,sz, .slice (some ⟨g,0,none⟩) n c,n,xs.set j v⟩) R (w.setCell ⟨g,j,none⟩ v):=by
 obtain ⟨hl,hcase⟩:=h.ownAt i hi
 rcases hcase with ⟨e1,_⟩ | ⟨g',cap,cur,e1,hb,hh,hn,hc,hs,ht⟩
 ·cases e1
 ·cases e1
  have hjc:j<cur.size:=by
   have:xs.length≤cur.size:=by rw [←ht];simp;omega
   omega
  obtain ⟨c',g1,g2,g3,g4,g5⟩:=heap_setCells g [v] j w cur e (0,0) hh (by simp;omega)
  have ec:c'=cur.setIfInBounds j v:=by
   apply Array.ext
   ·simp [g2]
   ·intro k hk1 hk2
    have hk3:k<cur.size:=by omega
    have h1:c'[k]?=(cur.setIfInBounds j v)[k]?:=by
     by_cases hkj:k=j
     ·subst hkj
      have h4:=g4 0 v rfl
      rw [Nat.add_zero] at h4
      rw [h4]
      simp [hk3]
     ·rw [Array.getElem?_setIfInBounds_ne (by omega)]
      rcases Nat.lt_or_gt_of_ne hkj with hlt | hgt
      ·exact g3 k hlt
      ·exact g5 k (by simp;omega)
    rw [Array.getElem?_eq_getElem hk1,Array.getElem?_eq_getElem hk2] at h1
    exact Option.some.inj h1
  have f:Fr (fun k=>k=g) w (w.setCell ⟨g,j,none⟩ v):=fr_setCells g [v] j w
  refine h.grow i hi ⟨f.os,f.tape,f.output,f.size,fun k hk hne=>f.block k hk (fun e=>hne (by rw [e];rfl))⟩ ?_ (.inl rfl)
  refine ⟨by rw [List.length_set];exact hl, .inr ⟨g,c,c',rfl,hb,g1,hn,hc,by rw [g2];exact hs,?_⟩⟩
  rw [ec,Array.toList_setIfInBounds,List.take_set,ht]
theorem Sta.ownForm (h:Sta W O p ds B L R w) (i:Nat) {e:TypeId} {sz n:Nat} {v:Value} {xs:List Value} (hi:L[i]?=some ⟨e,sz,v,n,xs⟩) (hn:0<n):∃ g c,v= .slice (some ⟨g,0,none⟩) n c:=by
 rcases (h.ownAt i hi).2 with ⟨_,h0⟩ | ⟨g,cap,cur,e1,_⟩
 ·omega
 ·exact ⟨g,cap,e1⟩
theorem Sta.ownCell (h:Sta W O p ds B L R w) (i:Nat) {e:TypeId} {sz n c g:Nat} {xs:List Value} (hi:L[i]?=some ⟨e,sz, .slice (some ⟨g,0,none⟩) n c,n,xs⟩) (j:Nat) {v:Value} (hj:xs[j]?=some v):w.cell? ⟨g,j,none⟩=some v∧w.frozen? ⟨g,j,none⟩=false:=by
 rcases (h.ownAt i hi).2 with ⟨e1,_⟩ | ⟨g',cap,cur,e1,hb,hh,hn,hc,hs,ht⟩
 ·cases e1
 ·cases e1
  refine ⟨?_,Lib.frozen_of_heap hh j⟩
  rw [Lib.cell_of_heap hh]
  rw [←ht,List.getElem?_take] at hj
  split at hj
  ·simpa using hj
  ·cases hj
theorem wpList_growN {ops:Array Oper} {rest:List Oper} {o:Oper} {A:Act} {Q:Exit→Act→World→Prop} (hgd:o.guard=none) (s x:Operand) (t e:TypeId) (sz bytes:Nat) (z0:Value)
  (hu:Tryz.prog.underlying t=some (.slice e)) (hinf:(Tryz.prog.info? e).map (fun i=>(i.zero,i.size,i.bytes))=some (some z0,sz,bytes))
  (ho:o.op= .call { callee:= .builtin .append,args:= #[s,x],argTypes:= #[t,t] }) (ST:Sta W O p ds B L R w) (i:Nat) {v:Value} {n cap:Nat} {xs:List Value}
  (hi:L[i]?=some ⟨e,sz,v,n,xs⟩) (hx:A.eval x= .slice none 0 cap) (hs:A.eval s=v) (h:wpList Tryz.prog ops Q rest (A.put o.dst v) w):wpList Tryz.prog ops Q (o::rest) A w:=by
 obtain ⟨z,hi1,hi2,hi3,hi4⟩:=info_parts hinf
 have hrun:(Builtin.append_ #[t,t] o.type #[v, .slice none 0 cap]).run Tryz.prog w= .ok v w:=by
  obtain ⟨hl,h1 | h1⟩:=ST.ownAt i hi
  ·obtain ⟨rfl,_⟩:=h1
   simp [Builtin.append_,run_underlying hu,sizeOf,typeInfo,hi1,Builtin.lenOf,Builtin.firstCells]
  ·obtain ⟨g,c1,cur,rfl,_,_,hn,_⟩:=h1
   simp [Builtin.append_,run_underlying hu,sizeOf,typeInfo,hi1,Builtin.lenOf,Builtin.firstCells,hn,storeCells]
 refine wpList_plain hgd fun K hK=>?_
 unfold Oper.wp execOp
 simp only [ho,resolve,invoke,builtin,Sem.run_bind,Sem.run_pure,Result.andThen_ok,List.map_toArray,List.map_cons,List.map_nil,hs,hx,hrun]
 exact hK _ _ h
end
section
variable {W:World} {O:Ori} {p:Value} {ds ds':List Int} {B B2:List Blk} {L L2:List Ow} {R R2:List Rw} {w w':World}
theorem wpList_growJ {ops:Array Oper} {rest:List Oper} {o:Oper} {A:Act} {Q:Exit→Act→World→Prop} (hgd:o.guard=none) (s x:Operand) (t e:TypeId) (sz bytes:Nat) (z0:Value)
  (hu:Tryz.prog.underlying t=some (.slice e)) (hinf:(Tryz.prog.info? e).map (fun i=>(i.zero,i.size,i.bytes))=some (some z0,sz,bytes)) (hzs:z0.cells.size=sz) (hsz:0<sz) (hby:bytes≤100000)
  (ho:o.op= .call { callee:= .builtin .append,args:= #[s,x],argTypes:= #[t,t] }) (ST:Sta W O p ds B L R w) (i j:Nat) {v u:Value} {n m:Nat} {xs news:List Value}
  (hi:L[i]?=some ⟨e,sz,v,n,xs⟩) (hj:L[j]?=some ⟨e,sz,u,m,news⟩) (hx:A.eval x=u) (hs:A.eval s=v) (h1:news.all (·.oneCell')=true) (hb:n+m≤1000000)
  (h:∀ v' w',Sta W O p ds B (L.set i ⟨e,sz,v',n+m,xs++news⟩) R w'→wpList Tryz.prog ops Q rest (A.put o.dst v') w'):wpList Tryz.prog ops Q (o::rest) A w:=by
 have hown:=ST.ownAt j hj
 rcases hown.2 with ⟨rfl,rfl⟩ | ⟨g,cap,cur,rfl,_⟩
 ·have hl0:news=[]:=List.eq_nil_of_length_eq_zero (by rw [hown.1];simp)
  subst hl0
  refine wpList_growN hgd s x t e sz bytes z0 hu hinf ho ST i hi hx hs (h v w ?_)
  have e2:L.set i ⟨e,sz,v,n+0,xs++[]⟩=L:=by
   rw [List.append_nil,Nat.add_zero]
   apply List.ext_getElem?
   intro k
   rw [List.getElem?_set]
   split
   ·rename_i e9
    subst e9
    rw [hi]
    split
    ·rfl
    ·rename_i hn
     exact absurd (List.getElem?_eq_some_iff.1 hi).1 hn
   ·rfl
  rw [e2]
  exact ST
 ·exact wpList_growT hgd s x t e sz bytes z0 hu hinf hzs hsz hby ho ST i hi hx hown.1 (own_add hown) hs h1 hb h
end
structure Om where
 m:Ms
 na:Option Addr
 nc:Nat
def Om.cells (x:Om):List Value:=[.int .i64 x.m.who, .int .i64 x.m.kind, .int .i64 x.m.node, .int .i64 x.m.walk, .bool x.m.high, .slice x.na x.m.nodes.length x.nc, .slice none 0 0, .slice none 0 0]
def Om.row (x:Om):Rw:=⟨x.na,x.m.nodes.length,x.nc,ints x.m.nodes⟩
abbrev oms (l:List Om):List Value:=l.flatMap Om.cells
def Ho.om (x:Ho):Om:=⟨x.ms,none,0⟩
theorem oms_one (l:List Om):(oms l).all (·.oneCell')=true:=by
 rw [List.all_eq_true]
 intro u hu
 obtain ⟨x, -, hx⟩:=List.mem_flatMap.1 hu
 simp only [Om.cells,List.mem_cons,List.not_mem_nil,or_false] at hx
 rcases hx with rfl | rfl | rfl | rfl | rfl | rfl | rfl | rfl<;>rfl
theorem houts_oms (l:List Ho):l.flatMap (fun x:Ho=>[Value.int .i64 x.who, .int .i64 x.kind, .int .i64 0, .int .i64 0, .bool x.high, .slice none 0 0, .slice none 0 0, .slice none 0 0])=oms (l.map Ho.om):=by
 induction l with
 | nil=>rfl
 | cons x r ih=>rw [List.flatMap_cons,ih];rfl
theorem oms_app (l k:List Om):oms l++oms k=oms (l++k):=by simp [oms]
section
variable {W:World} {O:Ori} {p:Value} {ds ds':List Int} {B:List Blk} {L:List Ow} {R:List Rw} {w w':World}
theorem Sta.callStart (h:Sta W O p ds B L R w) {v:Vw} {sa sp left:Int} {e:Ending} (k:StartEnd p v sa sp left ds w e w'):
  ∃ (l:List Om) (ov:Value),l.map Om.m=(oStart v sa sp left ds).1∧e= .returned ov∧Sta W O p (oStart v sa sp left ds).2 B (⟨81,8,ov,l.length,oms l⟩::L) (l.map Om.row++R) w':=by
 unfold StartEnd at k
 unfold oStart
 by_cases ha:v.act=[]
 ·rw [if_pos ha] at k ⊢
  obtain ⟨rfl,d,f⟩:=k
  exact ⟨[],_,rfl,rfl,(h.call f d).ownNil _ _⟩
 ·rw [if_neg ha] at k ⊢
  obtain ⟨g,a,c,rfl,hg,hb,hs,hn,d,f⟩:=k
  refine ⟨[⟨⟨(oneV ds v.act).1,7,v.self,min (max left 0) 15,false,(mixS v sa sp (oneV ds v.act).2.2).1⟩,a,c⟩],_,rfl,rfl,?_⟩
  have hown:w'.ownsRow w.heap.size 81 8 (.slice (some ⟨g,0,none⟩) 1 1) 1 (oms [⟨⟨(oneV ds v.act).1,7,v.self,min (max left 0) 15,false,(mixS v sa sp (oneV ds v.act).2.2).1⟩,a,c⟩]):=
   ⟨rfl, .inr ⟨g,1,_,rfl,hg,hb,Nat.le_refl _,by decide,rfl,rfl⟩⟩
  have hle:=h.size
  refine h.leave (L2:=[_]) (R2:=[_]) (Rin:=[]) inN ⟨⟨f,Kp.of _ _⟩,⟨fun _ hx=>(by cases hx),fun o ho=>by rw [List.mem_singleton.1 ho];exact (show NoT 81 by decide)⟩,d,fun _ hx=>(by cases hx),by simp,?_,List.pairwise_singleton _ _,fun _ hx=>(by cases hx),?_,?_⟩
  ·intro o ho
   rcases List.mem_cons.1 ho with rfl | ho
   ·exact hown
   ·cases ho
  ·intro r hr
   rcases List.mem_cons.1 hr with rfl | hr
   ·exact hs
   ·cases hr
  ·intro r hr hne q hq
   rcases List.mem_cons.1 hr with rfl | hr
   ·have hq':=(hn q hq).1
    refine ⟨h.nb hq',fun _ hx=>(by cases hx),fun o ho=>?_, .inr hq'⟩
    rcases List.mem_cons.1 ho with rfl | ho
    ·intro e2
     injection e2 with e2
     simp only at e2
     have:=(hn q hq).2 (fun e=>hne (List.map_eq_nil_iff.2 e))
     omega
    ·cases ho
   ·cases hr
end
end
end Go.Proofs.YtelepohdfcjnfaaGreat
