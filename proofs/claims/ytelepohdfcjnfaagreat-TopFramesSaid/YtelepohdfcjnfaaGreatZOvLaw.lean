/-
  What an overlay does with a message, in plain Lean.
-/
import Derived.Test.YtelepohdfcjnfaaGreatZOvSpec
import Derived.Test.YtelepohdfcjnfaaGreatZMixOn
import Derived.Test.YtelepohdfcjnfaaGreatZNetLaw
namespace Go.Proofs.YtelepohdfcjnfaaGreat
section
open Go.RowKit Go.Proofs
def oHand (o:Ov) (r:Hd×List Ho×List Int):Ov×List Ms×List Int:=({ o with h:=r.1 },r.2.1.map Ho.ms,r.2.2)
def fwd (far from_ n:Int):Ms:=⟨n,2,from_,far,false,[]⟩
def oJoins (o:Ov) (from_:Int) (ds:List Int):Ov×List Ms×List Int:=
 ({ o with h:=(hOnAsk o.h from_ true ds).1 },(hOnAsk o.h from_ true ds).2.1.map Ho.ms++(if has (hOnAsk o.h from_ true ds).1.v.act from_=true then (but (hOnAsk o.h from_ true ds).1.v.act [from_]).map (fwd o.c.far from_) else []),(hOnAsk o.h from_ true ds).2.2)
def oSetV (o:Ov) (v:Vw):Ov:={ o with h:={ o.h with v:=v } }
def Mq.to (m:Mq) (n:Int):Ms:=⟨n,m.kind,m.node,m.walk-1,m.high,m.nodes⟩
def oFwdV (o:Ov) (m:Mq) (know:Bool) (ds:List Int):Vw×List Int:=if know=true then vKnow o.h.v m.node ds else (o.h.v,ds)
def oForward (o:Ov) (from_:Int) (m:Mq) (ds:List Int):Ov×List Ms×List Int:=
 if (wJoin o.h.v from_ m.node m.walk o.c.near ds).1=true then ((oAsk o m.node false).1,(oAsk o m.node false).2.map Ho.ms,(wJoin o.h.v from_ m.node m.walk o.c.near ds).2.2.2)
 else (oSetV o (oFwdV o m (wJoin o.h.v from_ m.node m.walk o.c.near ds).2.2.1 (wJoin o.h.v from_ m.node m.walk o.c.near ds).2.2.2).1,[m.to (wJoin o.h.v from_ m.node m.walk o.c.near ds).2.1],(oFwdV o m (wJoin o.h.v from_ m.node m.walk o.c.near ds).2.2.1 (wJoin o.h.v from_ m.node m.walk o.c.near ds).2.2.2).2)
def mShuf (v:Vw) (from_:Int) (m:Mq) (ds:List Int):Vw×List Ms×List Int:=
 if (wMix v from_ m.node m.walk ds).1=false then (v,[m.to (wMix v from_ m.node m.walk ds).2.1],(wMix v from_ m.node m.walk ds).2.2.2)
 else ((kAll v m.nodes (osWant v m (wMix v from_ m.node m.walk ds).2.2.2).2).1,(if osAns v m=true then [⟨m.node,8,0,0,false,(osWant v m (wMix v from_ m.node m.walk ds).2.2.2).1⟩] else []),(kAll v m.nodes (osWant v m (wMix v from_ m.node m.walk ds).2.2.2).2).2)
def oTake (o:Ov) (from_:Int) (m:Mq) (ds:List Int):Ov×List Ms×List Int:=
 if m.kind=1 then oJoins o from_ ds else
 if m.kind=2 then oForward o from_ m ds else
 if m.kind=3 then oHand o (hOnAsk o.h from_ m.high ds) else
 if m.kind=4 then oHand o (hOnYes o.h from_ ds) else
 if m.kind=5 then oHand o (hOnNo o.h from_ ds) else
 if m.kind=6 then ({ o with h:=(hOnBye o.h from_ ds).1 },[],(hOnBye o.h from_ ds).2) else
 if m.kind=7 then (oSetV o (mShuf o.h.v from_ m ds).1,(mShuf o.h.v from_ m ds).2.1,(mShuf o.h.v from_ m ds).2.2) else
 if m.kind=8 then (oSetV o (kAll o.h.v m.nodes ds).1,[],(kAll o.h.v m.nodes ds).2) else (o,[],ds)
def oBroke (o:Ov) (from_:Int):Ov:={ o with h:=hOnBreak o.h from_ }
theorem Ov.Ok.setH {o:Ov} (k:o.Ok) {h:Hd} (g:h.Good):Ov.Ok { o with h:=h }:=⟨g,k.every,k.mixA,k.mixP,k.far,k.near,k.len,k.ticks,k.seed⟩
theorem Ov.Ok.setV {o:Ov} (k:o.Ok) {v:Vw} (g:v.Good):(oSetV o v).Ok:=k.setH ⟨g,k.h.asked⟩
theorem few_onAsk (h:Hd) (n:Int) (high:Bool) (ds:List Int):(hOnAsk h n high ds).2.1.length≤2:=by
 unfold hOnAsk hTake hRoomO
 repeat' split
 all_goals simp
theorem few_onYes (h:Hd) (n:Int) (ds:List Int):(hOnYes h n ds).2.1.length≤2:=by
 unfold hOnYes hTake hRoomO
 repeat' split
 all_goals simp
theorem few_onNo (h:Hd) (n:Int) (ds:List Int):(hOnNo h n ds).2.1.length≤2:=by unfold hOnNo;split<;>simp
end
section
open Go.RowKit Go.Proofs
abbrev OLet:=Option Mq
def Mq.lr (m:Mq):List Lr:=if m.kind=1 then [⟨3,true⟩] else if 3≤m.kind∧m.kind≤6 then [⟨m.kind,m.high⟩] else []
def olr:OLet→List Lr
 | none=>[⟨0,false⟩]
 | some m=>m.lr
def Ms.mq (x:Ms):Mq:=⟨x.kind,x.node,x.walk,x.high,x.nodes⟩
structure ONet where
 o:Nat→Ov
 w:Nat→Nat→List OLet
def ONet.net (n:ONet):Net:=⟨fun i=>(n.o i).h,fun i j=>(n.w i j).flatMap olr⟩
def pushM (p:Nat) (w:Nat→Nat→List OLet) (x:Ms):Nat→Nat→List OLet:=upd2 w p (x.who-1).toNat (w p (x.who-1).toNat++[some x.mq])
def pushMs (p:Nat) (w:Nat→Nat→List OLet) (outs:List Ms):Nat→Nat→List OLet:=outs.foldl (pushM p) w
def sentM (outs:List Ms) (j:Nat):List Mq:=(outs.filter (fun x=>x.who==(j:Int)+1)).map Ms.mq
theorem pushMs_other {p i:Nat} (h:i≠p):∀ (outs:List Ms) (w:Nat→Nat→List OLet) (j:Nat),pushMs p w outs i j=w i j
 | [],_,_=>rfl
 | o::t,w,j=>by
  show pushMs p (pushM p w o) t i j=_
  rw [pushMs_other h t]
  exact upd2_other _ _ (fun e=>h e.1)
theorem pushMs_at (p j:Nat):∀ (outs:List Ms) (w:Nat→Nat→List OLet),(∀ o∈outs,1≤o.who)→pushMs p w outs p j=w p j++(sentM outs j).map some
 | [],_,_=>(List.append_nil _).symm
 | o::t,w,h=>by
  show pushMs p (pushM p w o) t p j=_
  rw [pushMs_at p j t _ (fun x hx=>h x (List.mem_cons_of_mem _ hx))]
  have h1:=h o List.mem_cons_self
  unfold sentM pushM
  by_cases e:o.who=(j:Int)+1
  ·have e2:(o.who-1).toNat=j:=by omega
   rw [e2,upd2_same,List.filter_cons_of_pos (by simpa using e),List.map_cons,List.map_cons,List.append_assoc]
   rfl
  ·rw [upd2_other _ _ (fun e3=>e (by have:=e3.2;omega)),List.filter_cons_of_neg (by simpa using e)]
theorem pushMs_mem (p:Nat):∀ (outs:List Ms) (w:Nat→Nat→List OLet) (i j:Nat) (l:OLet),l∈pushMs p w outs i j→l∈w i j∨∃ x∈outs,l=some x.mq
 | [],_,_,_,_,h=> .inl h
 | o::t,w,i,j,l,h=>by
  rcases pushMs_mem p t (pushM p w o) i j l h with h | ⟨x,hx,e⟩
  ·unfold pushM at h
   by_cases e:i=p∧j=(o.who-1).toNat
   ·obtain ⟨rfl,rfl⟩:=e
    rw [upd2_same] at h
    rcases List.mem_append.1 h with h | h
    ·exact .inl h
    ·exact .inr ⟨o,List.mem_cons_self,List.mem_singleton.1 h⟩
   ·rw [upd2_other _ _ e] at h
    exact .inl h
  ·exact .inr ⟨x,List.mem_cons_of_mem _ hx,e⟩
structure MOk (N:Nat) (m:Mq):Prop where
 kind:1≤m.kind∧m.kind≤8
 node:0≤m.node∧m.node≤N
 who:m.kind=2∨m.kind=7→1≤m.node
 walk:0≤m.walk∧m.walk≤15
 len:m.nodes.length≤64
 nodes:∀ x∈m.nodes,1≤x∧x≤N
structure OutOk (N p:Nat) (x:Ms):Prop where
 who:1≤x.who∧x.who≤N∧x.who≠(p:Int)+1
 msg:MOk N x.mq
structure OInv (N:Nat) (am pm:Int) (n:ONet):Prop where
 net:NInv N n.net
 ok:∀ i,i<N→(n.o i).Ok
 am:∀ i,i<N→(n.o i).h.v.am=am∧(n.o i).h.v.pm=pm
 pas:∀ i,i<N→∀ x∈(n.o i).h.v.pas,1≤x∧x≤N
 seeds:∀ i,i<N→∀ x∈(n.o i).c.seeds,1≤x∧x≤N
 msg:∀ i,i<N→∀ j,j<N→∀ m,some m∈n.w i j→MOk N m
theorem OInv.step {N:Nat} {am pm:Int} {n:ONet} (k:OInv N am pm n) {p:Nat} (hp:p<N) {o':Ov} {outs:List Ms} {w1:Nat→Nat→List OLet}
  (net:NInv N ⟨upd (fun i=>(n.o i).h) p o'.h,fun i j=>(pushMs p w1 outs i j).flatMap olr⟩) (ok:o'.Ok) (hc:o'.c=(n.o p).c) (ham:o'.h.v.am=am∧o'.h.v.pm=pm) (hpas:∀ x∈o'.h.v.pas,1≤x∧x≤N)
  (hw1:∀ i j m,some m∈w1 i j→some m∈n.w i j) (hout:∀ x∈outs,OutOk N p x):OInv N am pm ⟨upd n.o p o',pushMs p w1 outs⟩:=by
 have key:∀ {P:Ov→Prop},P o'→(∀ i,i<N→P (n.o i))→∀ i,i<N→P (upd n.o p o' i):=by
  intro P h1 h2 i hi
  by_cases e:i=p
  ·subst e;rw [upd_same];exact h1
  ·rw [upd_other _ _ e];exact h2 i hi
 refine ⟨?_,key ok k.ok,key (P:=fun o=>o.h.v.am=am∧o.h.v.pm=pm) ham k.am,key (P:=fun o=>∀ x∈o.h.v.pas,1≤x∧x≤N) hpas k.pas,key (P:=fun o=>∀ x∈o.c.seeds,1≤x∧x≤N) (by rw [hc];exact k.seeds p hp) k.seeds,?_⟩
 ·unfold ONet.net
  simp only
  have:(fun i=>(upd n.o p o' i).h)=upd (fun i=>(n.o i).h) p o'.h:=by
   funext i
   unfold upd
   split<;>rfl
  rw [this]
  exact net
 ·intro i hi j hj m hm
  rcases pushMs_mem p outs w1 i j _ hm with h | ⟨x,hx,e⟩
  ·exact k.msg i hi j hj m (hw1 i j m h)
  ·injection e with e
   rw [e]
   exact (hout x hx).msg
theorem NInv.sends {N p:Nat} {h:Nat→Hd} {w1:Nat→Nat→List OLet} {hs:List Ho} {outs:List Ms} (k:NInv N ⟨h,pushAll p (fun i j=>(w1 i j).flatMap olr) hs⟩) (h1:∀ o∈hs,1≤o.who) (h2:∀ o∈outs,1≤o.who)
  (he:∀ j,((sentM outs j).flatMap Mq.lr).map Lr.pl=(sent hs j).map Lr.pl):NInv N ⟨h,fun i j=>(pushMs p w1 outs i j).flatMap olr⟩:=by
 refine k.congr (fun i j=>?_)
 show ((pushMs p w1 outs i j).flatMap olr).map Lr.pl=(pushAll p (fun i j=>(w1 i j).flatMap olr) hs i j).map Lr.pl
 by_cases e:i=p
 ·subst e
  rw [pushMs_at i j outs w1 h2,pushAll_at i j hs _ h1,List.flatMap_append,List.map_append,List.map_append]
  congr 1
  rw [←he j]
  congr 1
  rw [List.flatMap_map]
  rfl
 ·rw [pushMs_other e,pushAll_other e]
theorem sentM_none (outs:List Ms) (j:Nat) (h:∀ x∈outs,x.mq.lr=[]):(sentM outs j).flatMap Mq.lr=[]:=by
 rw [List.flatMap_eq_nil_iff]
 intro m hm
 obtain ⟨x,hx,rfl⟩:=List.mem_map.1 hm
 exact h x (List.mem_filter.1 hx).1
theorem sentM_ms (j:Nat):∀ (hs:List Ho),(∀ h∈hs,3≤h.kind∧h.kind≤6)→(sentM (hs.map Ho.ms) j).flatMap Mq.lr=sent hs j
 | [],_=>rfl
 | h::t,hk=>by
  have h1:=hk h List.mem_cons_self
  have ih:=sentM_ms j t (fun x hx=>hk x (List.mem_cons_of_mem _ hx))
  unfold sentM sent at ih ⊢
  by_cases e:h.who=(j:Int)+1
  ·rw [List.map_cons,List.filter_cons_of_pos (by simpa [Ho.ms] using e),List.filter_cons_of_pos (by simpa using e),List.map_cons,List.flatMap_cons,ih,List.map_cons]
   have:(Ho.ms h).mq.lr=[⟨h.kind,h.high⟩]:=by
    unfold Mq.lr Ms.mq Ho.ms
    simp only
    rw [if_neg (by omega),if_pos h1]
   rw [this]
   rfl
  ·rw [List.map_cons,List.filter_cons_of_neg (by simpa [Ho.ms] using e),List.filter_cons_of_neg (by simpa using e),ih]
theorem sentM_joins (j:Nat):∀ (hs:List Ho),(∀ h∈hs,h.kind=3)→((sentM ((hs.map Ho.joins).map Ho.ms) j).flatMap Mq.lr).map Lr.pl=(sent hs j).map Lr.pl
 | [],_=>rfl
 | h::t,hk=>by
  have h1:=hk h List.mem_cons_self
  have ih:=sentM_joins j t (fun x hx=>hk x (List.mem_cons_of_mem _ hx))
  unfold sentM sent at ih ⊢
  by_cases e:h.who=(j:Int)+1
  ·rw [List.map_cons,List.map_cons,List.filter_cons_of_pos (by simpa [Ho.ms,Ho.joins] using e),List.filter_cons_of_pos (by simpa using e),List.map_cons,List.flatMap_cons,List.map_append,ih,List.map_cons,List.map_cons]
   have:(Ho.ms (Ho.joins h)).mq.lr=[⟨3,true⟩]:=rfl
   rw [this,List.map_cons,List.map_nil]
   show Lr.pl ⟨3,true⟩::_=_
   congr 1
   unfold Lr.pl
   rw [h1]
  ·rw [List.map_cons,List.map_cons,List.filter_cons_of_neg (by simpa [Ho.ms,Ho.joins] using e),List.filter_cons_of_neg (by simpa using e),ih]
theorem vKnow_pas {v:Vw} (g:v.Good) (n:Int) (ds:List Int) {x:Int} (h:x∈(vKnow v n ds).1.pas):x=n∨x∈v.pas:=by
 unfold vKnow at h
 split at h
 ·simp only at h
  split at h
  ·rcases sAdd_sub h with h | h
   ·exact .inl h
   ·exact .inr (vRoom_sub g ds h)
  ·exact .inr h
 ·exact .inr h
theorem kAll_pas:∀ (l:List Int) (v:Vw) (ds:List Int),v.Good→∀ x∈(kAll v l ds).1.pas,x∈l∨x∈v.pas
 | [],_,_,_,x,h=> .inr h
 | n::t,v,ds,g,x,h=>by
  rcases kAll_pas t (vKnow v n ds).1 (vKnow v n ds).2 (vKnow_good g n ds) x h with h | h
  ·exact .inl (List.mem_cons_of_mem _ h)
  ·rcases vKnow_pas g n ds h with h | h
   ·exact .inl (h▸List.mem_cons_self)
   ·exact .inr h
theorem kAll_same:∀ (l:List Int) (v:Vw) (ds:List Int),(kAll v l ds).1.self=v.self∧(kAll v l ds).1.am=v.am∧(kAll v l ds).1.pm=v.pm∧(kAll v l ds).1.act=v.act
 | [],_,_=>⟨rfl,rfl,rfl,rfl⟩
 | n::t,v,ds=>by
  obtain ⟨a,b,c,d⟩:=kAll_same t (vKnow v n ds).1 (vKnow v n ds).2
  obtain ⟨e,f,g,h⟩:=vKnow_am v n ds
  exact ⟨a.trans e,b.trans f,c.trans g,d.trans h⟩
theorem vLeave_pas {v:Vw} (g:v.Good) (n:Int) (keep:Bool) (ds:List Int) {x:Int} (h:x∈(vLeave v n keep ds).1.pas):x∈v.pas∨x∈v.act:=by
 unfold vLeave at h
 split at h
 ·rename_i hn
  split at h
  ·rcases vKnow_pas (v:={ v with act:=sDrop v.act n }) ⟨g.act.drop n,g.pas⟩ n ds h with h | h
   ·exact .inr (h▸(has_iff _ _).1 hn)
   ·exact .inl h
  ·exact .inl h
 ·exact .inl h
theorem vEvict_pas {v:Vw} (g:v.Good) (ds:List Int) {x:Int} (h:x∈(vEvict v ds).1.pas):x∈v.pas∨x∈v.act:=by
 unfold vEvict at h
 split at h
 ·exact .inl h
 ·exact vLeave_pas g _ _ _ h
theorem vEvict_pm (v:Vw) (ds:List Int):(vEvict v ds).1.pm=v.pm∧(vEvict v ds).1.am=v.am:=by
 unfold vEvict
 split
 ·exact ⟨rfl,rfl⟩
 ·exact ⟨(vLeave_am v _ _ _).2.2.1,(vLeave_am v _ _ _).2.1⟩
theorem hRoomV_pas {h:Hd} (g:h.Good) (n:Int) (ds:List Int):(∀ x∈(hRoomV h n ds).pas,x∈h.v.pas∨x∈h.v.act)∧(hRoomV h n ds).pm=h.v.pm∧(hRoomV h n ds).am=h.v.am∧(hRoomV h n ds).Good:=by
 unfold hRoomV
 split
 ·unfold hEv
  split
  ·exact ⟨fun x hx=>vEvict_pas g.v ds hx,(vEvict_pm _ _).1,(vEvict_pm _ _).2,by
    unfold vEvict
    split
    ·exact g.v
    ·unfold vLeave
     split
     ·split
      ·exact vKnow_good (v:={ h.v with act:=sDrop h.v.act _ }) ⟨g.v.act.drop _,g.v.pas⟩ _ _
      ·exact ⟨g.v.act.drop _,g.v.pas⟩
     ·exact g.v⟩
  ·exact ⟨fun x hx=> .inl hx,rfl,rfl,g.v⟩
 ·exact ⟨fun x hx=> .inl hx,rfl,rfl,g.v⟩
theorem hTake_pas {h:Hd} (g:h.Good) (n:Int) (ds:List Int):(∀ x∈(hTake h n ds).1.v.pas,x∈h.v.pas∨x∈h.v.act)∧(hTake h n ds).1.v.pm=h.v.pm∧(hTake h n ds).1.v.am=h.v.am:=by
 obtain ⟨r1,r2,r3,r4⟩:=hRoomV_pas g n ds
 unfold hTake
 split
 ·exact ⟨fun x hx=> .inl hx,rfl,rfl⟩
 ·split
  ·refine ⟨fun x hx=>?_,(vJoin_am _ _).2.2.trans r2,(vJoin_am _ _).2.1.trans r3⟩
   have hx2:x∈(vJoin (hRoomV h n ds) n).pas:=hx
   unfold vJoin at hx2
   rcases Bool.eq_false_or_eq_true (vJoinOk (hRoomV h n ds) n) with e | e
   ·rw [if_pos e] at hx2
    exact r1 x ((sDrop_mem r4.pas.up _ _).1 hx2).1
   ·rw [if_neg (by rw [e];decide)] at hx2
    exact r1 x hx2
  ·exact ⟨fun x hx=> .inl hx,rfl,rfl⟩
theorem hOn_pas {h:Hd} (g:h.Good) (n:Int) (y:Lr) (ds:List Int):(∀ x∈(hOn h n y ds).1.v.pas,x∈h.v.pas∨x∈h.v.act)∧(hOn h n y ds).1.v.pm=h.v.pm∧(hOn h n y ds).1.v.am=h.v.am:=by
 have T:=hTake_pas g n ds
 have T2:=hTake_pas (h:=⟨h.v,sDrop h.asked n⟩) ⟨g.v,g.asked.drop n⟩ n ds
 have I:(∀ x∈h.v.pas,x∈h.v.pas∨x∈h.v.act)∧h.v.pm=h.v.pm∧h.v.am=h.v.am:=⟨fun x hx=> .inl hx,rfl,rfl⟩
 have L:∀ k d,(∀ x∈(vLeave h.v n k d).1.pas,x∈h.v.pas∨x∈h.v.act)∧(vLeave h.v n k d).1.pm=h.v.pm∧(vLeave h.v n k d).1.am=h.v.am:=fun k d=>⟨fun x hx=>vLeave_pas g.v n k d hx,(vLeave_am _ _ _ _).2.2.1,(vLeave_am _ _ _ _).2.1⟩
 unfold hOn
 split
 ·unfold hOnAsk
  repeat' split
  all_goals first | exact I | exact T
 ·split
  ·unfold hOnYes
   repeat' split
   all_goals first | exact I | exact T2
  ·split
   ·unfold hOnNo hOnBye
    split
    ·exact L true ds
    ·exact I
   ·split
    ·exact L true ds
    ·unfold hOnBreak vForget
     obtain ⟨a,b,c⟩:=L false []
     refine ⟨fun x hx=>a x ?_,b,c⟩
     have gl:(vLeave h.v n false []).1.Good:=by
      unfold vLeave
      split
      ·exact ⟨g.v.act.drop n,g.v.pas⟩
      ·exact g.v
     exact ((sDrop_mem gl.pas.up _ _).1 hx).1
theorem hTake_kinds (h:Hd) (n:Int) (ds:List Int):∀ o∈(hTake h n ds).2.1,o.kind=6:=by
 unfold hTake hRoomO
 repeat' split
 all_goals simp
theorem hOn_kinds (h:Hd) (n:Int) (y:Lr) (ds:List Int):∀ o∈(hOn h n y ds).2.1,3≤o.kind∧o.kind≤6:=by
 have T:=hTake_kinds h n ds
 have T2:=hTake_kinds ⟨h.v,sDrop h.asked n⟩ n ds
 intro o ho
 unfold hOn at ho
 split at ho
 ·unfold hOnAsk at ho
  split at ho
  ·rw [List.mem_singleton.1 ho];simp
  ·split at ho
   ·split at ho
    ·rcases List.mem_append.1 ho with ho | ho
     ·rw [T o ho];decide
     ·rw [List.mem_singleton.1 ho];simp
    ·rw [List.mem_singleton.1 ho];simp
   ·rw [List.mem_singleton.1 ho];simp
 ·split at ho
  ·unfold hOnYes at ho
   split at ho
   ·rw [T2 o ho];decide
   ·split at ho
    ·cases ho
    ·rw [List.mem_singleton.1 ho];simp
  ·split at ho
   ·unfold hOnNo at ho
    split at ho
    ·rw [List.mem_singleton.1 ho];simp
    ·cases ho
   ·split at ho<;>cases ho
theorem Ho.ms_out {N p:Nat} {x:Ho} (h:1≤x.who∧x.who≤N∧x.who≠(p:Int)+1) (hk:1≤x.kind∧x.kind≤6) (h2:x.kind≠2):OutOk N p x.ms:=
 ⟨h,⟨⟨hk.1,by show x.kind≤8;omega⟩,⟨by show (0:Int)≤0;omega,by show (0:Int)≤N;omega⟩,fun e=>by
  rcases e with e | e
  ·exact absurd e h2
  ·have:x.kind=7:=e
   omega,⟨by show (0:Int)≤0;omega,by show (0:Int)≤15;omega⟩,Nat.zero_le _,fun y hy=>nomatch hy⟩⟩
theorem OInv.ask_net {N:Nat} {am pm:Int} {n:ONet} (k:OInv N am pm n) {a:Nat} (ha:a<N) {t:Int} (ht:1≤t∧t≤N) (high:Bool):
  NInv N ⟨upd (fun i=>(n.o i).h) a (hAsk (n.o a).h t high).1,pushAll a (fun i j=>(n.w i j).flatMap olr) (hAsk (n.o a).h t high).2⟩∧(hAsk (n.o a).h t high).1.v=(n.o a).h.v∧∀ o∈(hAsk (n.o a).h t high).2,o.kind=3∧1≤o.who∧o.who≤N∧o.who≠(a:Int)+1:=by
 obtain ⟨b,rfl⟩:∃ b:Nat,t=(b:Int)+1:=⟨(t-1).toNat,by omega⟩
 have hb:b<N:=by omega
 have hs:=k.net.self a ha
 have hs2:(n.o a).h.v.self=(a:Int)+1:=hs
 have hv:(hAsk (n.o a).h ((b:Int)+1) high).1.v=(n.o a).h.v:=by unfold hAsk;split<;>rfl
 rcases hAsk_law (k.net.hi a ha) ((b:Int)+1) high with ⟨e, -, -, h3, -, -⟩ | e
 ·have e':hAsk (n.o a).h ((b:Int)+1) high=(⟨(n.o a).h.v,sAdd (n.o a).h.asked 64 ((b:Int)+1)⟩,[⟨(b:Int)+1,3,high⟩]):=e
  have hab:a≠b:=fun h=>h3 (by rw [hs,h])
  refine ⟨k.net.ask ha hb hab high,hv,?_⟩
  rw [e']
  intro o ho
  rw [List.mem_singleton.1 ho]
  exact ⟨rfl,by simp only;omega,by simp only;omega,by simp only;omega⟩
 ·have e':hAsk (n.o a).h ((b:Int)+1) high=((n.o a).h,[]):=e
  rw [e']
  refine ⟨?_,rfl,fun o ho=>nomatch ho⟩
  have hu:upd (fun i=>(n.o i).h) a (n.o a).h=fun i=>(n.o i).h:=by
   funext i
   unfold upd
   split
   ·rename_i e;rw [e]
   ·rfl
  simp only
  rw [hu]
  exact k.net
theorem OInv.same_net {N:Nat} {am pm:Int} {n:ONet} (k:OInv N am pm n) {a:Nat} {h':Hd} (e:h'=(n.o a).h):NInv N ⟨upd (fun i=>(n.o i).h) a h',pushAll a (fun i j=>(n.w i j).flatMap olr) []⟩:=by
 have hu:upd (fun i=>(n.o i).h) a h'=fun i=>(n.o i).h:=by
  funext i
  unfold upd
  split
  ·rename_i e2;rw [e,e2]
  ·rfl
 rw [hu]
 exact k.net
theorem OInv.fill_net {N:Nat} {am pm:Int} {n:ONet} (k:OInv N am pm n) {a:Nat} (ha:a<N) {ds:List Int} (hr:∀ x∈ds,0≤x∧x<4294967296):
  NInv N ⟨upd (fun i=>(n.o i).h) a (oFill (n.o a) ds).1.h,fun i j=>(pushMs a n.w ((oFill (n.o a) ds).2.1.map Ho.ms) i j).flatMap olr⟩∧(oFill (n.o a) ds).1.h.v=(n.o a).h.v∧(oFill (n.o a) ds).1.c=(n.o a).c∧(∀ x∈(oFill (n.o a) ds).2.1.map Ho.ms,OutOk N a x)∧∀ x∈(oFill (n.o a) ds).2.2,0≤x∧x<4294967296:=by
 have none_:NInv N ⟨upd (fun i=>(n.o i).h) a (n.o a).h,fun i j=>(pushMs a n.w [] i j).flatMap olr⟩:=by
  have:=k.same_net (a:=a) rfl
  exact this
 have ask_:∀ (t:Int) (high:Bool),1≤t∧t≤(N:Int)→NInv N ⟨upd (fun i=>(n.o i).h) a (hAsk (n.o a).h t high).1,fun i j=>(pushMs a n.w ((hAsk (n.o a).h t high).2.map Ho.ms) i j).flatMap olr⟩∧(∀ x∈(hAsk (n.o a).h t high).2.map Ho.ms,OutOk N a x)∧
   NInv N ⟨upd (fun i=>(n.o i).h) a (hAsk (n.o a).h t high).1,fun i j=>(pushMs a n.w (((hAsk (n.o a).h t high).2.map Ho.joins).map Ho.ms) i j).flatMap olr⟩∧∀ x∈((hAsk (n.o a).h t high).2.map Ho.joins).map Ho.ms,OutOk N a x:=by
  intro t high ht
  obtain ⟨h1, -, h3⟩:=k.ask_net ha ht high
  have o1:∀ x∈(hAsk (n.o a).h t high).2.map Ho.ms,OutOk N a x:=by
   intro x hx
   obtain ⟨y,hy,rfl⟩:=List.mem_map.1 hx
   obtain ⟨e1,e2⟩:=h3 y hy
   exact Ho.ms_out e2 (by omega) (by omega)
  have o2:∀ x∈((hAsk (n.o a).h t high).2.map Ho.joins).map Ho.ms,OutOk N a x:=by
   intro x hx
   obtain ⟨y,hy,rfl⟩:=List.mem_map.1 hx
   obtain ⟨z,hz,rfl⟩:=List.mem_map.1 hy
   obtain ⟨e1,e2⟩:=h3 z hz
   exact Ho.ms_out e2 ⟨by show (1:Int)≤1;omega,by show (1:Int)≤6;omega⟩ (by show (1:Int)≠2;omega)
  exact ⟨h1.sends (fun o ho=>(h3 o ho).2.1) (fun x hx=>(o1 x hx).who.1) (fun j=>by rw [sentM_ms j _ (fun h hh=>by have:=(h3 h hh).1;omega)]),o1,
   h1.sends (fun o ho=>(h3 o ho).2.1) (fun x hx=>(o2 x hx).who.1) (fun j=>sentM_joins j _ (fun h hh=>(h3 h hh).1)),o2⟩
 have hv:∀ t high,(hAsk (n.o a).h t high).1.v=(n.o a).h.v:=fun t high=>by unfold hAsk;split<;>rfl
 have hone:∀ x∈(oneV ds (n.o a).h.v.pas).2.2,0≤x∧x<4294967296:=oneV_range hr
 unfold oFill
 split
 ·exact ⟨none_,rfl,rfl,(by simp),hr⟩
 ·split
  ·exact ⟨none_,rfl,rfl,(by simp),hr⟩
  ·split
   ·rename_i hp
    have hne:(n.o a).h.v.pas≠[]:=fun e=>by unfold oneV at hp;rw [e,if_pos rfl] at hp;cases hp
    have ht:=k.pas a ha _ (oneV_mem hr hne).1
    obtain ⟨q1,q2, -, -⟩:=ask_ _ ((n.o a).h.v.act.length==0) ht
    exact ⟨q1,hv _ _,rfl,q2,hone⟩
   ·split
    ·exact ⟨none_,rfl,rfl,(by simp),hone⟩
    ·unfold oJoin
     split
     ·exact ⟨none_,rfl,rfl,(by simp),hone⟩
     ·rename_i hs
      have hl:0<(n.o a).c.seeds.length:=List.length_pos_iff.2 hs
      have hm:oSeed (n.o a)∈(n.o a).c.seeds:=by
       unfold oSeed
       have h0:=(k.ok a ha).seed.1
       have h1:=tmod_pos (x:=(n.o a).seed) (m:=(n.o a).c.seeds.length) h0 (by omega)
       rw [List.getD_eq_getElem?_getD,List.getElem?_eq_getElem (by omega)]
       exact List.getElem_mem _
      obtain ⟨-, -, q3,q4⟩:=ask_ _ false (k.seeds a ha _ hm)
      exact ⟨q3,hv _ _,rfl,q4,hone⟩
theorem pushMs_app (p:Nat) (w:Nat→Nat→List OLet) (a b:List Ms):pushMs p w (a++b)=pushMs p (pushMs p w a) b:=by unfold pushMs;rw [List.foldl_append]
theorem push_none {p:Nat} {outs:List Ms} (h1:∀ x∈outs,x.mq.lr=[]) (h2:∀ x∈outs,1≤x.who) (w:Nat→Nat→List OLet) (i j:Nat):(pushMs p w outs i j).flatMap olr=(w i j).flatMap olr:=by
 by_cases e:i=p
 ·subst e
  rw [pushMs_at i j outs w h2,List.flatMap_append]
  have:=sentM_none outs j h1
  rw [List.flatMap_map]
  show _++(sentM outs j).flatMap Mq.lr=_
  rw [this,List.append_nil]
 ·rw [pushMs_other e]
theorem NInv.adds {N p:Nat} {h:Nat→Hd} {w:Nat→Nat→List OLet} {outs extra:List Ms} (k:NInv N ⟨h,fun i j=>(pushMs p w outs i j).flatMap olr⟩) (h1:∀ x∈extra,x.mq.lr=[]) (h2:∀ x∈extra,1≤x.who):
  NInv N ⟨h,fun i j=>(pushMs p w (outs++extra) i j).flatMap olr⟩:=by
 rw [pushMs_app]
 have e:(fun i j=>(pushMs p (pushMs p w outs) extra i j).flatMap olr)=fun i j=>(pushMs p w outs i j).flatMap olr:=by
  funext i j
  exact push_none h1 h2 _ i j
 rw [e]
 exact k
theorem lr_none {m:Mq} (h:m.kind=2∨7≤m.kind):m.lr=[]:=by
 unfold Mq.lr
 rw [if_neg (by omega),if_neg (by omega)]
theorem OInv.tick {N:Nat} {am pm:Int} {n:ONet} (k:OInv N am pm n) {a:Nat} (ha:a<N) {ds:List Int} (hr:∀ x∈ds,0≤x∧x<4294967296):
  OInv N am pm ⟨upd n.o a (oTick (n.o a) ds).1,pushMs a n.w (oTick (n.o a) ds).2.1⟩∧∀ x∈(oTick (n.o a) ds).2.1,OutOk N a x:=by
 obtain ⟨f1,f2,f3,f4,f5⟩:=k.fill_net ha hr
 have hok:=(k.ok a ha).tick ds
 have hsf:(n.o a).h.v.self=(a:Int)+1:=k.net.self a ha
 have hst:∀ x∈(oStart (oFill (n.o a) ds).1.h.v (oFill (n.o a) ds).1.c.mixA (oFill (n.o a) ds).1.c.mixP (oFill (n.o a) ds).1.c.far (oFill (n.o a) ds).2.2).1,OutOk N a x∧x.mq.lr=[]:=by
  rw [f2]
  intro x hx
  unfold oStart at hx
  split at hx
  ·cases hx
  ·rename_i hne
   rw [List.mem_singleton.1 hx]
   have hm:=(oneV_mem f5 hne).1
   have hw:=k.net.act a ha _ hm
   have hself:(oneV (oFill (n.o a) ds).2.2 (n.o a).h.v.act).1≠(a:Int)+1:=fun e=>(k.net.hi a ha).sane.act (by show (n.o a).h.v.self∈(n.o a).h.v.act;rw [hsf, ←e];exact hm)
   refine ⟨⟨⟨hw.1,hw.2,hself⟩,⟨⟨by show (1:Int)≤7;omega,by show (7:Int)≤8;omega⟩,⟨by show 0≤(n.o a).h.v.self;omega,by show (n.o a).h.v.self≤N;omega⟩,fun _=>by show 1≤(n.o a).h.v.self;omega,⟨by show 0≤min (max _ 0) 15;omega,by show min (max _ 0) 15≤15;omega⟩,?_,?_⟩⟩,lr_none (.inr (by show (7:Int)≤7;omega))⟩
   ·show (mixS _ _ _ _).1.length≤64
    unfold mixS
    simp only [List.length_take]
    omega
   ·intro y hy
    have hy2:y∈(mixS (n.o a).h.v (oFill (n.o a) ds).1.c.mixA (oFill (n.o a) ds).1.c.mixP (oneV (oFill (n.o a) ds).2.2 (n.o a).h.v.act).2.2).1:=hy
    unfold mixS at hy2
    rcases List.mem_cons.1 (List.mem_of_mem_take hy2) with rfl | h
    ·omega
    ·rcases List.mem_append.1 h with h | h
     ·exact k.net.act a ha _ (someS_sub _ _ _ _ _ h)
     ·exact k.pas a ha _ (someS_sub _ _ _ _ _ h)
 have hc1:∀ tk,(({ (oFill (n.o a) ds).1 with ticks:=tk }:Ov)).c=(n.o a).c:=fun _=>f3
 unfold oTick at hok ⊢
 split at hok
 ·rename_i hcond
  rw [if_pos hcond]
  have hout:∀ x∈(oFill (n.o a) ds).2.1.map Ho.ms++(oStart (oFill (n.o a) ds).1.h.v (oFill (n.o a) ds).1.c.mixA (oFill (n.o a) ds).1.c.mixP (oFill (n.o a) ds).1.c.far (oFill (n.o a) ds).2.2).1,OutOk N a x:=fun x hx=>(List.mem_append.1 hx).elim (f4 x) (fun h=>(hst x h).1)
  exact ⟨k.step ha (f1.adds (fun x hx=>(hst x hx).2) (fun x hx=>(hst x hx).1.who.1)) hok f3 (by simp only;rw [f2];exact k.am a ha) (by simp only;rw [f2];exact k.pas a ha) (fun _ _ _ h=>h) hout,hout⟩
 ·rename_i hcond
  rw [if_neg hcond]
  exact ⟨k.step ha f1 hok f3 (by simp only;rw [f2];exact k.am a ha) (by simp only;rw [f2];exact k.pas a ha) (fun _ _ _ h=>h) f4,f4⟩
theorem OInv.pop {N:Nat} {am pm:Int} {n:ONet} (k:OInv N am pm n) {a b:Nat} {l:OLet} {t:List OLet} (hw:n.w a b=l::t) (hl:olr l=[]):OInv N am pm ⟨n.o,upd2 n.w a b t⟩:=by
 have hin:∀ i j m,some m∈upd2 n.w a b t i j→some m∈n.w i j:=by
  intro i j m hm
  by_cases e:i=a∧j=b
  ·obtain ⟨rfl,rfl⟩:=e
   rw [upd2_same] at hm
   rw [hw]
   exact List.mem_cons_of_mem _ hm
  ·rw [upd2_other _ _ e] at hm
   exact hm
 refine ⟨?_,k.ok,k.am,k.pas,k.seeds,fun i hi j hj m hm=>k.msg i hi j hj m (hin i j m hm)⟩
 have e:(fun i j=>(upd2 n.w a b t i j).flatMap olr)=n.net.w:=by
  funext i j
  show _=(n.w i j).flatMap olr
  by_cases e:i=a∧j=b
  ·obtain ⟨rfl,rfl⟩:=e
   rw [upd2_same,hw,List.flatMap_cons,hl,List.nil_append]
  ·rw [upd2_other _ _ e]
 show NInv N ⟨fun i=>(n.o i).h,fun i j=>(upd2 n.w a b t i j).flatMap olr⟩
 rw [e]
 exact k.net
theorem OInv.know_step {N:Nat} {am pm:Int} {n:ONet} (k:OInv N am pm n) {b:Nat} (hb:b<N) {v':Vw} {outs:List Ms} (hg:v'.Good) (hs:v'.Sane) (e1:v'.self=(n.o b).h.v.self) (e2:v'.am=(n.o b).h.v.am) (e3:v'.pm=(n.o b).h.v.pm) (e4:v'.act=(n.o b).h.v.act)
  (hp:∀ x∈v'.pas,1≤x∧x≤N) (ho:∀ x∈outs,OutOk N b x∧x.mq.lr=[]):OInv N am pm ⟨upd n.o b (oSetV (n.o b) v'),pushMs b n.w outs⟩:=by
 have hi:=k.net.hi b hb
 have hi':HI ⟨v',(n.o b).h.asked⟩:=⟨⟨rfl,List.Perm.refl _,List.Perm.refl _,rfl,rfl⟩,List.Perm.refl _,⟨hg,hi.good.asked⟩,hs,by show v'.self∉_;rw [e1];exact hi.self⟩
 have hn:=k.net.know hb (h':=⟨v',(n.o b).h.asked⟩) hi' e1 e2 e4 rfl
 refine k.step hb (w1:=n.w) ?_ ((k.ok b hb).setV hg) rfl ⟨e2.trans (k.am b hb).1,e3.trans (k.am b hb).2⟩ hp (fun _ _ _ h=>h) (fun x hx=>(ho x hx).1)
 have e:(fun i j=>(pushMs b n.w outs i j).flatMap olr)=n.net.w:=by
  funext i j
  exact push_none (fun x hx=>(ho x hx).2) (fun x hx=>(ho x hx).1.who.1) n.w i j
 rw [e]
 exact hn
theorem upd2_lr (n:ONet) (a b:Nat) (t:List OLet):(fun i j=>(upd2 n.w a b t i j).flatMap olr)=upd2 n.net.w a b (t.flatMap olr):=by
 funext i j
 by_cases e:i=a∧j=b
 ·obtain ⟨rfl,rfl⟩:=e
  rw [upd2_same,upd2_same]
 ·rw [upd2_other _ _ e,upd2_other _ _ e]
  rfl
theorem OInv.got_step {N:Nat} {am pm:Int} {n:ONet} (k:OInv N am pm n) {a b:Nat} (ha:a<N) (hb:b<N) (hab:a≠b) {l:OLet} {t:List OLet} (hw:n.w a b=l::t) {y:Lr} (hl:olr l=[y]) {ds:List Int} (hr:∀ x∈ds,0≤x∧x<4294967296)
  {extra:List Ms} (hx:∀ x∈extra,OutOk N b x∧x.mq.lr=[]):
  OInv N am pm ⟨upd n.o b { n.o b with h:=(hOn (n.o b).h ((a:Int)+1) y ds).1 },pushMs b (upd2 n.w a b t) ((hOn (n.o b).h ((a:Int)+1) y ds).2.1.map Ho.ms++extra)⟩∧(∀ x∈(hOn (n.o b).h ((a:Int)+1) y ds).2.1.map Ho.ms++extra,OutOk N b x):=by
 have hw':n.net.w a b=y::t.flatMap olr:=by
  show (n.w a b).flatMap olr=_
  rw [hw,List.flatMap_cons,hl]
  rfl
 obtain ⟨g1, -, g3⟩:=k.net.got ha hb hab hw' hr
 have g1':NInv N ⟨upd (fun i=>(n.o i).h) b (hOn (n.o b).h ((a:Int)+1) y ds).1,pushAll b (fun i j=>(upd2 n.w a b t i j).flatMap olr) (hOn (n.o b).h ((a:Int)+1) y ds).2.1⟩:=by
  rw [upd2_lr]
  exact g1
 have hk:=hOn_kinds (n.o b).h ((a:Int)+1) y ds
 have g3':∀ o∈(hOn (n.o b).h ((a:Int)+1) y ds).2.1,1≤o.who∧o.who≤N∧o.who≠(b:Int)+1:=g3
 have ho:∀ x∈(hOn (n.o b).h ((a:Int)+1) y ds).2.1.map Ho.ms,OutOk N b x:=by
  intro x hx
  obtain ⟨o,ho,rfl⟩:=List.mem_map.1 hx
  have:=hk o ho
  exact Ho.ms_out (g3' o ho) (by omega) (by omega)
 have hgood:(hOn (n.o b).h ((a:Int)+1) y ds).1.Good:=by
  have:=(g1'.hi b hb).good
  simp only [upd_same] at this
  exact this
 obtain ⟨p1,p2,p3⟩:=hOn_pas (k.ok b hb).h ((a:Int)+1) y ds
 have hall:∀ x∈(hOn (n.o b).h ((a:Int)+1) y ds).2.1.map Ho.ms++extra,OutOk N b x:=fun x hx'=>(List.mem_append.1 hx').elim (ho x) (fun h=>(hx x h).1)
 refine ⟨k.step hb ((g1'.sends (fun o ho=>(g3' o ho).1) (fun x hx=>(ho x hx).who.1) (fun j=>by rw [sentM_ms j _ hk])).adds (fun x h=>(hx x h).2) (fun x h=>(hx x h).1.who.1)) ((k.ok b hb).setH hgood) rfl ⟨p3.trans (k.am b hb).1,p2.trans (k.am b hb).2⟩ (fun x hx=>?_) ?_ hall,hall⟩
 ·rcases p1 x hx with h | h
  ·exact k.pas b hb x h
  ·exact k.net.act b hb x h
 ·intro i j m hm
  by_cases e:i=a∧j=b
  ·obtain ⟨rfl,rfl⟩:=e
   rw [upd2_same] at hm
   rw [hw]
   exact List.mem_cons_of_mem _ hm
  ·rw [upd2_other _ _ e] at hm
   exact hm
theorem OInv.broke {N:Nat} {am pm:Int} {n:ONet} (k:OInv N am pm n) {a b:Nat} (ha:a<N) (hb:b<N) (hab:a≠b) {t:List OLet} (hw:n.w a b=none::t):OInv N am pm ⟨upd n.o b (oBroke (n.o b) ((a:Int)+1)),upd2 n.w a b t⟩:=by
 have:=(k.got_step ha hb hab hw (y:=⟨0,false⟩) rfl (ds:=[]) (fun x hx=>nomatch hx) (extra:=[]) (fun x hx=>nomatch hx)).1
 exact this
theorem OInv.start {N:Nat} (hN:N≤60000) {am pm:Int} (h1:1≤am) {o:Nat→Ov} (ho:∀ i,i<N→(o i).Ok∧(o i).h=hNew ((i:Int)+1) am pm∧∀ x∈(o i).c.seeds,1≤x∧x≤N) (ham:min (max am 0) 64=am) (hpm:min (max pm 0) 64=pm):OInv N am pm ⟨o,fun _ _=>[]⟩:=by
 have hs:=NInv.start hN am pm h1
 refine ⟨?_,fun i hi=>(ho i hi).1,fun i hi=>(by rw [(ho i hi).2.1];exact ⟨ham,hpm⟩),fun i hi x hx=>(by rw [(ho i hi).2.1] at hx;simp [hNew] at hx),fun i hi=>(ho i hi).2.2,fun i hi j hj m hm=>(by simp at hm)⟩
 refine ⟨hN,fun i hi=>?_,fun i hi=>?_,fun i hi=>?_,fun i hi=>?_,fun i hi j hj hij=>?_⟩
 ·show HI (o i).h;rw [(ho i hi).2.1];exact hs.hi i hi
 ·show (o i).h.v.self=_;rw [(ho i hi).2.1];rfl
 ·show 0<(o i).h.v.am;rw [(ho i hi).2.1];exact hs.am i hi
 ·show ∀ x∈(o i).h.v.act,_;rw [(ho i hi).2.1];exact hs.act i hi
 ·have:=hs.pb i hi j hj hij
  unfold Net.PB at this ⊢
  show PairLaw.Both ((j:Int)+1∈(o i).h.v.act) ((j:Int)+1∈(o i).h.asked) ((i:Int)+1∈(o j).h.v.act) ((i:Int)+1∈(o j).h.asked) _ _
  rw [(ho i hi).2.1,(ho j hj).2.1]
  exact this
theorem OInv.brk {N:Nat} {am pm:Int} {n:ONet} (k:OInv N am pm n) {a b:Nat} (hab:a≠b):OInv N am pm ⟨n.o,upd2 (upd2 n.w a b [none]) b a [none]⟩:=by
 have hin:∀ i j m,some m∈upd2 (upd2 n.w a b [none]) b a [none] i j→some m∈n.w i j:=by
  intro i j m hm
  by_cases e:i=b∧j=a
  ·obtain ⟨rfl,rfl⟩:=e
   rw [upd2_same] at hm
   cases List.mem_singleton.1 hm
  ·rw [upd2_other _ _ e] at hm
   by_cases e2:i=a∧j=b
   ·obtain ⟨rfl,rfl⟩:=e2
    rw [upd2_same] at hm
    cases List.mem_singleton.1 hm
   ·rw [upd2_other _ _ e2] at hm
    exact hm
 refine ⟨?_,k.ok,k.am,k.pas,k.seeds,fun i hi j hj m hm=>k.msg i hi j hj m (hin i j m hm)⟩
 have e:(fun i j=>(upd2 (upd2 n.w a b [none]) b a [none] i j).flatMap olr)=upd2 (upd2 n.net.w a b [⟨0,false⟩]) b a [⟨0,false⟩]:=by
  funext i j
  by_cases e:i=b∧j=a
  ·obtain ⟨rfl,rfl⟩:=e
   rw [upd2_same,upd2_same]
   rfl
  ·rw [upd2_other _ _ e,upd2_other _ _ e]
   by_cases e2:i=a∧j=b
   ·obtain ⟨rfl,rfl⟩:=e2
    rw [upd2_same,upd2_same]
    rfl
   ·rw [upd2_other _ _ e2,upd2_other _ _ e2]
    rfl
 show NInv N ⟨fun i=>(n.o i).h,fun i j=>(upd2 (upd2 n.w a b [none]) b a [none] i j).flatMap olr⟩
 rw [e]
 exact k.net.brk hab
theorem OInv.rest {N:Nat} {am pm:Int} {n:ONet} (k:OInv N am pm n) {i j:Nat} (hi:i<N) (hj:j<N) (h1:n.w i j=[]) (h2:n.w j i=[]) (ha:(j:Int)+1∈(n.o i).h.v.act):(i:Int)+1∈(n.o j).h.v.act:=
 k.net.rest hi hj (show (n.w i j).flatMap olr=[] by rw [h1];rfl) (show (n.w j i).flatMap olr=[] by rw [h2];rfl) ha
theorem on_act {v:Vw} {a b:Int} {ds:List Int} (hr:∀ x∈ds,0≤x∧x<4294967296) (h:(onV v a b ds).2.1=true):(onV v a b ds).1∈v.act:=by
 unfold onV at h ⊢
 have hne:but v.act [a,b]≠[]:=fun e=>by unfold oneV at h;rw [e,if_pos rfl] at h;cases h
 exact (List.mem_filter.1 (oneV_mem hr hne).1).1
theorem wJoin_on {v:Vw} {a b left know:Int} {ds:List Int} (hr:∀ x∈ds,0≤x∧x<4294967296) (h:(wJoin v a b left know ds).1=false):1≤left∧(wJoin v a b left know ds).2.1∈v.act:=by
 unfold wJoin at h ⊢
 split at h
 ·cases h
 ·rename_i hc
  rw [if_neg hc]
  simp only [Bool.not_eq_false'] at h ⊢
  exact ⟨by omega,on_act hr h⟩
theorem wMix_next {v:Vw} {a b left:Int} {ds:List Int} (hr:∀ x∈ds,0≤x∧x<4294967296) (h:(wMix v a b left ds).1=false):1≤left∧(wMix v a b left ds).2.1∈v.act:=by
 unfold wMix at h ⊢
 split at h
 ·cases h
 ·rename_i hc
  rw [if_neg hc]
  simp only [Bool.not_eq_false'] at h ⊢
  exact ⟨by omega,on_act hr h⟩
theorem OInv.take {N:Nat} {am pm:Int} {n:ONet} (k:OInv N am pm n) {a b:Nat} (ha:a<N) (hb:b<N) (hab:a≠b) {m:Mq} {t:List OLet} (hw:n.w a b=some m::t) {ds:List Int} (hr:∀ x∈ds,0≤x∧x<4294967296):
  OInv N am pm ⟨upd n.o b (oTake (n.o b) ((a:Int)+1) m ds).1,pushMs b (upd2 n.w a b t) (oTake (n.o b) ((a:Int)+1) m ds).2.1⟩∧∀ x∈(oTake (n.o b) ((a:Int)+1) m ds).2.1,OutOk N b x:=by
 have hm:MOk N m:=k.msg a ha b hb m (by rw [hw];exact List.mem_cons_self)
 have hsf:(n.o b).h.v.self=(b:Int)+1:=k.net.self b hb
 have hsane:(n.o b).h.v.Sane:=(k.net.hi b hb).sane
 have hgood:(n.o b).h.v.Good:=(k.ok b hb).h.v
 have hact:∀ x∈(n.o b).h.v.act,1≤x∧x≤N∧x≠(b:Int)+1:=fun x hx=>⟨(k.net.act b hb x hx).1,(k.net.act b hb x hx).2,fun e=>hsane.act (by rw [hsf, ←e];exact hx)⟩
 have hmk:=hm.kind
 have hmn:=hm.node
 have hmw:=hm.walk
 have hto:∀ nx,m.kind=2∨m.kind=7→1≤m.walk→nx∈(n.o b).h.v.act→OutOk N b (m.to nx)∧(m.to nx).mq.lr=[]:=fun nx hk h1 hx=>
  ⟨⟨hact nx hx,⟨hm.kind,hm.node,fun _=>hm.who hk,⟨by show 0≤m.walk-1;omega,by show m.walk-1≤15;omega⟩,hm.len,hm.nodes⟩⟩,lr_none (hk.elim .inl (fun e=> .inr (by show 7≤m.kind;omega)))⟩
 unfold oTake
 by_cases k1:m.kind=1
 ·rw [if_pos k1]
  have hl:olr (some m)=[⟨3,true⟩]:=by unfold olr Mq.lr;simp only;rw [if_pos k1]
  have e:hOn (n.o b).h ((a:Int)+1) ⟨3,true⟩ ds=hOnAsk (n.o b).h ((a:Int)+1) true ds:=by unfold hOn;rw [if_pos rfl]
  unfold oJoins
  rw [←e]
  refine k.got_step ha hb hab hw hl hr (fun x hx=>?_)
  split at hx
  ·obtain ⟨y,hy,rfl⟩:=List.mem_map.1 hx
   have hw':n.net.w a b=⟨3,true⟩::t.flatMap olr:=by
    show (n.w a b).flatMap olr=_
    rw [hw,List.flatMap_cons,hl]
    rfl
   obtain ⟨g1, -, -⟩:=k.net.got ha hb hab hw' hr
   have g2:=g1.act b hb
   have g3:=(g1.hi b hb).sane
   have g4:=g1.self b hb
   unfold nGot at g2 g3 g4
   simp only [upd_same] at g2 g3 g4
   have hy1:y∈(hOn (n.o b).h ((a:Int)+1) ⟨3,true⟩ ds).1.v.act:=(List.mem_filter.1 hy).1
   have hy2:=g2 y hy1
   have hfar:=(k.ok b hb).far
   refine ⟨⟨⟨hy2.1,hy2.2,fun e2=>g3.act ?_⟩,⟨⟨by show (1:Int)≤2;omega,by show (2:Int)≤8;omega⟩,⟨by show 0≤(a:Int)+1;omega,by show (a:Int)+1≤N;omega⟩,fun _=>by show 1≤(a:Int)+1;omega,⟨hfar.1,hfar.2⟩,Nat.zero_le _,fun z hz=>(by cases hz)⟩⟩,lr_none (.inl rfl)⟩
   have g4':(hOn (n.o b).h ((a:Int)+1) ⟨3,true⟩ ds).1.v.self=(b:Int)+1:=g4
   show (hOn (n.o b).h ((a:Int)+1) ⟨3,true⟩ ds).1.v.self∈(hOn (n.o b).h ((a:Int)+1) ⟨3,true⟩ ds).1.v.act
   rw [g4']
   have:y=(b:Int)+1:=e2
   rw [←this]
   exact hy1
  ·cases hx
 ·rw [if_neg k1]
  by_cases k2:m.kind=2
  ·rw [if_pos k2]
   have kp:=k.pop hw (show olr (some m)=[] from lr_none (.inl k2))
   unfold oForward
   by_cases he:(wJoin (n.o b).h.v ((a:Int)+1) m.node m.walk (n.o b).c.near ds).1=true
   ·rw [if_pos he]
    obtain ⟨q1,q2,q3⟩:=kp.ask_net hb (t:=m.node) ⟨hm.who (.inl k2),hmn.2⟩ false
    have ho:∀ x∈(hAsk (n.o b).h m.node false).2.map Ho.ms,OutOk N b x:=by
     intro x hx
     obtain ⟨y,hy,rfl⟩:=List.mem_map.1 hx
     obtain ⟨e1,e2⟩:=q3 y hy
     exact Ho.ms_out e2 (by omega) (by omega)
    unfold oAsk
    refine ⟨kp.step hb (q1.sends (fun o ho=>(q3 o ho).2.1) (fun x hx=>(ho x hx).who.1) (fun j=>by rw [sentM_ms j _ (fun h hh=>by have:=(q3 h hh).1;omega)])) ((k.ok b hb).setH (hAsk_good (k.ok b hb).h _ _)) rfl (by simp only at q2 ⊢;rw [q2];exact k.am b hb) (by simp only at q2 ⊢;rw [q2];exact k.pas b hb) (fun _ _ _ h=>h) ho,ho⟩
   ·rw [if_neg he]
    have he2:(wJoin (n.o b).h.v ((a:Int)+1) m.node m.walk (n.o b).c.near ds).1=false:=by simpa using he
    obtain ⟨w1,w2⟩:=wJoin_on hr he2
    have hx:=hto _ (.inl k2) w1 w2
    have hv:∀ kn d,(oFwdV (n.o b) m kn d).1.Good∧(oFwdV (n.o b) m kn d).1.Sane∧(oFwdV (n.o b) m kn d).1.self=(n.o b).h.v.self∧(oFwdV (n.o b) m kn d).1.am=(n.o b).h.v.am∧(oFwdV (n.o b) m kn d).1.pm=(n.o b).h.v.pm∧(oFwdV (n.o b) m kn d).1.act=(n.o b).h.v.act∧∀ x∈(oFwdV (n.o b) m kn d).1.pas,1≤x∧x≤N:=by
     intro kn d
     unfold oFwdV
     split
     ·obtain ⟨s1,s2,s3,s4⟩:=vKnow_am (n.o b).h.v m.node d
      refine ⟨vKnow_good hgood _ _,vKnow_sane hgood hsane _ _,s1,s2,s3,s4,fun x hx=>?_⟩
      rcases vKnow_pas hgood m.node d hx with h | h
      ·rw [h];exact ⟨hm.who (.inl k2),hmn.2⟩
      ·exact k.pas b hb x h
     ·exact ⟨hgood,hsane,rfl,rfl,rfl,rfl,k.pas b hb⟩
    obtain ⟨v1,v2,v3,v4,v5,v6,v7⟩:=hv (wJoin (n.o b).h.v ((a:Int)+1) m.node m.walk (n.o b).c.near ds).2.2.1 (wJoin (n.o b).h.v ((a:Int)+1) m.node m.walk (n.o b).c.near ds).2.2.2
    have ho:∀ x∈[m.to (wJoin (n.o b).h.v ((a:Int)+1) m.node m.walk (n.o b).c.near ds).2.1],OutOk N b x∧x.mq.lr=[]:=fun x h=>by rw [List.mem_singleton.1 h];exact hx
    exact ⟨kp.know_step hb v1 v2 v3 v4 v5 v6 v7 ho,fun x h=>(ho x h).1⟩
  ·rw [if_neg k2]
   have hand:∀ (r:Hd×List Ho×List Int),3≤m.kind∧m.kind≤6→hOn (n.o b).h ((a:Int)+1) ⟨m.kind,m.high⟩ ds=r→
     OInv N am pm ⟨upd n.o b { n.o b with h:=r.1 },pushMs b (upd2 n.w a b t) (r.2.1.map Ho.ms)⟩∧∀ x∈r.2.1.map Ho.ms,OutOk N b x:=by
    intro r hk e
    have hl:olr (some m)=[⟨m.kind,m.high⟩]:=by unfold olr Mq.lr;simp only;rw [if_neg (by omega),if_pos hk]
    have:=k.got_step ha hb hab hw hl hr (extra:=[]) (fun x hx=>(by cases hx))
    rw [e,List.append_nil] at this
    exact this
   by_cases k3:m.kind=3
   ·rw [if_pos k3]
    exact hand _ (by omega) (by unfold hOn;rw [if_pos k3])
   ·rw [if_neg k3]
    by_cases k4:m.kind=4
    ·rw [if_pos k4]
     exact hand _ (by omega) (by unfold hOn;rw [if_neg k3,if_pos k4])
    ·rw [if_neg k4]
     by_cases k5:m.kind=5
     ·rw [if_pos k5]
      exact hand _ (by omega) (by unfold hOn;rw [if_neg k3,if_neg k4,if_pos k5])
     ·rw [if_neg k5]
      by_cases k6:m.kind=6
      ·rw [if_pos k6]
       exact hand ((hOnBye (n.o b).h ((a:Int)+1) ds).1,[],(hOnBye (n.o b).h ((a:Int)+1) ds).2) (by omega) (by unfold hOn;rw [if_neg k3,if_neg k4,if_neg k5,if_pos k6])
      ·rw [if_neg k6]
       have kp:=k.pop hw (show olr (some m)=[] from lr_none (.inr (by omega)))
       have kall:∀ d outs,(∀ x∈outs,OutOk N b x∧x.mq.lr=[])→OInv N am pm ⟨upd n.o b (oSetV (n.o b) (kAll (n.o b).h.v m.nodes d).1),pushMs b (upd2 n.w a b t) outs⟩∧∀ x∈outs,OutOk N b x:=by
        intro d outs ho
        obtain ⟨s1,s2,s3,s4⟩:=kAll_same m.nodes (n.o b).h.v d
        refine ⟨kp.know_step hb (kAll_good _ _ _ hgood) (kAll_sane _ _ _ hgood hsane) s1 s2 s3 s4 (fun x hx=>?_) ho,fun x h=>(ho x h).1⟩
        rcases kAll_pas _ _ _ hgood x hx with h | h
        ·exact hm.nodes x h
        ·exact k.pas b hb x h
       by_cases k7:m.kind=7
       ·rw [if_pos k7]
        unfold mShuf
        by_cases he:(wMix (n.o b).h.v ((a:Int)+1) m.node m.walk ds).1=false
        ·rw [if_pos he]
         obtain ⟨w1,w2⟩:=wMix_next hr he
         have ho:∀ x∈[m.to (wMix (n.o b).h.v ((a:Int)+1) m.node m.walk ds).2.1],OutOk N b x∧x.mq.lr=[]:=fun x h=>by rw [List.mem_singleton.1 h];exact hto _ (.inr k7) w1 w2
         exact ⟨kp.know_step hb hgood hsane rfl rfl rfl rfl (k.pas b hb) ho,fun x h=>(ho x h).1⟩
        ·rw [if_neg he]
         refine kall _ _ (fun x hx=>?_)
         split at hx
         ·rename_i hans
          rw [List.mem_singleton.1 hx]
          have hd:∀ y∈(wMix (n.o b).h.v ((a:Int)+1) m.node m.walk ds).2.2.2,0≤y∧y<4294967296:=by
           unfold wMix
           split
           ·exact hr
           ·exact oneV_range hr
          have hwant:(osWant (n.o b).h.v m (wMix (n.o b).h.v ((a:Int)+1) m.node m.walk ds).2.2.2).1.length≤64∧∀ y∈(osWant (n.o b).h.v m (wMix (n.o b).h.v ((a:Int)+1) m.node m.walk ds).2.2.2).1,1≤y∧y≤N:=by
           unfold osWant
           rw [if_pos hans]
           exact ⟨Nat.le_trans (someS_le hd) hgood.pas.len,fun y hy=>k.pas b hb y (someS_sub _ _ _ _ _ hy)⟩
          unfold osAns at hans
          simp only [Bool.and_eq_true,bne_iff_ne,ne_eq,decide_eq_true_eq] at hans
          exact ⟨⟨⟨hans.2,hmn.2,fun e=>hans.1 (by rw [hsf];exact e)⟩,⟨⟨by show (1:Int)≤8;omega,by show (8:Int)≤8;omega⟩,⟨by show (0:Int)≤0;omega,by show (0:Int)≤N;omega⟩,fun e=>by rcases e with e | e<;>exact absurd e (by show ¬ (8:Int)=_;omega),⟨by show (0:Int)≤0;omega,by show (0:Int)≤15;omega⟩,hwant.1,hwant.2⟩⟩,lr_none (.inr (by show (7:Int)≤8;omega))⟩
         ·cases hx
       ·rw [if_neg k7,if_pos (by omega)]
        exact kall ds [] (fun x hx=>(by cases hx))
end
end Go.Proofs.YtelepohdfcjnfaaGreat
