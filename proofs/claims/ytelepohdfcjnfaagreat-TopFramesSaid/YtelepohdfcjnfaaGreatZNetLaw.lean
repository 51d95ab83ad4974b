/-
  Some hands whose ways are ordered and break: what stays true of all pairs of them.
-/
import Derived.Test.YtelepohdfcjnfaaGreatZPairLaw
import Derived.Test.YtelepohdfcjnfaaGreatZHand
namespace Go.Proofs.YtelepohdfcjnfaaGreat
open Go.RowKit Go.Proofs
structure Lr where
 kind:Int
 high:Bool
def Lr.pl (x:Lr):PLet:=if x.kind=3 then .lAsk else if x.kind=4 then .lYes else if x.kind=5 then .lNo else if x.kind=6 then .lBye else .lBrk
structure Net where
 h:Nat→Hd
 w:Nat→Nat→List Lr
def upd {α:Type} (f:Nat→α) (i:Nat) (v:α):Nat→α:=fun j=>if j=i then v else f j
theorem upd_same {α:Type} (f:Nat→α) (i:Nat) (v:α):upd f i v i=v:=by unfold upd;rw [if_pos rfl]
theorem upd_other {α:Type} (f:Nat→α) {i j:Nat} (v:α) (h:j≠i):upd f i v j=f j:=by unfold upd;rw [if_neg h]
def upd2 {α:Type} (f:Nat→Nat→α) (i j:Nat) (v:α):Nat→Nat→α:=upd f i (upd (f i) j v)
theorem upd2_same {α:Type} (f:Nat→Nat→α) (i j:Nat) (v:α):upd2 f i j v i j=v:=by unfold upd2;rw [upd_same,upd_same]
theorem upd2_other {α:Type} (f:Nat→Nat→α) {i j i' j':Nat} (v:α) (h:¬ (i'=i∧j'=j)):upd2 f i j v i' j'=f i' j':=by
 unfold upd2
 by_cases e:i'=i
 ·subst e
  rw [upd_same,upd_other _ _ (fun e=>h ⟨rfl,e⟩)]
 ·rw [upd_other _ _ e]
def Net.PB (n:Net) (i j:Nat):Prop:=
 PairLaw.Both ((j:Int)+1∈(n.h i).v.act) ((j:Int)+1∈(n.h i).asked) ((i:Int)+1∈(n.h j).v.act) ((i:Int)+1∈(n.h j).asked) ((n.w i j).map Lr.pl) ((n.w j i).map Lr.pl)
theorem Net.PB.swap {n:Net} {i j:Nat} (h:n.PB i j):n.PB j i:=⟨h.2,h.1⟩
def pushO (p:Nat) (w:Nat→Nat→List Lr) (o:Ho):Nat→Nat→List Lr:=upd2 w p (o.who-1).toNat (w p (o.who-1).toNat++[⟨o.kind,o.high⟩])
def pushAll (p:Nat) (w:Nat→Nat→List Lr) (outs:List Ho):Nat→Nat→List Lr:=outs.foldl (pushO p) w
def sent (outs:List Ho) (j:Nat):List Lr:=(outs.filter (fun o=>o.who==(j:Int)+1)).map (fun o=>⟨o.kind,o.high⟩)
theorem pushAll_other {p i:Nat} (h:i≠p):∀ (outs:List Ho) (w:Nat→Nat→List Lr) (j:Nat),pushAll p w outs i j=w i j
 | [],_,_=>rfl
 | o::t,w,j=>by
  show pushAll p (pushO p w o) t i j=_
  rw [pushAll_other h t]
  exact upd2_other _ _ (fun e=>h e.1)
theorem pushAll_at (p j:Nat):∀ (outs:List Ho) (w:Nat→Nat→List Lr),(∀ o∈outs,1≤o.who)→pushAll p w outs p j=w p j++sent outs j
 | [],_,_=>(List.append_nil _).symm
 | o::t,w,h=>by
  show pushAll p (pushO p w o) t p j=_
  rw [pushAll_at p j t _ (fun x hx=>h x (List.mem_cons_of_mem _ hx))]
  have h1:=h o List.mem_cons_self
  unfold sent pushO
  by_cases e:o.who=(j:Int)+1
  ·have e2:(o.who-1).toNat=j:=by omega
   rw [e2,upd2_same,List.filter_cons_of_pos (by simpa using e),List.map_cons,List.append_assoc]
   rfl
  ·rw [upd2_other _ _ (fun e3=>e (by have:=e3.2;omega)),List.filter_cons_of_neg (by simpa using e)]
structure NInv (N:Nat) (n:Net):Prop where
 le:N≤60000
 hi:∀ i,i<N→HI (n.h i)
 self:∀ i,i<N→(n.h i).v.self=(i:Int)+1
 am:∀ i,i<N→0<(n.h i).v.am
 act:∀ i,i<N→∀ x∈(n.h i).v.act,1≤x∧x≤N
 pb:∀ i,i<N→∀ j,j<N→i≠j→n.PB i j
theorem NInv.step {N:Nat} {n:Net} (k:NInv N n) {p:Nat} (hp:p<N) {h':Hd} {outs:List Ho} {w1:Nat→Nat→List Lr}
  (hi:HI h') (hs:h'.v.self=(p:Int)+1) (ha:0<h'.v.am) (hact:∀ x∈h'.v.act,1≤x∧x≤N)
  (hw1:∀ i j,j≠p→w1 i j=n.w i j) (hout:∀ o∈outs,1≤o.who)
  (hpb:∀ j,j<N→j≠p→PairLaw.Both ((j:Int)+1∈h'.v.act) ((j:Int)+1∈h'.asked) ((p:Int)+1∈(n.h j).v.act) ((p:Int)+1∈(n.h j).asked) ((n.w p j++sent outs j).map Lr.pl) ((w1 j p).map Lr.pl)):
  NInv N ⟨upd n.h p h',pushAll p w1 outs⟩:=by
 have key:∀ j,j<N→j≠p→Net.PB ⟨upd n.h p h',pushAll p w1 outs⟩ p j:=by
  intro j hj hjp
  have:=hpb j hj hjp
  unfold Net.PB
  simp only
  rw [upd_same,upd_other _ _ hjp,pushAll_at p j outs w1 hout,pushAll_other hjp,hw1 p j hjp]
  exact this
 refine ⟨k.le,?_,?_,?_,?_,?_⟩
 ·intro i h4
  by_cases e:i=p
  ·subst e;simp only [upd_same];exact hi
  ·simp only [upd_other _ _ e];exact k.hi i h4
 ·intro i h4
  by_cases e:i=p
  ·subst e;simp only [upd_same];exact hs
  ·simp only [upd_other _ _ e];exact k.self i h4
 ·intro i h4
  by_cases e:i=p
  ·subst e;simp only [upd_same];exact ha
  ·simp only [upd_other _ _ e];exact k.am i h4
 ·intro i h4
  by_cases e:i=p
  ·subst e;simp only [upd_same];exact hact
  ·simp only [upd_other _ _ e];exact k.act i h4
 ·intro i h4 j j4 hij
  by_cases e:i=p
  ·subst e
   exact key j j4 (fun e=>hij e.symm)
  ·by_cases e2:j=p
   ·subst e2
    exact (key i h4 e).swap
   ·have:=k.pb i h4 j j4 hij
    unfold Net.PB at this ⊢
    simp only
    rw [upd_other _ _ e,upd_other _ _ e2,pushAll_other e,pushAll_other e2,hw1 i j e2,hw1 j i e]
    exact this
def nAsk (n:Net) (a b:Nat) (high:Bool):Net:=⟨upd n.h a (hAsk (n.h a) ((b:Int)+1) high).1,pushAll a n.w (hAsk (n.h a) ((b:Int)+1) high).2⟩
theorem sent_none (outs:List Ho) (j:Nat) (h:∀ o∈outs,o.who≠(j:Int)+1):sent outs j=[]:=by
 unfold sent
 rw [List.filter_eq_nil_iff.2 (fun o ho=>by simpa using h o ho)]
 rfl
theorem sent_one (x:Ho) (j:Nat) (h:x.who=(j:Int)+1):sent [x] j=[⟨x.kind,x.high⟩]:=by
 unfold sent
 rw [List.filter_cons_of_pos (by simpa using h)]
 rfl
theorem NInv.ask {N:Nat} {n:Net} (k:NInv N n) {a b:Nat} (ha:a<N) (hb:b<N) (hab:a≠b) (high:Bool):NInv N (nAsk n a b high):=by
 unfold nAsk
 rcases hAsk_law (k.hi a ha) ((b:Int)+1) high with ⟨e,h1,h2,h3,h4,h5⟩ | e
 ·rw [e]
  refine k.step ha h5 (k.self a ha) (k.am a ha) (k.act a ha) (fun _ _ _=>rfl) (by simp;omega) ?_
  intro j hj hja
  have P:=k.pb a ha j hj (fun e=>hja e.symm)
  unfold Net.PB at P
  by_cases ej:j=b
  ·subst ej
   rw [sent_one _ _ rfl,List.map_append]
   have hT:((j:Int)+1∈sAdd (n.h a).asked 64 ((j:Int)+1))=True:=eq_true ((h4 _).2 (.inl rfl))
   simp only [hT]
   exact PairLaw.t_ask P h1
  ·rw [sent_none _ _ (by simp;omega),List.append_nil]
   have hT:((j:Int)+1∈sAdd (n.h a).asked 64 ((b:Int)+1))=((j:Int)+1∈(n.h a).asked):=propext ⟨fun h=>((h4 _).1 h).resolve_left (by omega),fun h=>(h4 _).2 (.inr h)⟩
   simp only [hT]
   exact P
 ·rw [e]
  refine k.step ha (k.hi a ha) (k.self a ha) (k.am a ha) (k.act a ha) (fun _ _ _=>rfl) (by simp) ?_
  intro j hj hja
  rw [sent_none _ _ (by simp),List.append_nil]
  exact k.pb a ha j hj (fun e=>hja e.symm)
theorem took_at {h h':Hd} {n:Int} {o:List Ho} (t:Took h n h' o) (g:HI h) {j:Nat} (hj:(j:Int)+1=n):sent o j=[]∧n∈h'.v.act∧(n∈h'.asked↔n∈h.asked):=by
 subst hj
 refine ⟨?_,t.has,?_⟩
 ·rcases t.way with ⟨-, -, rfl⟩ | ⟨-, -, rfl, -⟩ | ⟨-, -, old, -, ho,rfl, -⟩
  ·rfl
  ·rfl
  ·exact sent_none _ _ (by simpa using ho)
 ·rcases t.way with ⟨-, rfl, -⟩ | ⟨-, -, -, e, -⟩ | ⟨-, -, old, -, ho, -, e, -⟩
  ·exact Iff.rfl
  ·rw [e]
  ·rw [e,sDrop_mem g.good.asked.up]
   exact ⟨fun x=>x.1,fun x=>⟨x,fun e=>ho e.symm⟩⟩
theorem took_by {h h':Hd} {n:Int} {o:List Ho} (t:Took h n h' o) (g:HI h) {j:Nat} (hj:(j:Int)+1≠n):
  (sent o j=[]∧((j:Int)+1∈h'.v.act↔(j:Int)+1∈h.v.act)∧((j:Int)+1∈h'.asked↔(j:Int)+1∈h.asked))∨
  (sent o j=[⟨6,false⟩]∧(j:Int)+1∈h.v.act∧(j:Int)+1∉h'.v.act∧(j:Int)+1∉h'.asked):=by
 rcases t.way with ⟨-, rfl,rfl⟩ | ⟨-, -, rfl,e,a⟩ | ⟨-, -, old,hm,ho,rfl,e,a⟩
 ·exact .inl ⟨rfl,Iff.rfl,Iff.rfl⟩
 ·exact .inl ⟨rfl,⟨fun x=>((a _).1 x).resolve_left hj,fun x=>(a _).2 (.inr x)⟩,by rw [e]⟩
 ·by_cases ej:old=(j:Int)+1
  ·subst ej
   exact .inr ⟨sent_one _ _ rfl,hm,fun x=>((a _).1 x).elim hj (fun h=>h.2 rfl),fun x=>by rw [e,sDrop_mem g.good.asked.up] at x;exact x.2 rfl⟩
  ·left
   refine ⟨sent_none _ _ (by simpa using ej),⟨fun x=>(((a _).1 x).resolve_left hj).1,fun x=>(a _).2 (.inr ⟨x,fun e=>ej e.symm⟩)⟩,?_⟩
   rw [e,sDrop_mem g.good.asked.up]
   exact ⟨fun x=>x.1,fun x=>⟨x,fun e=>ej e.symm⟩⟩
theorem took_few {h h':Hd} {n:Int} {o:List Ho} (t:Took h n h' o):o.length≤1∧∀ x∈o,x.who∈h.v.act:=by
 rcases t.way with ⟨-, -, rfl⟩ | ⟨-, -, rfl, -⟩ | ⟨-, -, old,hm, -, rfl, -⟩
 ·exact ⟨by simp,by simp⟩
 ·exact ⟨by simp,by simp⟩
 ·exact ⟨by simp,by simpa using hm⟩
theorem took_act {h h':Hd} {n:Int} {o:List Ho} (t:Took h n h' o) {x:Int} (hx:x∈h'.v.act):x=n∨x∈h.v.act:=by
 rcases t.way with ⟨-, rfl, -⟩ | ⟨-, -, -, -, a⟩ | ⟨-, -, old, -, -, -, -, a⟩
 ·exact .inr hx
 ·exact (a x).1 hx
 ·rcases (a x).1 hx with h | h
  ·exact .inl h
  ·exact .inr h.1
theorem sent_app (a b:List Ho) (j:Nat):sent (a++b) j=sent a j++sent b j:=by unfold sent;rw [List.filter_append,List.map_append]
theorem map_push (w:List Lr) (x:Lr):(w++[x]).map Lr.pl=w.map Lr.pl++[x.pl]:=by rw [List.map_append];rfl
theorem Both.of {a k a' k' a2 k2:Prop} {w w':List PLet} (h:PairLaw.Both a k a' k' w w') (ha:a2↔a) (hk:k2↔k):PairLaw.Both a2 k2 a' k' w w':=by
 rw [propext ha,propext hk]
 exact h
def hOn (h:Hd) (n:Int) (y:Lr) (ds:List Int):Hd×List Ho×List Int:=
 if y.kind=3 then hOnAsk h n y.high ds else if y.kind=4 then hOnYes h n ds else if y.kind=5 then hOnNo h n ds else
  if y.kind=6 then ((hOnBye h n ds).1,[],(hOnBye h n ds).2) else (hOnBreak h n,[],ds)
def nGot (n:Net) (a b:Nat) (t:List Lr) (r:Hd×List Ho×List Int):Net:=⟨upd n.h b r.1,pushAll b (upd2 n.w a b t) r.2.1⟩
theorem NInv.got {N:Nat} {n:Net} (k:NInv N n) {a b:Nat} (ha:a<N) (hb:b<N) (hab:a≠b) {y:Lr} {t:List Lr} (hw:n.w a b=y::t) {ds:List Int} (hr:∀ x∈ds,0≤x∧x<4294967296):
  NInv N (nGot n a b t (hOn (n.h b) ((a:Int)+1) y ds))∧(hOn (n.h b) ((a:Int)+1) y ds).2.1.length≤2∧∀ o∈(hOn (n.h b) ((a:Int)+1) y ds).2.1,1≤o.who∧o.who≤N∧o.who≠(b:Int)+1:=by
 have hi:=k.hi b hb
 have hle:=k.le
 have hsf:=k.self b hb
 have ham:=k.am b hb
 have hact:=k.act b hb
 have hns:(a:Int)+1≠(n.h b).v.self:=by rw [hsf];omega
 have hself:∀ x∈(n.h b).v.act,x≠(b:Int)+1:=fun x hx e=>hi.sane.act (by rw [hsf, ←e];exact hx)
 have hW:∀ i j,j≠b→upd2 n.w a b t i j=n.w i j:=fun i j h=>upd2_other _ _ (fun e=>h e.2)
 have hWj:∀ j,j≠a→upd2 n.w a b t j b=n.w j b:=fun j h=>upd2_other _ _ (fun e=>h e.1)
 have hP:∀ j,j<N→j≠b→n.PB b j:=fun j hj h=>k.pb b hb j hj (fun e=>h e.symm)
 have hPa:=hP a ha hab
 unfold Net.PB at hPa
 rw [hw,List.map_cons] at hPa
 have hPj:∀ (h':Hd) (outs:List Ho) (j:Nat),j<N→j≠b→j≠a→sent outs j=[]→((j:Int)+1∈h'.v.act↔(j:Int)+1∈(n.h b).v.act)→((j:Int)+1∈h'.asked↔(j:Int)+1∈(n.h b).asked)→
   PairLaw.Both ((j:Int)+1∈h'.v.act) ((j:Int)+1∈h'.asked) ((b:Int)+1∈(n.h j).v.act) ((b:Int)+1∈(n.h j).asked) ((n.w b j++sent outs j).map Lr.pl) ((upd2 n.w a b t j b).map Lr.pl):=by
  intro h' outs j hj hjb hja hs e1 e2
  rw [hs,List.append_nil,hWj j hja]
  exact Both.of (hP j hj hjb) e1 e2
 have hPt:∀ (h0 h':Hd) (o outs:List Ho),Took h0 ((a:Int)+1) h' o→HI h0→(∀ j:Nat,j≠a→((j:Int)+1∈h0.v.act↔(j:Int)+1∈(n.h b).v.act)∧((j:Int)+1∈h0.asked↔(j:Int)+1∈(n.h b).asked))→∀ j,j<N→j≠b→j≠a→sent outs j=sent o j→
   PairLaw.Both ((j:Int)+1∈h'.v.act) ((j:Int)+1∈h'.asked) ((b:Int)+1∈(n.h j).v.act) ((b:Int)+1∈(n.h j).asked) ((n.w b j++sent outs j).map Lr.pl) ((upd2 n.w a b t j b).map Lr.pl):=by
  intro h0 h' o outs T g he j hj hjb hja hso
  rcases took_by T g (show (j:Int)+1≠(a:Int)+1 by omega) with ⟨hs,e1,e2⟩ | ⟨hs,e1,e2,e3⟩
  ·exact hPj h' outs j hj hjb hja (hso.trans hs) (e1.trans (he j hja).1) (e2.trans (he j hja).2)
  ·rw [hso,hs,map_push,hWj j hja]
   exact Both.of (PairLaw.t_evict (hP j hj hjb)) ⟨fun x=>e2 x,False.elim⟩ ⟨fun x=>e3 x,False.elim⟩
 have hWa:upd2 n.w a b t a b=t:=upd2_same _ _ _ _
 have hact':∀ (h0 h':Hd) (o:List Ho),Took h0 ((a:Int)+1) h' o→h0.v=(n.h b).v→(∀ x∈h'.v.act,1≤x∧x≤N)∧∀ x∈o,1≤x.who∧x.who≤N∧x.who≠(b:Int)+1:=by
  intro h0 h' o T e
  refine ⟨fun x hx=>?_,fun x hx=>?_⟩
  ·rcases took_act T hx with h | h
   ·omega
   ·exact hact x (e▸h)
  ·have h:=(took_few T).2 x hx
   rw [e] at h
   exact ⟨(hact _ h).1,(hact _ h).2,hself _ h⟩
 have hone:∀ kd:Int,∀ o∈[(⟨(a:Int)+1,kd,false⟩:Ho)],1≤o.who∧o.who≤N∧o.who≠(b:Int)+1:=by
  intro kd o ho
  rw [List.mem_singleton.1 ho]
  simp only
  omega
 unfold nGot hOn
 by_cases y3:y.kind=3
 ·rw [if_pos y3]
  have ey:y.pl= .lAsk:=by unfold Lr.pl;rw [if_pos y3]
  rw [ey] at hPa
  rcases hOnAsk_law hi (n:=(a:Int)+1) (by omega) hns ham y.high hr with ⟨h',o,T,e1,e2, -⟩ | ⟨h1, -, -, e1,e2⟩
  ·rw [e1,e2]
   obtain ⟨q1,q2⟩:=hact' _ _ _ T rfl
   have hout:∀ x∈o++[(⟨(a:Int)+1,4,false⟩:Ho)],1≤x.who∧x.who≤N∧x.who≠(b:Int)+1:=fun x hx=>(List.mem_append.1 hx).elim (q2 x) (hone 4 x)
   refine ⟨k.step hb T.hi (T.self.trans hsf) (by rw [T.am];exact ham) q1 hW (fun x hx=>(hout x hx).1) ?_,by have:=(took_few T).1;simp;omega,hout⟩
   intro j hj hjb
   by_cases hja:j=a
   ·subst hja
    obtain ⟨s1,s2,s3⟩:=took_at T hi (j:=j) rfl
    rw [sent_app,s1,sent_one _ _ rfl,List.nil_append,map_push,hWa]
    exact Both.of (PairLaw.t_asked hPa) ⟨fun _=>trivial,fun _=>s2⟩ s3
   ·exact hPt _ _ _ _ T hi (fun _ _=>⟨Iff.rfl,Iff.rfl⟩) j hj hjb hja (by rw [sent_app,sent_none [_] j (by simp;omega),List.append_nil])
  ·rw [e1,e2]
   refine ⟨k.step hb hi hsf ham hact hW (fun x hx=>(hone 5 x hx).1) ?_,by simp,hone 5⟩
   intro j hj hjb
   by_cases hja:j=a
   ·subst hja
    rw [sent_one _ _ rfl,map_push,hWa]
    exact PairLaw.t_askNo hPa h1
   ·exact hPj _ _ j hj hjb hja (sent_none _ _ (by simp;omega)) Iff.rfl Iff.rfl
 ·rw [if_neg y3]
  by_cases y4:y.kind=4
  ·rw [if_pos y4]
   have ey:y.pl= .lYes:=by unfold Lr.pl;rw [if_neg y3,if_pos y4]
   rw [ey] at hPa
   rcases hOnYes_law hi ((a:Int)+1) ham hr with ⟨h1,T,g⟩ | ⟨h1,h2,e⟩ | ⟨h1,h2,e⟩
   ·obtain ⟨q1,q2⟩:=hact' _ _ _ T rfl
    refine ⟨k.step hb T.hi (T.self.trans hsf) (by rw [T.am];exact ham) q1 hW (fun x hx=>(q2 x hx).1) ?_,Nat.le_trans (took_few T).1 (by decide),q2⟩
    intro j hj hjb
    by_cases hja:j=a
    ·subst hja
     obtain ⟨s1,s2,s3⟩:=took_at T g (j:=j) rfl
     rw [s1,List.append_nil,hWa]
     exact Both.of (PairLaw.t_yes hPa h1) ⟨fun _=>trivial,fun _=>s2⟩ (s3.trans (by simp only [sDrop_mem hi.good.asked.up];exact ⟨fun h=>h.2 rfl,False.elim⟩))
    ·exact hPt _ _ _ _ T g (fun i hia=>⟨Iff.rfl,by simp only [sDrop_mem hi.good.asked.up];exact ⟨fun h=>h.1,fun h=>⟨h,by omega⟩⟩⟩) j hj hjb hja rfl
   ·rw [e]
    refine ⟨k.step hb hi hsf ham hact hW (by simp) ?_,by simp,by simp⟩
    intro j hj hjb
    by_cases hja:j=a
    ·subst hja
     rw [sent_none _ _ (by simp),List.append_nil,hWa]
     exact PairLaw.t_yes0 hPa h2 h1
    ·exact hPj _ _ j hj hjb hja (sent_none _ _ (by simp)) Iff.rfl Iff.rfl
   ·rw [e]
    refine ⟨k.step hb hi hsf ham hact hW (fun x hx=>(hone 6 x hx).1) ?_,by simp,hone 6⟩
    intro j hj hjb
    by_cases hja:j=a
    ·subst hja
     rw [sent_one _ _ rfl,map_push,hWa]
     exact PairLaw.t_yesB hPa h2 h1
    ·exact hPj _ _ j hj hjb hja (sent_none _ _ (by simp;omega)) Iff.rfl Iff.rfl
  ·rw [if_neg y4]
   by_cases y5:y.kind=5
   ·rw [if_pos y5]
    have ey:y.pl= .lNo:=by unfold Lr.pl;rw [if_neg y3,if_neg y4,if_pos y5]
    rw [ey] at hPa
    obtain ⟨l1,l2,l3,l4,l5,l6⟩:=hOnNo_law hi ((a:Int)+1) hr
    rw [l6]
    by_cases h1:has (n.h b).v.act ((a:Int)+1)=true
    ·rw [if_pos h1]
     refine ⟨k.step hb l1 (l2.trans hsf) (by rw [l3];exact ham) (fun x hx=>hact x ((l5 x).1 hx).1) hW (fun x hx=>(hone 6 x hx).1) ?_,by simp,hone 6⟩
     intro j hj hjb
     by_cases hja:j=a
     ·subst hja
      rw [sent_one _ _ rfl,map_push,hWa]
      exact Both.of (PairLaw.t_noB hPa) ⟨fun x=>((l5 _).1 x).2 rfl,False.elim⟩ ⟨fun x=>((l4 _).1 x).2 rfl,False.elim⟩
     ·exact hPj _ _ j hj hjb hja (sent_none _ _ (by simp;omega)) ⟨fun x=>((l5 _).1 x).1,fun x=>(l5 _).2 ⟨x,by omega⟩⟩ ⟨fun x=>((l4 _).1 x).1,fun x=>(l4 _).2 ⟨x,by omega⟩⟩
    ·rw [if_neg h1]
     have h2:(a:Int)+1∉(n.h b).v.act:=fun e=>h1 ((has_iff _ _).2 e)
     refine ⟨k.step hb l1 (l2.trans hsf) (by rw [l3];exact ham) (fun x hx=>hact x ((l5 x).1 hx).1) hW (by simp) ?_,by simp,by simp⟩
     intro j hj hjb
     by_cases hja:j=a
     ·subst hja
      rw [sent_none _ _ (by simp),List.append_nil,hWa]
      exact Both.of (PairLaw.t_no hPa h2) ⟨fun x=>((l5 _).1 x).1,fun x=>absurd x h2⟩ ⟨fun x=>((l4 _).1 x).2 rfl,False.elim⟩
     ·exact hPj _ _ j hj hjb hja (sent_none _ _ (by simp)) ⟨fun x=>((l5 _).1 x).1,fun x=>(l5 _).2 ⟨x,by omega⟩⟩ ⟨fun x=>((l4 _).1 x).1,fun x=>(l4 _).2 ⟨x,by omega⟩⟩
   ·rw [if_neg y5]
    by_cases y6:y.kind=6
    ·rw [if_pos y6]
     have ey:y.pl= .lBye:=by unfold Lr.pl;rw [if_neg y3,if_neg y4,if_neg y5,if_pos y6]
     rw [ey] at hPa
     obtain ⟨l1,l2,l3,l4,l5⟩:=hOnBye_law hi ((a:Int)+1) hr
     refine ⟨k.step hb l1 (l2.trans hsf) (by rw [l3];exact ham) (fun x hx=>hact x ((l5 x).1 hx).1) hW (by simp) ?_,by simp,by simp⟩
     intro j hj hjb
     by_cases hja:j=a
     ·subst hja
      rw [sent_none _ _ (by simp),List.append_nil,hWa]
      exact Both.of (PairLaw.t_bye hPa) ⟨fun x=>((l5 _).1 x).2 rfl,False.elim⟩ (by rw [l4])
     ·exact hPj _ _ j hj hjb hja (sent_none _ _ (by simp)) ⟨fun x=>((l5 _).1 x).1,fun x=>(l5 _).2 ⟨x,by omega⟩⟩ (by rw [l4])
    ·rw [if_neg y6]
     have ey:y.pl= .lBrk:=by unfold Lr.pl;rw [if_neg y3,if_neg y4,if_neg y5,if_neg y6]
     rw [ey] at hPa
     obtain ⟨l1,l2,l3,l4,l5⟩:=hOnBreak_law hi ((a:Int)+1)
     refine ⟨k.step hb l1 (l2.trans hsf) (by rw [l3];exact ham) (fun x hx=>hact x ((l5 x).1 hx).1) hW (by simp) ?_,by simp,by simp⟩
     intro j hj hjb
     by_cases hja:j=a
     ·subst hja
      rw [sent_none _ _ (by simp),List.append_nil,hWa]
      exact Both.of (PairLaw.t_brk hPa) ⟨fun x=>((l5 _).1 x).2 rfl,False.elim⟩ ⟨fun x=>((l4 _).1 x).2 rfl,False.elim⟩
     ·exact hPj _ _ j hj hjb hja (sent_none _ _ (by simp)) ⟨fun x=>((l5 _).1 x).1,fun x=>(l5 _).2 ⟨x,by omega⟩⟩ ⟨fun x=>((l4 _).1 x).1,fun x=>(l4 _).2 ⟨x,by omega⟩⟩
def nBreak (n:Net) (a b:Nat):Net:=⟨n.h,upd2 (upd2 n.w a b [⟨0,false⟩]) b a [⟨0,false⟩]⟩
theorem NInv.brk {N:Nat} {n:Net} (k:NInv N n) {a b:Nat} (hab:a≠b):NInv N (nBreak n a b):=by
 unfold nBreak
 refine ⟨k.le,k.hi,k.self,k.am,k.act,?_⟩
 intro i hi j hj hij
 have P:=k.pb i hi j hj hij
 unfold Net.PB at P ⊢
 simp only
 by_cases h1:i=b∧j=a
 ·obtain ⟨rfl,rfl⟩:=h1
  rw [upd2_same,upd2_other _ _ (fun e=>hij e.1.symm),upd2_same]
  exact PairLaw.t_break
 ·by_cases h2:i=a∧j=b
  ·obtain ⟨rfl,rfl⟩:=h2
   rw [upd2_other _ _ h1,upd2_same,upd2_same]
   exact PairLaw.t_break
  ·rw [upd2_other _ _ h1,upd2_other _ _ h2,upd2_other _ _ (fun e=>h2 ⟨e.2,e.1⟩),upd2_other _ _ (fun e=>h1 ⟨e.2,e.1⟩)]
   exact P
theorem NInv.rest {N:Nat} {n:Net} (k:NInv N n) {i j:Nat} (hi:i<N) (hj:j<N) (h1:n.w i j=[]) (h2:n.w j i=[]) (ha:(j:Int)+1∈(n.h i).v.act):(i:Int)+1∈(n.h j).v.act:=by
 by_cases hij:i=j
 ·subst hij
  exact ha
 ·have P:=k.pb i hi j hj hij
  unfold Net.PB at P
  rw [h1,h2] at P
  exact PairLaw.t_rest P ha
theorem NInv.start {N:Nat} (hN:N≤60000) (am pm:Int) (h1:1≤am):NInv N ⟨fun i=>hNew ((i:Int)+1) am pm,fun _ _=>[]⟩:=by
 refine ⟨hN,fun i hi=>?_,fun i hi=>rfl,fun i hi=>?_,fun i hi x hx=>absurd hx (by simp [hNew]),fun i hi j hj hij=>?_⟩
 ·exact ⟨⟨rfl,List.Perm.refl _,List.Perm.refl _,rfl,rfl⟩,List.Perm.refl _,hNew_good _ _ _,⟨by simp [hNew],by simp [hNew],by simp [hNew]⟩,by simp [hNew]⟩
 ·simp only [hNew]
  omega
 ·unfold Net.PB
  simp only [hNew,List.not_mem_nil]
  exact PairLaw.t_start
theorem NInv.congr {N:Nat} {n:Net} (k:NInv N n) {w:Nat→Nat→List Lr} (hw:∀ i j,(w i j).map Lr.pl=(n.w i j).map Lr.pl):NInv N ⟨n.h,w⟩:=by
 refine ⟨k.le,k.hi,k.self,k.am,k.act,fun i hi j hj hij=>?_⟩
 have P:=k.pb i hi j hj hij
 unfold Net.PB at P ⊢
 simp only
 rw [hw,hw]
 exact P
theorem NInv.know {N:Nat} {n:Net} (k:NInv N n) {p:Nat} (hp:p<N) {h':Hd} (hi:HI h') (hs:h'.v.self=(n.h p).v.self) (ha:h'.v.am=(n.h p).v.am) (hact:h'.v.act=(n.h p).v.act) (hk:h'.asked=(n.h p).asked):NInv N ⟨upd n.h p h',n.w⟩:=by
 refine k.step hp (outs:=[]) (w1:=n.w) hi (hs.trans (k.self p hp)) (by rw [ha];exact k.am p hp) (by rw [hact];exact k.act p hp) (fun _ _ _=>rfl) (by simp) (fun j hj hjp=>?_)
 rw [hact,hk,sent_none [] j (by simp),List.append_nil]
 exact k.pb p hp j hj (fun e=>hjp e.symm)
end Go.Proofs.YtelepohdfcjnfaaGreat
