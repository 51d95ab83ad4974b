/-
  The plain law of TopFrames: links of pieces, breaks amid what is sent.
-/
import Derived.Test.YtelepohdfcjnfaaGreatZOvLaw
import Derived.Test.YtelepohdfcjnfaaGreatZStrFrame
import Derived.Test.YtelepohdfcjnfaaGreatZOpDef
import Derived.Test.YtelepohdfcjnfaaGreatZMesh
import Derived.Test.YtelepohdfcjnfaaGreatZStrEnds
import Derived.Test.YtelepohdfcjnfaaGreatZRegionW
namespace Go.Proofs.YtelepohdfcjnfaaGreat
section
open Go.RowKit Go.Proofs
def Late (outs:List Ms):Prop:=outs.Pairwise (fun x y=>x.who=y.who→y.mq.lr=[])
theorem sentM_nolr {outs:List Ms} {j:Nat} (h:∀ y∈outs,y.who=(j:Int)+1→y.mq.lr=[]):((sentM outs j).map some).flatMap olr=[]:=by
 rw [List.flatMap_eq_nil_iff]
 intro m hm
 obtain ⟨y,hy,rfl⟩:=List.mem_map.1 hm
 obtain ⟨x,hx,rfl⟩:=List.mem_map.1 hy
 obtain ⟨h1,h2⟩:=List.mem_filter.1 hx
 exact h x h1 (by simpa using h2)
theorem sentM_cons (x:Ms) (t:List Ms) (j:Nat):sentM (x::t) j=(if x.who=(j:Int)+1 then [x.mq] else [])++sentM t j:=by
 unfold sentM
 rw [List.filter_cons]
 by_cases h:x.who=(j:Int)+1
 ·simp [h]
 ·simp [h]
theorem OInv.cut {N:Nat} {am pm:Int} {o:Nat→Ov} {w:Nat→Nat→List OLet} {p j:Nat} {x:Ms} {t:List Ms} (k:OInv N am pm ⟨o,pushMs p w (x::t)⟩) (hpj:p≠j) (hx:x.who=(j:Int)+1)
  (ht:∀ y∈t,OutOk N p y) (late:∀ y∈t,x.who=y.who→y.mq.lr=[]):OInv N am pm ⟨o,pushMs p (upd2 (upd2 w p j [none]) j p [none]) t⟩:=by
 have hb:=k.brk hpj
 have h1:∀ y∈t,1≤y.who:=fun y hy=>(ht y hy).who.1
 have h2:∀ y∈x::t,1≤y.who:=fun y hy=>by
  rcases List.mem_cons.1 hy with rfl | hy
  ·omega
  ·exact h1 y hy
 have hl:∀ a b,(pushMs p (upd2 (upd2 w p j [none]) j p [none]) t a b).flatMap olr=(upd2 (upd2 (pushMs p w (x::t)) p j [none]) j p [none] a b).flatMap olr:=by
  intro a b
  by_cases e1:a=p
  ·subst e1
   rw [pushMs_at a b t _ h1]
   by_cases e2:b=j
   ·subst e2
    rw [upd2_other _ _ (fun e=>hpj e.1),upd2_same,upd2_other _ _ (fun e=>hpj e.1),upd2_same,List.flatMap_append,sentM_nolr (fun y hy e=>late y hy (by rw [hx,e])),List.append_nil]
   ·rw [upd2_other _ _ (fun e=>hpj e.1),upd2_other _ _ (fun e=>e2 e.2),upd2_other _ _ (fun e=>hpj e.1),upd2_other _ _ (fun e=>e2 e.2),pushMs_at a b _ _ h2,sentM_cons,if_neg (by rw [hx];omega),List.nil_append]
  ·rw [pushMs_other e1]
   by_cases e2:a=j∧b=p
   ·obtain ⟨rfl,rfl⟩:=e2
    rw [upd2_same,upd2_same]
   ·rw [upd2_other _ _ e2,upd2_other _ _ (fun e=>e1 e.1),upd2_other _ _ e2,upd2_other _ _ (fun e=>e1 e.1),pushMs_other e1]
 refine ⟨?_,k.ok,k.am,k.pas,k.seeds,fun a ha b hb2 m hm=>?_⟩
 ·refine hb.net.congr (w:=fun a b=>(pushMs p (upd2 (upd2 w p j [none]) j p [none]) t a b).flatMap olr) (fun a b=>?_)
  show ((pushMs p (upd2 (upd2 w p j [none]) j p [none]) t a b).flatMap olr).map Lr.pl=((upd2 (upd2 (pushMs p w (x::t)) p j [none]) j p [none] a b).flatMap olr).map Lr.pl
  rw [hl]
 ·rcases pushMs_mem p t _ a b _ hm with h | ⟨y,hy,e⟩
  ·have h3:some m∈w a b:=by
    by_cases e1:a=j∧b=p
    ·obtain ⟨rfl,rfl⟩:=e1
     rw [upd2_same] at h
     simp at h
    ·rw [upd2_other _ _ e1] at h
     by_cases e2:a=p∧b=j
     ·obtain ⟨rfl,rfl⟩:=e2
      rw [upd2_same] at h
      simp at h
     ·rw [upd2_other _ _ e2] at h
      exact h
   refine k.msg a ha b hb2 m ?_
   by_cases e1:a=p
   ·subst e1
    show some m∈pushMs a w (x::t) a b
    rw [pushMs_at a b _ _ h2]
    exact List.mem_append_left _ h3
   ·show some m∈pushMs p w (x::t) a b
    rw [pushMs_other e1]
    exact h3
  ·injection e with e
   rw [e]
   exact (ht y hy).msg
/-! ### what is sent late -/
theorem hEvs_act {h:Hd} {n:Int} {ds:List Int} (hg:h.v.Good) (hs:h.v.Sane) (hd:∀ x∈ds,0≤x∧x<4294967296) (ha:0<h.v.am) (he:hEvs h n ds=true):(hEv h ds).2.1∈h.v.act:=by
 unfold hEvs hEv at he
 unfold hEv
 by_cases hf:vaFull h.v=true
 ·rw [if_pos hf]
  refine (vEvict_facts hg hs hd ?_).was
  intro e
  unfold vaFull at hf
  rw [e] at hf
  simp at hf
  omega
 ·rw [if_neg hf] at he
  simp at he
theorem onAsk_late {h:Hd} {n:Int} {high:Bool} {ds:List Int} (hg:h.v.Good) (hs:h.v.Sane) (hd:∀ x∈ds,0≤x∧x<4294967296) (ha:0<h.v.am):
  ((hOnAsk h n high ds).2.1.map Ho.ms).Pairwise (fun x y=>x.who=y.who→y.mq.lr=[]):=by
 unfold hOnAsk hTake hRoomO
 by_cases h1:has h.v.act n=true
 ·simp [h1]
 ·by_cases h2:hEvs h n ds=true
  ·have h3:=hEvs_act hg hs hd ha h2
   have h4:(hEv h ds).2.1≠n:=fun e=>h1 ((has_iff _ _).2 (by rw [←e];exact h3))
   simp only [h1,h2,if_true,if_false,Bool.false_eq_true]
   repeat' split
   all_goals simp [Ho.ms]
   all_goals exact fun e=>absurd e h4
  ·simp only [h1,h2,if_false,Bool.false_eq_true]
   repeat' split
   all_goals simp
theorem late_one (x:Ms):Late [x]:=List.pairwise_singleton _ _
theorem late_nil:Late []:=List.Pairwise.nil
theorem late_app {a b:List Ms} (ha:Late a) (hb:∀ y∈b,y.mq.lr=[]):Late (a++b):=by
 refine List.pairwise_append.2 ⟨ha,?_,fun x _ y hy _=>hb y hy⟩
 exact List.pairwise_iff_forall_sublist.2 (fun {x y} h _=>hb y (h.subset (by simp)))
theorem late_few {l:List Ho} (h:l.length≤1):Late (l.map Ho.ms):=by
 rcases l with _ | ⟨x,_ | ⟨y,l⟩⟩
 ·exact late_nil
 ·exact late_one _
 ·simp at h
theorem late_tick (o:Ov) (ds:List Int):Late (oTick o ds).2.1:=by
 have hf:(oFill o ds).2.1.length≤1:=by
  unfold oFill oJoin oAsk hAsk
  repeat' split
  all_goals simp
  all_goals (repeat' split)
  all_goals simp
 unfold oTick
 split
 ·refine late_app (late_few hf) ?_
  unfold oStart
  split
  ·simp
  ·intro y hy
   rw [List.mem_singleton.1 hy]
   exact lr_none (.inr (by show (7:Int)≤7;decide))
 ·exact late_few hf
theorem late_take {o:Ov} {fr:Int} {m:Mq} {ds:List Int} (hg:o.h.v.Good) (hs:o.h.v.Sane) (hd:∀ x∈ds,0≤x∧x<4294967296) (ha:0<o.h.v.am):Late (oTake o fr m ds).2.1:=by
 unfold oTake
 split
 ·unfold oJoins
  refine late_app (onAsk_late hg hs hd ha) ?_
  intro y hy
  split at hy
  ·obtain ⟨z,hz,rfl⟩:=List.mem_map.1 hy
   exact lr_none (.inl rfl)
  ·cases hy
 split
 ·unfold oForward
  split
  ·refine late_few ?_
   unfold oAsk hAsk
   split<;>simp
  ·exact late_one _
 split
 ·exact onAsk_late hg hs hd ha
 split
 ·refine late_few ?_
  show (hOnYes o.h fr ds).2.1.length≤1
  unfold hOnYes hTake hRoomO
  repeat' split
  all_goals simp
 split
 ·refine late_few ?_
  show (hOnNo o.h fr ds).2.1.length≤1
  unfold hOnNo
  split<;>simp
 split
 ·exact late_nil
 split
 ·unfold mShuf
  split
  ·exact late_one _
  ·split
   ·exact late_one _
   ·exact late_nil
 split
 ·exact late_nil
 ·exact late_nil
/-! ### a link:what waits in the splitter,what lies in the pipe,what was sent -/
theorem mq_may {N:Nat} (hN:N≤65535) {m:Mq} (hm:MOk N m):m.msg.may=true:=by
 obtain ⟨⟨k1,k2⟩,⟨n1,n2⟩, -, ⟨w1,w2⟩,hl,hn⟩:=hm
 have e1:m.nodes.all (fun n=>inR n 1 65535)=true:=List.all_eq_true.2 (fun x hx=>inR_iff.2 (by have:=hn x hx;omega))
 unfold Msg.may Mq.msg
 simp only
 rw [inR_iff.2 (show 1≤m.kind∧m.kind≤14 by omega),inR_iff.2 (show 0≤m.node∧m.node≤65535 by omega),inR_iff.2 (show 0≤m.walk∧m.walk≤15 by omega),e1,decide_eq_true hl]
 rfl
theorem mq_len {N:Nat} {m:Mq} (hm:MOk N m):m.msg.enc.length≤4096:=by
 have:=hm.len
 unfold Msg.enc Mq.msg
 simp only [List.length_append,numB_length,flatMap_two,List.flatMap_nil,List.length_nil]
 omega
theorem mq_fits (m:Mq):m.msg.fits:=⟨fun _ hx=>(nomatch hx),fun _ hx=>(nomatch hx)⟩
theorem mq_code {N:Nat} (hN:N≤65535) {m:Mq} (hm:MOk N m):m.msg.code=0:=by
 have:=mq_len hm
 unfold Msg.code
 rw [if_pos (mq_may hN hm),if_neg (by omega)]
abbrev Mq.fr (m:Mq):List UInt8:=m.msg.frB
theorem fr_len {N:Nat} {m:Mq} (hm:MOk N m):m.fr.length≤4098:=by
 have:=mq_len hm
 rw [frB_length];omega
theorem feed_whole1 {N:Nat} (hN:N≤65535) {m:Mq} (hm:MOk N m):feed m.fr=([m.msg],[],0):=by
 have:=feed_frames (l:=[m.msg]) (fun x hx=>by rw [List.mem_singleton.1 hx];exact ⟨mq_may hN hm,mq_fits m,mq_len hm⟩) []
 simpa [feed,feedN] using this
theorem feed_part {N:Nat} {m:Mq} (hm:MOk N m) {a b:List UInt8} (h:a++b=m.fr) (hb:b≠[]):feed a=([],a,0):=by
 have hl:=congrArg List.length h
 rw [List.length_append,frB_length] at hl
 have hb0:=List.length_pos_iff.2 hb
 have h4:=mq_len hm
 refine feed_none (r:=(a,0)) ?_
 unfold nextS
 by_cases h2:a.length<2
 ·rw [if_pos h2]
 ·rw [if_neg h2]
  have hg:getNum (a.take 2)=m.msg.enc.length:=by
   have h3:=frB_get h4 ([]:List UInt8)
   rw [List.append_nil,show m.msg.frB=m.fr from rfl, ←h,List.take_append_of_le_length (by omega)] at h3
   exact h3
  rw [hg,if_neg (by omega),if_pos (by omega)]
def Gr1 (y:Mq×List (List UInt8)):Prop:=y.2.flatten=y.1.fr∧y.2≠[]∧∀ p∈y.2,p≠[]
def Grp (r:List UInt8):List (Mq×List (List UInt8))→Prop
 | []=>r=[]
 | (m,P)::t=>r++P.flatten=m.fr∧P≠[]∧(∀ p∈P,p≠[])∧∀ y∈t,Gr1 y
theorem Grp.snoc {r:List UInt8} {G:List (Mq×List (List UInt8))} (h:Grp r G) {y:Mq×List (List UInt8)} (hy:Gr1 y):Grp r (G++[y]):=by
 cases G with
 | nil=>
  have h0:r=[]:=h
  subst h0
  exact ⟨hy.1,hy.2.1,hy.2.2,fun z hz=>nomatch hz⟩
 | cons g t=>
  obtain ⟨m,P⟩:=g
  obtain ⟨h1,h2,h3,h4⟩:=h
  refine ⟨h1,h2,h3,fun z hz=>?_⟩
  rcases List.mem_append.1 hz with hz | hz
  ·exact h4 z hz
  ·rw [List.mem_singleton.1 hz];exact hy
theorem Grp.of1 {t:List (Mq×List (List UInt8))} (h:∀ y∈t,Gr1 y):Grp [] t:=by
 cases t with
 | nil=>rfl
 | cons y t=>
  have h1:=h y (List.mem_cons_self ..)
  exact ⟨h1.1,h1.2.1,h1.2.2,fun z hz=>h z (List.mem_cons_of_mem _ hz)⟩
abbrev pcs (P:List (List UInt8)):List PIt:=P.map fun p=>⟨false,p⟩
def LinkG (r:List UInt8) (q:List PIt) (st:List Mq) (L:List OLet) (brk:Bool) (G:List (Mq×List (List UInt8))):Prop:=
 q=(if brk then [⟨true,[]⟩] else [])++pcs (G.flatMap Prod.snd)∧L=(if brk then [none] else [])++G.map (fun y=>some y.1)∧Grp (if brk then [] else r) G∧G.map Prod.fst <:+ st
def Link (r:List UInt8) (q:List PIt) (st:List Mq) (L:List OLet):Prop:=∃ brk G,LinkG r q st L brk G
theorem Link.start:Link [] [] [] []:=⟨false,[],rfl,rfl,rfl,List.nil_suffix⟩
theorem Link.broken (r:List UInt8) (st:List Mq):Link r [⟨true,[]⟩] st [none]:=⟨true,[],rfl,rfl,rfl,List.nil_suffix⟩
theorem Link.push {r:List UInt8} {q:List PIt} {st:List Mq} {L:List OLet} (h:Link r q st L) {m:Mq} {P:List (List UInt8)} (hP:Gr1 (m,P)):Link r (q++pcs P) (st++[m]) (L++[some m]):=by
 obtain ⟨brk,G,h1,h2,h3,h4⟩:=h
 refine ⟨brk,G++[(m,P)],?_,?_,h3.snoc hP,?_⟩
 ·rw [h1];simp
 ·rw [h2];simp
 ·obtain ⟨X,hX⟩:=h4
  exact ⟨X,by rw [←hX];simp⟩
theorem Link.rest {r:List UInt8} {st:List Mq} {L:List OLet} (h:Link r [] st L):L=[]:=by
 obtain ⟨brk,G,h1,h2,h3,h4⟩:=h
 cases brk with
 | true=>simp at h1
 | false=>
  cases G with
  | nil=>exact h2
  | cons y t=>
   obtain ⟨m,P⟩:=y
   obtain ⟨-, hp, -⟩:=h3
   cases P with
   | nil=>exact absurd rfl hp
   | cons p P=>simp at h1
theorem Link.brk {r:List UInt8} {x:PIt} {q:List PIt} {st:List Mq} {L:List OLet} (h:Link r (x::q) st L) (hx:x.brk=true):∃ t,L=none::t∧Link [] q st t:=by
 obtain ⟨brk,G,h1,h2,h3,h4⟩:=h
 cases brk with
 | true=>
  simp at h1
  exact ⟨_,by rw [h2];rfl,false,G,by simpa using h1.2,by simp,by simpa using h3,h4⟩
 | false=>
  exfalso
  rw [if_neg (by simp),List.nil_append] at h1
  have hm:x∈pcs (G.flatMap Prod.snd):=by rw [←h1];exact List.mem_cons_self ..
  obtain ⟨p,_,rfl⟩:=List.mem_map.1 hm
  cases hx
theorem Link.piece {N:Nat} (hN:N≤65535) {r:List UInt8} {x:PIt} {q:List PIt} {st:List Mq} {L:List OLet} (h:Link r (x::q) st L) (hx:x.brk=false) (hm:∀ m,some m∈L→MOk N m):
  (feed (r++x.txt)=([],r++x.txt,0)∧Link (r++x.txt) q st L∧(r++x.txt).length≤4098)∨∃ m t,L=some m::t∧feed (r++x.txt)=([m.msg],[],0)∧(r++x.txt).length≤4098∧m∈st∧
   ∀ k,(∀ i,i<k→st[i]?≠some m)→st[k]?=some m→Link [] q (st.drop (k+1)) t:=by
 obtain ⟨brk,G,h1,h2,h3,h4⟩:=h
 cases brk with
 | true=>
  simp at h1
  rw [h1.1] at hx
  cases hx
 | false=>
  rw [if_neg (by simp),List.nil_append] at h1 h2
  cases G with
  | nil=>simp at h1
  | cons y t=>
   obtain ⟨m,P⟩:=y
   obtain ⟨g1,g2,g3,g4⟩:=h3
   rw [if_neg (by simp)] at g1
   have hmo:MOk N m:=hm m (by rw [h2];simp)
   cases P with
   | nil=>exact absurd rfl g2
   | cons p P=>
    have e1:x=⟨false,p⟩∧q=pcs (P++t.flatMap Prod.snd):=by
     simp at h1
     exact ⟨h1.1,by rw [h1.2];simp⟩
    obtain ⟨rfl,rfl⟩:=e1
    have g1':(r++p)++P.flatten=m.fr:=by rw [←g1];simp
    have hlen:(r++p).length≤4098:=by
     have h5:=congrArg List.length g1'
     have:=fr_len hmo
     rw [List.length_append] at h5
     omega
    cases P with
    | nil=>
     right
     rw [List.flatten_nil,List.append_nil] at g1'
     refine ⟨m,t.map (fun y=>some y.1),by rw [h2];rfl,by rw [show (PIt.mk false p).txt=p from rfl,g1'];exact feed_whole1 hN hmo,hlen,h4.subset (by simp),fun k hk hk2=>?_⟩
     refine ⟨false,t,by simp,by simp,by simpa using Grp.of1 g4,?_⟩
     obtain ⟨X,hX⟩:=h4
     rw [List.map_cons] at hX
     have hkX:k≤X.length:=by
      rcases Nat.lt_or_ge X.length k with h6 | h6
      ·refine absurd ?_ (hk X.length h6)
       rw [←hX,List.getElem?_append_right (Nat.le_refl _),Nat.sub_self]
       rfl
      ·exact h6
     refine ⟨(X++[m]).drop (k+1),?_⟩
     rw [←hX,show X++m::t.map Prod.fst=(X++[m])++t.map Prod.fst by simp]
     exact (List.drop_append_of_le_length (by simp;omega)).symm
    | cons p2 P=>
     left
     have hne:(p2::P).flatten≠[]:=by
      have:=g3 p2 (by simp)
      cases p2 with
      | nil=>exact absurd rfl this
      | cons a b=>simp
     refine ⟨feed_part hmo g1' hne,⟨false,(m,p2::P)::t,by simp,by rw [h2];rfl,?_,h4⟩,hlen⟩
     rw [if_neg (by simp)]
     exact ⟨g1',by simp,fun z hz=>g3 z (List.mem_cons_of_mem _ hz),g4⟩
end
section
open Go.RowKit Go.Proofs
/-! ### what a world's maps,channels and the mesh's blocks are,kept by a state -/
def keepK (w:World) (b:Nat):Option Obj:=match w.heap[b]? with
 | some (.cells cs T z)=>if KpT T then some (.cells cs T z) else none
 | o=>o
def Ori.at (w:World):Ori:=⟨fun _=>True,keepK w,fun b cs T z h=>by
 unfold keepK at h
 split at h
 ·split at h
  ·rename_i h2
   cases h
   exact h2
  ·cases h
 ·rename_i h2
  exact absurd h (h2 _ _ _)⟩
theorem Kp.at (w:World):Kp (Ori.at w) w:=by
 intro b x h
 have h:keepK w b=some x:=h
 unfold keepK at h
 split at h
 ·split at h
  ·rename_i h1 _
   cases h
   exact h1
  ·cases h
 ·exact h
theorem keep_nc {w:World} {b:Nat} {o:Obj} (h:w.heap[b]?=some o) (hn:∀ cs T z,o≠ .cells cs T z):keepK w b=some o:=by
 unfold keepK
 rw [h]
 cases o with
 | cells cs T z=>exact absurd rfl (hn cs T z)
 | _=>rfl
theorem keep_kp {w:World} {b:Nat} {cs:Array Value} {T:TypeId} {z:Nat×Nat} (h:w.heap[b]?=some (.cells cs T z)) (hk:KpT T):keepK w b=some (.cells cs T z):=by
 unfold keepK
 rw [h]
 simp only [if_pos hk]
theorem MeshR.ofKp {w w':World} {mb lb qb:Nat} {live:List Int} {ps:List Pp} {q:Int→Int→List PIt} (h:MeshR w mb lb qb live ps q) (k:Kp (Ori.at w) w'):MeshR w' mb lb qb live ps q:=by
 have hm:∀ {r:Nat} {l:List (Value×Value)},MpAt w r l→MpAt w' r l:=fun {r l} ⟨es,c,h1,h2⟩=>⟨es,c,k _ _ (keep_nc h1 (fun _ _ _ e=>nomatch e)),h2⟩
 exact ⟨k _ _ (keep_kp h.blk (.inl rfl)),hm h.lm,hm h.pm,h.lq,fun x hx=>⟨k _ _ (keep_kp (h.pp x hx).1 (.inr rfl)),by
  obtain ⟨s,r,h2⟩:=(h.pp x hx).2
  exact ⟨s,r,k _ _ (keep_nc h2 (fun _ _ _ e=>nomatch e))⟩⟩,h.no,h.nd,h.nk,h.lo⟩
section
variable {W:World} {O:Ori} {p:Value} {ds:List Int} {B:List Blk} {L:List Ow} {R:List Rw} {w w':World}
theorem Sta.reK (h:Sta W O p ds B L R w):Sta W (Ori.at w) p ds B L R w:=
 ⟨⟨h.fr,Kp.at w⟩,h.ty,h.dr,h.blk,h.nd,h.own,h.nl,h.nbl,h.row,fun r hr hn q hq=>by
  obtain ⟨h1,h2,h3,_⟩:=h.far r hr hn q hq
  exact ⟨h1,h2,h3, .inl trivial⟩⟩
theorem DrawAt.keepNc {d:Nat} {l:List Int} {lb:Nat} (h:DrawAt w d l) (f:Fr (Mc lb w) w w'):DrawAt w' d l:=by
 obtain ⟨a,cap,k1,k2,k3,k4,k5,k6,k7⟩:=h
 have hn:∀ {b:Nat} {T:TypeId},Ty w b T→¬ Mc lb w b:=fun ⟨cs,z,h⟩ hn=>hn.1 _ _ _ h
 refine ⟨a,cap,f.cell k1 (hn k6),(f.frozen k1 (hn k6)).trans k2,⟨k3.le,k3.max,fun j u hj=>?_⟩,k4,k5,k6.keep f (hn k6),fun p hp hne=>(k7 p hp hne).keep f (hn (k7 p hp hne))⟩
 obtain ⟨b',o',e2,hc⟩:=k3.cell j u hj
 exact ⟨b',o',e2,f.cell hc (hn (k7 ⟨b',o',none⟩ e2 (fun e=>by rw [e] at hj;simp at hj)))⟩
theorem cell_nc {a:Addr} {v:Value} (h:w.cell? a=some v):¬ Nc w a.block:=by
 intro hn
 unfold World.cell? at h
 split at h
 ·rename_i h1
  exact hn _ _ _ h1
 ·cases h
theorem Sta.mesh {lb:Nat} (h:Sta W O p ds B L R w) (f:Fr (Mc lb w) w w') (hlb:W.heap.size≤lb):Sta W (Ori.at w') p ds B L R w':=by
 have hb:∀ {b:Nat} {cs:Array Value} {T:TypeId} {z:Nat×Nat},w.heap[b]?=some (.cells cs T z)→¬ Mc lb w b:=fun e hn=>hn.1 _ _ _ e
 refine ⟨⟨Fr.trans h.fr f (fun k hk=> .inr (Nat.le_trans hlb hk.2)),Kp.at w'⟩,h.ty,?_,?_,h.nd,?_,h.nl,h.nbl,?_,?_⟩
 ·rcases h.dr with h1 | ⟨d,h1,h2⟩
  ·exact .inl h1
  ·exact .inr ⟨d,h1,h2.keepNc f⟩
 ·intro x hx
  obtain ⟨h1,h2⟩:=h.blk x hx
  exact ⟨blk_keep f h1 (hb h1),h2⟩
 ·intro o ho
  exact own_fr (h.own o ho) f (fun q hq hn=>by
   obtain ⟨cs,z,h2⟩:=own_ty (h.own o ho) hq
   exact hn.1 _ _ _ h2)
 ·intro r hr
  refine ⟨(h.row r hr).le,(h.row r hr).max,fun j u hj=>?_⟩
  obtain ⟨b,o,e,hc⟩:=(h.row r hr).cell j u hj
  exact ⟨b,o,e,f.cell hc (fun hn=>cell_nc hc hn.1)⟩
 ·intro r hr hn q hq
  obtain ⟨h1,h2,h3,_⟩:=h.far r hr hn q hq
  exact ⟨h1,h2,h3, .inl trivial⟩
end
/-! ### the variable of the walk:overlays,the mesh,splitters,what was sent,the cuts -/
structure Sm where
 m:Mq
 na:Option Addr
 nc:Nat
def Sm.cells (x:Sm):List Value:=[.int .i64 x.m.kind, .int .i64 x.m.node, .int .i64 x.m.walk, .bool x.m.high, .slice x.na x.m.nodes.length x.nc, .slice none 0 0, .slice none 0 0]
def Sm.row (x:Sm):Rw:=⟨x.na,x.m.nodes.length,x.nc,ints x.m.nodes⟩
def sms (l:List Sm):List Value:=l.flatMap Sm.cells
theorem sms_len (l:List Sm):(sms l).length=l.length * 7:=by
 induction l with
 | nil=>rfl
 | cons x r ih=>rw [sms,List.flatMap_cons,List.length_append,List.length_cons];unfold sms at ih;rw [ih];simp [Sm.cells];omega
theorem sms_one (l:List Sm):(sms l).all (·.oneCell')=true:=by
 rw [List.all_eq_true]
 intro u hu
 obtain ⟨x, -, hx⟩:=List.mem_flatMap.1 hu
 simp only [Sm.cells,List.mem_cons,List.not_mem_nil,or_false] at hx
 rcases hx with rfl | rfl | rfl | rfl | rfl | rfl | rfl<;>rfl
theorem sms_snoc (l:List Sm) (y:Sm):sms (l++[y])=sms l++y.cells:=by simp [sms]
theorem sms_drop (l:List Sm) (k:Nat):(sms l).drop (k * 7)=sms (l.drop k):=by
 induction k generalizing l with
 | zero=>simp
 | succ k ih=>
  cases l with
  | nil=>simp [sms]
  | cons x r=>
   rw [List.drop_succ_cons, ←ih r,show (k+1) * 7=7+k * 7 by omega, ←List.drop_drop,sms,List.flatMap_cons]
   rfl
def tfF (bo:Nat→Nat) (mb:Nat) (bs:Nat→Nat) (v:Nat→Value) (cv:Value) (at_:Int) (k:Nat):Value:=
 if k<4 then .pointer (some ⟨bo k,0,none⟩) else if k=4 then .pointer (some ⟨mb,0,none⟩) else if k<21 then .pointer (some ⟨bs (k-5),0,none⟩) else if k<37 then v (k-21) else if k=37 then cv else .int .i64 at_
abbrev tfA (bo:Nat→Nat) (mb:Nat) (bs:Nat→Nat) (v:Nat→Value) (cv:Value) (at_:Int):Array Value:=wsN 39 (tfF bo mb bs v cv at_)
section
variable (bo:Nat→Nat) (mb:Nat) (bs:Nat→Nat) (v:Nat→Value) (cv:Value) (at_:Int)
theorem tf_o {i:Nat} (h:i<4):(tfA bo mb bs v cv at_)[i]?=some (.pointer (some ⟨bo i,0,none⟩)):=by
 rw [wsN_get _ (by omega)];unfold tfF;rw [if_pos h]
theorem tf_m:(tfA bo mb bs v cv at_)[4]?=some (.pointer (some ⟨mb,0,none⟩)):=by
 rw [wsN_get _ (by omega)];rfl
theorem tf_s {i:Nat} (h:i<16):(tfA bo mb bs v cv at_)[5+i]?=some (.pointer (some ⟨bs i,0,none⟩)):=by
 rw [wsN_get _ (by omega)];unfold tfF;rw [if_neg (by omega),if_neg (by omega),if_pos (by omega),Nat.add_sub_cancel_left]
theorem tf_v {i:Nat} (h:i<16):(tfA bo mb bs v cv at_)[21+i]?=some (v i):=by
 rw [wsN_get _ (by omega)];unfold tfF;rw [if_neg (by omega),if_neg (by omega),if_neg (by omega),if_pos (by omega),Nat.add_sub_cancel_left]
theorem tf_c:(tfA bo mb bs v cv at_)[37]?=some cv:=by
 rw [wsN_get _ (by omega)];rfl
theorem tf_a:(tfA bo mb bs v cv at_)[38]?=some (.int .i64 at_):=by
 rw [wsN_get _ (by omega)];rfl
theorem wsN_ext {n:Nat} {f g:Nat→Value} (h:∀ k,k<n→f k=g k):wsN n f=wsN n g:=by
 unfold wsN
 rw [List.map_congr_left (fun k hk=>h k (List.mem_range.1 hk))]
theorem tf_putv {i:Nat} (h:i<16) (u:Value):putAt (tfA bo mb bs v cv at_) (21+i) #[u]=tfA bo mb bs (upd v i u) cv at_:=by
 rw [wsN_put _ (by omega)]
 refine wsN_ext fun k hk=>?_
 by_cases e:k=21+i
 ·subst e
  rw [upd_same]
  unfold tfF
  rw [if_neg (by omega),if_neg (by omega),if_neg (by omega),if_pos (by omega),Nat.add_sub_cancel_left,upd_same]
 ·rw [upd_other _ _ e]
  unfold tfF
  by_cases h1:21≤k∧k<37
  ·rw [upd_other _ _ (by omega)]
  ·repeat' split
   all_goals first | rfl | omega
theorem tf_puts {i:Nat} (h:i<16) (b:Nat):putAt (tfA bo mb bs v cv at_) (5+i) #[.pointer (some ⟨b,0,none⟩)]=tfA bo mb (upd bs i b) v cv at_:=by
 rw [wsN_put _ (by omega)]
 refine wsN_ext fun k hk=>?_
 by_cases e:k=5+i
 ·subst e
  rw [upd_same]
  unfold tfF
  rw [if_neg (by omega),if_neg (by omega),if_pos (by omega),Nat.add_sub_cancel_left,upd_same]
 ·rw [upd_other _ _ e]
  unfold tfF
  by_cases h1:5≤k∧k<21
  ·rw [upd_other _ _ (by omega)]
  ·repeat' split
   all_goals first | rfl | omega
theorem tf_puta (n:Int):putAt (tfA bo mb bs v cv at_) 38 #[.int .i64 n]=tfA bo mb bs v cv n:=by
 rw [wsN_put _ (by omega)]
 refine wsN_ext fun k hk=>?_
 by_cases e:k=38
 ·subst e
  rfl
 ·rw [upd_other _ _ e]
  unfold tfF
  repeat' split
  all_goals first | rfl | omega
end
def ownF (st:Nat→List Sm) (v:Nat→Value):List Ow:=(List.range 16).map fun m=>⟨76,7,v m,(st m).length,sms (st m)⟩
theorem ownF_at (st:Nat→List Sm) (v:Nat→Value) {m:Nat} (hm:m<16):(ownF st v)[m]?=some ⟨76,7,v m,(st m).length,sms (st m)⟩:=by
 unfold ownF
 rw [List.getElem?_map,List.getElem?_range hm]
 rfl
theorem ownF_set (st:Nat→List Sm) (v:Nat→Value) {m:Nat} (l:List Sm) (u:Value):(ownF st v).set m ⟨76,7,u,l.length,sms l⟩=ownF (upd st m l) (upd v m u):=by
 unfold ownF
 rw [set_mapO]
 congr 1
 funext k
 unfold upd
 split<;>rfl
def splB (bs:Nat→Nat) (sp:Nat→List UInt8):List Blk:=(List.range 16).map fun m=>⟨bs m, #[.string ⟨(sp m).toArray⟩, .int .i64 0],47⟩
theorem splB_at (bs:Nat→Nat) (sp:Nat→List UInt8) {m:Nat} (hm:m<16):(splB bs sp)[m]?=some ⟨bs m, #[.string ⟨(sp m).toArray⟩, .int .i64 0],47⟩:=by
 unfold splB
 rw [List.getElem?_map,List.getElem?_range hm]
 rfl
theorem splB_set (bs:Nat→Nat) (sp:Nat→List UInt8) {m:Nat} (b:Nat) (s:List UInt8):(splB bs sp).set m ⟨b, #[.string ⟨s.toArray⟩, .int .i64 0],47⟩=splB (upd bs m b) (upd sp m s):=by
 unfold splB
 rw [set_mapO]
 congr 1
 funext k
 unfold upd
 split<;>rfl
def u8s (l:List Int):List Value:=l.map (.int .u8 ·)
structure TfRows (o:Nat→Ov) (x:Nat→OvP) (st:Nat→List Sm) (ca:Option Addr) (cc:Nat) (CU:List Int) (R:List Rw):Prop where
 ov:∀ i,i<4→∀ r∈orows (o i) (x i) [],r∈R
 way:∀ m,∀ l∈st m,l.row∈R
 cut:(⟨ca,CU.length,cc,u8s CU⟩:Rw)∈R
 cur:∀ x∈CU,0≤x∧x<256
structure TfLinks (q:Int→Int→List PIt) (sp:Nat→List UInt8) (st:Nat→List Sm) (Lw:Nat→Nat→List OLet) (K:Nat):Prop where
 link:∀ i j,i<4→j<4→Link (sp (i * 4+j)) (q ((i:Int)+1) ((j:Int)+1)) ((st (i * 4+j)).map Sm.m) (Lw i j)
 self:∀ i,i<4→q ((i:Int)+1) ((i:Int)+1)=[]
 max:∀ i j,(q i j).length≤64
 few:∀ m,(st m).length≤K
abbrev lv4:List Int:=[1,2,3,4]
abbrev tfB (bf:Nat) (bo:Nat→Nat) (mb:Nat) (bs:Nat→Nat) (v:Nat→Value) (ca:Option Addr) (cc:Nat) (CU:List Int) (at_:Nat) (sp:Nat→List UInt8) (o:Nat→Ov) (x:Nat→OvP):List Blk:=
 ⟨bf,tfA bo mb bs v (.slice ca CU.length cc) at_,38⟩::(splB bs sp++ovB 4 bo o x)
structure TfIn (W0:World) (bf:Nat) (dp:Value) (bo:Nat→Nat) (mb:Nat) (ca:Option Addr) (cc:Nat) (CU:List Int) (K:Nat) (p:Nat) (outs:List Ms) (B':List Blk) (R0:List Rw) (w:World)
  (Wb:World) (O:Ori) (o:Nat→Ov) (x:Nat→OvP) (bs:Nat→Nat) (v:Nat→Value) (ds:List Int) (R:List Rw) (lb qb:Nat) (ps:List Pp) (q:Int→Int→List PIt) (sp:Nat→List UInt8) (st:Nat→List Sm) (Lw:Nat→Nat→List OLet) (at_:Nat):Prop where
 inv:OInv 4 2 3 ⟨o,pushMs p Lw outs⟩
 lk:TfLinks q sp st Lw K
 hat:at_≤CU.length
 base:Wb=W0∧W0.heap.size≤lb
 rows:TfRows o x st ca cc CU R
 r0:∀ r∈R0,r∈R
 mesh:MeshR w mb lb qb lv4 ps q
 sta:Sta Wb O dp ds (tfB bf bo mb bs v ca cc CU at_ sp o x++B') (ownF st v) R w
def TfSt (W0:World) (bf:Nat) (dp:Value) (bo:Nat→Nat) (mb:Nat) (ca:Option Addr) (cc:Nat) (CU:List Int) (K:Nat) (p:Nat) (outs:List Ms) (B':List Blk) (R0:List Rw) (w:World):Prop:=
 ∃ Wb O o x bs v ds R lb qb ps q sp st Lw at_,TfIn W0 bf dp bo mb ca cc CU K p outs B' R0 w Wb O o x bs v ds R lb qb ps q sp st Lw at_
theorem TfIn.lbs {W0:World} {bf:Nat} {dp:Value} {bo:Nat→Nat} {mb:Nat} {ca:Option Addr} {cc:Nat} {CU:List Int} {K p:Nat} {outs:List Ms} {B':List Blk} {R0:List Rw} {w Wb:World} {O:Ori} {o:Nat→Ov} {x:Nat→OvP} {bs:Nat→Nat} {v:Nat→Value} {ds:List Int} {R:List Rw} {lb qb:Nat} {ps:List Pp} {q:Int→Int→List PIt} {sp:Nat→List UInt8} {st:Nat→List Sm} {Lw:Nat→Nat→List OLet} {at_:Nat}
  (h:TfIn W0 bf dp bo mb ca cc CU K p outs B' R0 w Wb O o x bs v ds R lb qb ps q sp st Lw at_):Wb.heap.size≤lb:=by rw [h.base.1];exact h.base.2
end
end Go.Proofs.YtelepohdfcjnfaaGreat
