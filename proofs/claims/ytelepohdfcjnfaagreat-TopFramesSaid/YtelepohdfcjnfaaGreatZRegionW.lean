/-
  A law for regions that draw their order: if every operation is either quiet in a class of worlds or one of a chain of effects that keep the class, the order of the text serves every order. No program of the seat here.
-/
import Derived.Still
import Derived.Tactics
import Derived.LoopTactic
import Derived.BigQuiet
import Derived.WalkKit
namespace Go.Proofs.YtelepohdfcjnfaaGreat
section
section
variable {P:Program} {ops:Array Oper} {C:World→Prop} {Q:Exit→Act→World→Prop} {eff pan:Nat→Bool}
def QuietC (P:Program) (C:World→Prop) (o:Oper) (a:Act) (v:Value):Prop:=∀ w,C w→(execOp a.eval o).run P w= .ok (.value v) w
def QE (E:List PanicEntry→World→Prop):Exit→Act→World→Prop
 | .panic c,_,w=>E c w
 | _,_,_=>False
def YX (P:Program) (ops:Array Oper) (C:World→Prop) (o:Oper) (v:Value) (a:Act):Prop:=
 (Region.wanted o (yielded ops a.tmps)=true∧QuietC P C o a v)∨(Region.wanted o (yielded ops a.tmps)=false∧v=undef)
def stepX (P:Program) (ops:Array Oper) (C:World→Prop) (Q:Exit→Act→World→Prop) (eff pan:Nat→Bool) (i:Nat) (o:Oper) (K:Act→World→Prop) (a:Act) (w:World):Prop:=
 if eff i then
  if Region.wanted o (yielded ops a.tmps) then o.wp P a w (fun a' w'=>C w'∧K a' w') (QE fun c w'=>pan i=true∧Q (.panic c) a w') else K (a.put o.dst undef) w
 else ∃ v,YX P ops C o v a∧K (a.put o.dst v) w
def wpAnyX (P:Program) (ops:Array Oper) (C:World→Prop) (Q:Exit→Act→World→Prop) (eff pan:Nat→Bool):Nat→Array Bool→Act→World→Prop
 | 0,listed,a,w=>Region.ready .any ops listed=[]∧Q .normal a w
 | fuel+1,listed,a,w=>
  (Region.ready .any ops listed=[]→Q .normal a w)∧
  ∀ i∈Region.ready .any ops listed,∀ o,ops[i]?=some o→stepX P ops C Q eff pan i o (wpAnyX P ops C Q eff pan fuel (listed.setIfInBounds i true)) a w
theorem upon_imp {o:Oper} {a:Act} {K K':Act→World→Prop} {Q Q':Exit→Act→World→Prop} {r:Result Next} (hK:∀ a w,K a w→K' a w) (hQ:∀ c w,Q (.panic c) a w→Q' (.panic c) a w)
  (hL:LetsOut Q→LetsOut Q') (h:o.upon P a K Q r):o.upon P a K' Q' r:=by
 cases r with
 | ok n w'=>
  cases n<;>simp only [Oper.upon] at h ⊢ <;>
   first
    | exact hK _ _ h
    | exact Calls.mono h (fun e w'' he=>by cases e<;>first | exact hK _ _ he | exact hQ _ _ he | exact hL he)
    | exact Rows.mono h (fun _ _ he=>hK _ _ he)
 | halt x w'=>cases x<;>simp only [Oper.upon] at h ⊢;exact hQ _ _ h
theorem letsOut_QE {E:List PanicEntry→World→Prop}:¬ LetsOut (QE E):=fun ⟨_,_,h⟩=>h
theorem stepX_mono {i:Nat} {o:Oper} {K K':Act→World→Prop} {a:Act} {w:World} (hK:∀ a w,K a w→K' a w) (h:stepX P ops C Q eff pan i o K a w):stepX P ops C Q eff pan i o K' a w:=by
 unfold stepX at *
 split
 ·rename_i he
  simp only [he,if_true] at h
  split
  ·rename_i hw;simp only [hw,if_true] at h
   exact upon_imp (fun a w ⟨h1,h2⟩=>⟨h1,hK _ _ h2⟩) (fun _ _ h=>h) (fun h=>absurd h letsOut_QE) h
  ·rename_i hw;simp only [hw,Bool.false_eq_true,if_false] at h;exact hK _ _ h
 ·rename_i he
  simp only [he,Bool.false_eq_true,if_false] at h
  obtain ⟨v,h1,h2⟩:=h
  exact ⟨v,h1,hK _ _ h2⟩
theorem wpOp_of_stepX {i:Nat} {o:Oper} {K K':Act→World→Prop} {a:Act} {w:World} (hi:ops[i]?=some o) (hC:C w) (hK:∀ a w,C w→K a w→K' a w) (h:stepX P ops C Q eff pan i o K a w):wpOp P ops Q i K' a w:=by
 unfold wpOp
 simp only [hi]
 unfold stepX at h
 split at h
 ·split
  ·rename_i hw;simp only [hw,if_true] at h
   refine .inl (upon_imp (fun a w ⟨h1,h2⟩=>hK _ _ h1 h2) (fun _ _ h=>h.2) (fun h=>absurd h letsOut_QE) h)
  ·rename_i hw;simp only [hw] at h;exact hK _ _ hC h
 ·obtain ⟨v,h1 | h1,h2⟩:=h
  ·simp only [h1.1,if_true,Oper.wp,h1.2 w hC,Oper.upon]
   exact .inl (hK _ _ hC h2)
  ·obtain ⟨h3,rfl⟩:=h1
   simp only [h3,Bool.false_eq_true,if_false]
   exact hK _ _ hC h2
theorem wpAny_of_X:∀ (fuel:Nat) (listed:Array Bool) (a:Act) (w:World),C w→wpAnyX P ops C Q eff pan fuel listed a w→wpAny P .any ops Q fuel listed a w
 | 0,_,_,_,_,h=>h
 | fuel+1,listed,a,w,hC,h=>⟨h.1,fun i hi=>by
   obtain ⟨_,o,ho,_⟩:=mem_ready.1 hi
   exact wpOp_of_stepX ho hC (fun a' w' hC' h'=>wpAny_of_X fuel _ a' w' hC' h') (h.2 i hi o ho)⟩
theorem wp_putX {o:Oper} (hs:∀ cs b,o.op≠ .select cs b) {d:Option Tmp} {u:Value} {K:Act→World→Prop} {E E':List PanicEntry→World→Prop} {a:Act} {w:World}
  (h1:∀ x,d=some x→x∉o.looksAt ops) (h2:∀ x,d=some x→o.dst≠some x) (hE:∀ c w,E c w→E' c w) (h:o.wp P a w (fun a' w'=>K (a'.put d u) w') (QE E)):o.wp P (a.put d u) w K (QE E'):=by
 unfold Oper.wp at *
 rw [execOp_put o hs a d u h1]
 generalize (execOp a.eval o).run P w=r at *
 cases r with
 | ok n w'=>
  cases n<;>simp only [Oper.upon] at h ⊢
  case value v=>rw [Act.put_comm a u v h2];exact h
  case skip=>rw [Act.put_comm a u undef h2];exact h
  case defer q=>rw [Act.put_defers,Act.put_comm _ u undef h2];exact h
  case enter f args=>
   refine Calls.mono h fun e w'' he=>?_
   cases e with
   | returned v=>show K _ _;rw [Act.put_comm a u v h2];exact he
   | panicked c=>exact hE _ _ he
   | outgrown=>exact absurd he letsOut_QE
  case row row args=>exact Rows.mono h fun v w'' he=>by rw [Act.put_comm a u v h2];exact he
 | halt x w'=>
  cases x<;>simp only [Oper.upon] at h ⊢
  case panic v=>exact hE _ _ h
theorem wp_unputX {o:Oper} (hs:∀ cs b,o.op≠ .select cs b) {d:Option Tmp} {u:Value} {K:Act→World→Prop} {E E':List PanicEntry→World→Prop} {a:Act} {w:World}
  (h1:∀ x,d=some x→x∉o.looksAt ops) (h2:∀ x,d=some x→o.dst≠some x) (hE:∀ c w,E c w→E' c w) (h:o.wp P (a.put d u) w K (QE E)):
  o.wp P a w (fun a' w'=>K (a'.put d u) w') (QE E'):=by
 unfold Oper.wp at *
 rw [execOp_put o hs a d u h1] at h
 generalize (execOp a.eval o).run P w=r at *
 cases r with
 | ok n w'=>
  cases n<;>simp only [Oper.upon] at h ⊢
  case value v=>rw [Act.put_comm a u v h2] at h;exact h
  case skip=>rw [Act.put_comm a u undef h2] at h;exact h
  case defer q=>rw [Act.put_defers,Act.put_comm _ u undef h2] at h;exact h
  case enter f args=>
   refine Calls.mono h fun e w'' he=>?_
   cases e with
   | returned v=>show K _ _;rw [←Act.put_comm a u v h2];exact he
   | panicked c=>exact hE _ _ he
   | outgrown=>exact absurd he letsOut_QE
  case row row args=>exact Rows.mono h fun v w'' he=>by rw [Act.put_comm a u v h2] at he;exact he
 | halt x w'=>
  cases x<;>simp only [Oper.upon] at h ⊢
  case panic v=>exact hE _ _ h
theorem YX.of_same {o:Oper} {v:Value} {a a':Act} (hy:YX P ops C o v a) (he:execOp a'.eval o=execOp a.eval o)
  (hw:Region.wanted o (yielded ops a'.tmps)=Region.wanted o (yielded ops a.tmps)):YX P ops C o v a':=by
 unfold YX QuietC at *
 rw [he,hw]
 exact hy
theorem YX.put {o:Oper} {v:Value} {a:Act} (hs:∀ cs b,o.op≠ .select cs b) {d:Option Tmp} {u:Value} (h:∀ x,d=some x→x∉o.looksAt ops) (hy:YX P ops C o v a):YX P ops C o v (a.put d u):=
 hy.of_same (execOp_put o hs a d u h) (wanted_put o a d u h)
theorem YX.unput {o:Oper} {v:Value} {a:Act} (hs:∀ cs b,o.op≠ .select cs b) {d:Option Tmp} {u:Value} (h:∀ x,d=some x→x∉o.looksAt ops) (hy:YX P ops C o v (a.put d u)):YX P ops C o v a:=
 hy.of_same (execOp_put o hs a d u h).symm (wanted_put o a d u h).symm
theorem YX.defers {o:Oper} {v:Value} {a:Act} {q:Deferred} (hy:YX P ops C o v { a with defers:=q::a.defers }):YX P ops C o v a:=hy.of_same rfl rfl
theorem YX.defers' {o:Oper} {v:Value} {a:Act} {q:Deferred} (hy:YX P ops C o v a):YX P ops C o v { a with defers:=q::a.defers }:=hy.of_same rfl rfl
theorem YX.uniq {o:Oper} {v v':Value} {a:Act} {w:World} (hC:C w) (h:YX P ops C o v a) (h':YX P ops C o v' a):v=v':=by
 rcases h with ⟨h1,h2⟩ | ⟨h1,h2⟩<;>rcases h' with ⟨h3,h4⟩ | ⟨h3,h4⟩
 ·have:=(h2 w hC).symm.trans (h4 w hC);injection this with this;injection this
 ·rw [h1] at h3;cases h3
 ·rw [h1] at h3;cases h3
 ·rw [h2,h4]
theorem stepX_put {j:Nat} {oi oj:Oper} {v:Value} (hap:oi.apart ops oj=true) (hsi:∀ cs b,oi.op≠ .select cs b) (hsj:∀ cs b,oj.op≠ .select cs b)
  (hQ:∀ c (a:Act) w d v,Q (.panic c) (a.put d v) w→Q (.panic c) a w) {K:Act→World→Prop} {a:Act} {w:World}
  (hy:YX P ops C oi v a) (h:stepX P ops C Q eff pan j oj K (a.put oi.dst v) w):
  stepX P ops C Q eff pan j oj (fun a' w'=>YX P ops C oi v a'∧K (a'.put oi.dst v) w') a w:=by
 obtain ⟨h1,h2,h3⟩:=Oper.apart_spec hap
 unfold stepX at *
 split
 ·rename_i he
  simp only [he,if_true] at h
  rw [wanted_put oj a oi.dst v h1] at h
  split
  ·rename_i hw;simp only [hw,if_true] at h
   have h4:=wp_unputX hsj h1 h2 (E':=fun c w'=>pan j=true∧Q (.panic c) a w') (fun c w ⟨p,q⟩=>⟨p,hQ _ _ _ _ _ q⟩) h
   unfold Oper.wp at *
   generalize (execOp a.eval oj).run P w=r at h4 ⊢
   cases r with
   | ok n w'=>
    cases n<;>simp only [Oper.upon] at h4 ⊢
    case value u=>exact ⟨h4.1,hy.put hsi h3,h4.2⟩
    case skip=>exact ⟨h4.1,hy.put hsi h3,h4.2⟩
    case defer q=>exact ⟨h4.1,hy.defers'.put hsi h3,h4.2⟩
    case enter f args=>
     refine Calls.mono h4 fun e w'' he=>?_
     cases e with
     | returned u=>exact ⟨he.1,hy.put hsi h3,he.2⟩
     | panicked c=>exact he
     | outgrown=>exact he
    case row row args=>exact Rows.mono h4 fun u w'' he=>⟨he.1,hy.put hsi h3,he.2⟩
   | halt x w'=>cases x<;>simp only [Oper.upon] at h4 ⊢;exact h4
  ·rename_i hw;simp only [hw,Bool.false_eq_true,if_false] at h
   exact ⟨hy.put hsi h3,by rw [←Act.put_comm a v undef h2];exact h⟩
 ·rename_i he
  simp only [he,Bool.false_eq_true,if_false] at h
  obtain ⟨u,hu,hK⟩:=h
  exact ⟨u,hu.unput hsj h1,hy.put hsi h3,by rw [←Act.put_comm a v u h2];exact hK⟩
theorem firstQ {i:Nat} {oi:Oper} {v:Value} (hi:ops[i]?=some oi) (he:eff i=false) (hsel:∀ (j:Nat) (o:Oper) cs b,ops[j]?=some o→o.op≠ .select cs b)
  (hQ:∀ c (a:Act) w d v,Q (.panic c) (a.put d v) w→Q (.panic c) a w):
  ∀ (fuel:Nat) (listed:Array Bool) (a:Act) (w:World),
   (∀ j oj,ops[j]?=some oj→j≠i→listed.getD j true=false→(∀ e∈oj.after,Region.binds .any e=true→e.on≠i)→oi.apart ops oj=true)→
   i∈Region.ready .any ops listed→YX P ops C oi v a→
   wpAnyX P ops C Q eff pan fuel (listed.setIfInBounds i true) (a.put oi.dst v) w→wpAnyX P ops C Q eff pan (fuel+1) listed a w:=by
 intro fuel
 induction fuel with
 | zero=>
  intro listed a w _ hr hy H
  refine ⟨fun h=>(by rw [h] at hr;cases hr),fun j hj oj hoj=>?_⟩
  by_cases hji:j=i
  ·subst hji
   obtain rfl:oj=oi:=Option.some.inj (hoj.symm.trans hi)
   unfold stepX;simp only [he,Bool.false_eq_true,if_false];exact ⟨v,hy,H⟩
  ·have:=ready_mono hj hji
   rw [H.1] at this
   cases this
 | succ fuel ih=>
  intro listed a w hfree hr hy H
  refine ⟨fun h=>(by rw [h] at hr;cases hr),fun j hj oj hoj=>?_⟩
  by_cases hji:j=i
  ·subst hji
   obtain rfl:oj=oi:=Option.some.inj (hoj.symm.trans hi)
   unfold stepX;simp only [he,Bool.false_eq_true,if_false];exact ⟨v,hy,H⟩
  ·have h1:=H.2 j (ready_mono hj hji) oj hoj
   obtain ⟨hjun,oj',hoj',hall⟩:=mem_ready.1 hj
   obtain rfl:oj=oj':=Option.some.inj (hoj.symm.trans hoj')
   have hnot:∀ e∈oj.after,Region.binds .any e=true→e.on≠i:=fun e he hb heq=>by
    have h1:=hall e he hb
    have h0:=(mem_ready.1 hr).1
    rw [heq] at h1
    rcases Nat.lt_or_ge i listed.size with h' | h'
    ·simp [h'] at h0 h1;rw [h0] at h1;cases h1
    ·simp [Array.getElem?_eq_none h'] at h1
   have h2:=stepX_put (hfree j oj hoj hji hjun hnot) (fun cs b=>hsel i oi cs b hi) (fun cs b=>hsel j oj cs b hoj) hQ hy h1
   have hfree':∀ k ok,ops[k]?=some ok→k≠i→(listed.setIfInBounds j true).getD k true=false→
     (∀ e∈ok.after,Region.binds .any e=true→e.on≠i)→oi.apart ops ok=true:=fun k ok hk hki hun hno=>by
    refine hfree k ok hk hki ?_ hno
    by_cases hjk:j=k
    ·subst hjk;exact hjun
    ·rw [getD_set_ne true hjk] at hun;exact hun
   refine stepX_mono (fun a' w' h3=>ih (listed.setIfInBounds j true) a' w' hfree' (ready_mono hr (Ne.symm hji)) h3.1 ?_) h2
   rw [Array.setIfInBounds_comm _ _ hji]
   exact h3.2
inductive RgReach (ops:Array Oper):Nat→Nat→Prop where
 | direct (j i:Nat) (o:Oper) (e:Edge):ops[j]?=some o→e∈o.after→Region.binds .any e=true→e.on=i→RgReach ops j i
 | via (j k i:Nat) (o:Oper) (e:Edge):ops[j]?=some o→e∈o.after→Region.binds .any e=true→e.on=k→RgReach ops k i→RgReach ops j i
def RgClosed (ops:Array Oper) (listed:Array Bool):Prop:=
 listed.size=ops.size∧∀ j o,ops[j]?=some o→listed.getD j false=true→∀ e∈o.after,Region.binds .any e=true→listed.getD e.on false=true
theorem reach_listed {listed:Array Bool} (hc:RgClosed ops listed) {j i:Nat} (h:RgReach ops j i):listed.getD j false=true→listed.getD i false=true:=by
 induction h with
 | direct j i o e ho he hb hon=>intro hl;exact hon▸hc.2 j o ho hl e he hb
 | via j k i o e ho he hb hon _ ih=>intro hl;exact ih (hon▸hc.2 j o ho hl e he hb)
theorem reach_not_ready {listed:Array Bool} (hc:RgClosed ops listed) {j i:Nat} (h:RgReach ops j i) (hi:listed.getD i true=false):j∉Region.ready .any ops listed:=by
 intro hr
 obtain ⟨_,oj,hoj,hall⟩:=mem_ready.1 hr
 have hin:listed.getD i false≠true:=by
  intro h1
  rcases Nat.lt_or_ge i listed.size with h' | h'
  ·simp [h'] at hi h1;rw [hi] at h1;cases h1
  ·simp [Array.getElem?_eq_none h'] at h1
 cases h with
 | direct _ _ o e ho he hb hon=>
  obtain rfl:oj=o:=Option.some.inj (hoj.symm.trans ho)
  exact hin (hon▸hall e he hb)
 | via _ k _ o e ho he hb hon hr'=>
  obtain rfl:oj=o:=Option.some.inj (hoj.symm.trans ho)
  exact hin (reach_listed hc hr' (hon▸hall e he hb))
theorem RgClosed.set {listed:Array Bool} (hc:RgClosed ops listed) {i:Nat} (hi:i∈Region.ready .any ops listed):RgClosed ops (listed.setIfInBounds i true):=by
 obtain ⟨_,oi,hoi,hall⟩:=mem_ready.1 hi
 refine ⟨by simp [hc.1],fun j oj hj hl e he hb=>?_⟩
 by_cases hij:i=j
 ·subst hij
  obtain rfl:oj=oi:=Option.some.inj (hj.symm.trans hoi)
  exact getD_set_true (hall e he hb)
 ·rw [getD_set_ne false hij] at hl
  exact getD_set_true (hc.2 j oj hj hl e he hb)
theorem extractX {o:Oper} {a:Act} {w:World} {K:Act→World→Prop} {E:List PanicEntry→World→Prop} (hE:∀ c w,¬ E c w) (h:o.wp P a w K (QE E)):∃ a' w' v,K a' w'∧(a'=a.put o.dst v∨∃ q,a'={ a with defers:=q::a.defers }.put o.dst v):=by
 unfold Oper.wp at h
 generalize (execOp a.eval o).run P w=r at h
 cases r with
 | ok n w'=>
  cases n<;>simp only [Oper.upon] at h
  case value v=>exact ⟨_,_,_,h, .inl rfl⟩
  case skip=>exact ⟨_,_,_,h, .inl rfl⟩
  case defer q=>exact ⟨_,_,_,h, .inr ⟨q,rfl⟩⟩
  case enter f args=>
   obtain ⟨e,w'',fr,hR,_⟩:=h []
   cases e with
   | returned v=>exact ⟨_,_,v,hR, .inl rfl⟩
   | panicked c=>exact absurd hR (hE _ _)
   | outgrown=>exact absurd hR letsOut_QE
  case row row args=>
   obtain ⟨v,w'',hR,_⟩:=h default []
   exact ⟨_,_,v,hR, .inl rfl⟩
 | halt x w'=>cases x<;>simp only [Oper.upon] at h;exact absurd h (hE _ _)
theorem firstE {i:Nat} {oi:Oper} (hi:ops[i]?=some oi) (he:eff i=true) (hsel:∀ (j:Nat) (o:Oper) cs b,ops[j]?=some o→o.op≠ .select cs b)
  (hQ':∀ c (a:Act) w d v,Q (.panic c) a w→Q (.panic c) (a.put d v) w):
  ∀ (fuel:Nat) (listed:Array Bool) (a:Act) (w:World),C w→RgClosed ops listed→
   (∀ j oj,ops[j]?=some oj→j≠i→listed.getD j true=false→(∀ e∈oj.after,Region.binds .any e=true→e.on≠i)→oi.apart ops oj=true)→
   (∀ j,j≠i→listed.getD j true=false→(eff j=true∨pan i=true)→j<ops.size→RgReach ops j i)→
   i∈Region.ready .any ops listed→stepX P ops C Q eff pan i oi (wpAnyX P ops C Q eff pan fuel (listed.setIfInBounds i true)) a w→wpAnyX P ops C Q eff pan (fuel+1) listed a w:=by
 intro fuel
 induction fuel with
 | zero=>
  intro listed a w hC hcl _ hre hr H
  refine ⟨fun h=>(by rw [h] at hr;cases hr),fun j hj oj hoj=>?_⟩
  by_cases hji:j=i
  ·subst hji
   obtain rfl:oj=oi:=Option.some.inj (hoj.symm.trans hi)
   exact H
  ·have hr1:=ready_mono hj hji
   exfalso
   unfold stepX at H
   simp only [he,if_true] at H
   have key:∀ a w,¬ wpAnyX P ops C Q eff pan 0 (listed.setIfInBounds i true) a w:=fun a w h=>by
    have:=h.1;rw [this] at hr1;cases hr1
   split at H
   ·cases hp:pan i with
    | true=>exact reach_not_ready hcl (hre j hji (mem_ready.1 hj).1 (.inr hp) (Array.getElem?_eq_some_iff.1 hoj).1) (mem_ready.1 hr).1 hj
    | false=>
     obtain ⟨a',w',v,⟨_,hK⟩,_⟩:=extractX (fun c w ⟨h,_⟩=>by rw [hp] at h;cases h) H
     exact key _ _ hK
   ·exact key _ _ H
 | succ fuel ih=>
  intro listed a w hC hcl hfree hre hr H
  refine ⟨fun h=>(by rw [h] at hr;cases hr),fun j hj oj hoj=>?_⟩
  by_cases hji:j=i
  ·subst hji
   obtain rfl:oj=oi:=Option.some.inj (hoj.symm.trans hi)
   exact H
  ·obtain ⟨hjun,oj',hoj',hall⟩:=mem_ready.1 hj
   obtain rfl:oj=oj':=Option.some.inj (hoj.symm.trans hoj')
   have hlt:=(Array.getElem?_eq_some_iff.1 hoj).1
   have hje:eff j=false:=by
    cases h:eff j with
    | false=>rfl
    | true=>exact absurd hj (reach_not_ready hcl (hre j hji hjun (.inl h) hlt) (mem_ready.1 hr).1)
   have hpi:pan i=false:=by
    cases h:pan i with
    | false=>rfl
    | true=>exact absurd hj (reach_not_ready hcl (hre j hji hjun (.inr h) hlt) (mem_ready.1 hr).1)
   have hnot:∀ e∈oj.after,Region.binds .any e=true→e.on≠i:=fun e he hb heq=>by
    have h1:=hall e he hb
    have h0:=(mem_ready.1 hr).1
    rw [heq] at h1
    rcases Nat.lt_or_ge i listed.size with h' | h'
    ·simp [h'] at h0 h1;rw [h0] at h1;cases h1
    ·simp [Array.getElem?_eq_none h'] at h1
   have hap:=hfree j oj hoj hji hjun hnot
   obtain ⟨g1,g2,g3⟩:=Oper.apart_spec hap
   have hsi:=fun cs b=>hsel i oi cs b hi
   have hsj:=fun cs b=>hsel j oj cs b hoj
   have hjr:=ready_mono hj hji
   have hval:∃ u,YX P ops C oj u a:=by
    unfold stepX at H
    simp only [he,if_true] at H
    split at H
    ·obtain ⟨a',w',v,⟨_,hK⟩,ha⟩:=extractX (fun c w ⟨h,_⟩=>by rw [hpi] at h;cases h) H
     have h1:=hK.2 j hjr oj hoj
     unfold stepX at h1
     simp only [hje,Bool.false_eq_true,if_false] at h1
     obtain ⟨u,hu,_⟩:=h1
     rcases ha with rfl | ⟨q,rfl⟩
     ·exact ⟨u,hu.unput hsj g1⟩
     ·exact ⟨u,(hu.unput hsj g1).defers⟩
    ·have h1:=H.2 j hjr oj hoj
     unfold stepX at h1
     simp only [hje,Bool.false_eq_true,if_false] at h1
     obtain ⟨u,hu,_⟩:=h1
     exact ⟨u,hu.unput hsj g1⟩
   obtain ⟨u,hu⟩:=hval
   have cont:∀ a' w',C w'→YX P ops C oj u a'→wpAnyX P ops C Q eff pan (fuel+1) (listed.setIfInBounds i true) a' w'→wpAnyX P ops C Q eff pan fuel ((listed.setIfInBounds j true).setIfInBounds i true) (a'.put oj.dst u) w':=by
    intro a' w' hC' hu' hK
    have h1:=hK.2 j hjr oj hoj
    unfold stepX at h1
    simp only [hje,Bool.false_eq_true,if_false] at h1
    obtain ⟨u',hu2,hK'⟩:=h1
    obtain rfl:=YX.uniq hC' hu' hu2
    rw [Array.setIfInBounds_comm _ _ hji]
    exact hK'
   unfold stepX
   simp only [hje,Bool.false_eq_true,if_false]
   refine ⟨u,hu,ih (listed.setIfInBounds j true) (a.put oj.dst u) w hC (hcl.set hj) ?_ ?_ (ready_mono hr (Ne.symm hji)) ?_⟩
   ·intro k ok hk hki hun hno
    refine hfree k ok hk hki ?_ hno
    by_cases hjk:j=k
    ·subst hjk;exact hjun
    ·rw [getD_set_ne true hjk] at hun;exact hun
   ·intro k hki hun hor hk
    refine hre k hki ?_ hor hk
    by_cases hjk:j=k
    ·subst hjk;exact hjun
    ·rw [getD_set_ne true hjk] at hun;exact hun
   ·unfold stepX at H ⊢
    simp only [he,if_true] at H ⊢
    rw [wanted_put oi a oj.dst u g3]
    have h2':∀ x,oj.dst=some x→oi.dst≠some x:=fun x hx hx'=>g2 x hx' hx
    split at H
    ·rename_i hw
     simp only [hw,if_true]
     refine wp_putX (K:=fun a' w'=>C w'∧wpAnyX P ops C Q eff pan fuel ((listed.setIfInBounds j true).setIfInBounds i true) a' w') (E:=fun c w'=>pan i=true∧Q (.panic c) a w') hsi g3 h2' (fun c w ⟨p,q⟩=>⟨p,hQ' _ _ _ _ _ q⟩) ?_
     unfold Oper.wp at H ⊢
     generalize (execOp a.eval oi).run P w=r at H ⊢
     cases r with
     | ok n w'=>
      cases n<;>simp only [Oper.upon] at H ⊢
      case value v=>exact ⟨H.1,cont _ _ H.1 (hu.put hsj g1) H.2⟩
      case skip=>exact ⟨H.1,cont _ _ H.1 (hu.put hsj g1) H.2⟩
      case defer q=>exact ⟨H.1,cont _ _ H.1 (hu.defers'.put hsj g1) H.2⟩
      case enter f args=>
       refine Calls.mono H fun e w'' hE=>?_
       cases e with
       | returned v=>exact ⟨hE.1,cont _ _ hE.1 (hu.put hsj g1) hE.2⟩
       | panicked c=>exact hE
       | outgrown=>exact hE
      case row row args=>exact Rows.mono H fun v w'' hE=>⟨hE.1,cont _ _ hE.1 (hu.put hsj g1) hE.2⟩
     | halt x w'=>cases x<;>simp only [Oper.upon] at H ⊢;exact H
    ·rename_i hw
     simp only [hw,Bool.false_eq_true,if_false]
     rw [←Act.put_comm a undef u g2]
     exact cont _ _ hC (hu.put hsj g1) H
def masks (ops:Array Oper):List (List Nat):=
 ops.toList.foldl (fun acc o=>acc++[(o.after.toList.filter (Region.binds .any)).flatMap fun e=>e.on::acc.getD e.on []]) []
theorem masks_sound:∀ (l:List Oper) (k:Nat) (acc:List (List Nat)),(∀ j,l[j]?=ops[k+j]?)→acc.length=k→(∀ j i,i∈acc.getD j []→RgReach ops j i)→
  ∀ j i,i∈(l.foldl (fun acc o=>acc++[(o.after.toList.filter (Region.binds .any)).flatMap fun e=>e.on::acc.getD e.on []]) acc).getD j []→RgReach ops j i
 | [],_,_,_,_,h=>h
 | o::l,k,acc,hl,hk,h=>by
  refine masks_sound l (k+1) _ (fun j=>by have:=hl (j+1);simpa [Nat.add_assoc,Nat.add_comm 1 j] using this) (by simp [hk]) ?_
  intro j i hi
  have h0:ops[k]?=some o:=by simpa using (hl 0).symm
  rcases Nat.lt_trichotomy j k with hj | hj | hj
  ·rw [List.getD_eq_getElem?_getD,List.getElem?_append_left (by omega)] at hi
   exact h j i (by rw [List.getD_eq_getElem?_getD];exact hi)
  ·subst hj
   rw [List.getD_eq_getElem?_getD,List.getElem?_append_right (by omega)] at hi
   simp only [hk,Nat.sub_self,List.getElem?_cons_zero,Option.getD_some,List.mem_flatMap,List.mem_filter,List.mem_cons] at hi
   obtain ⟨e,⟨he,hb⟩,hi | hi⟩:=hi
   ·exact .direct _ _ o e h0 (by simpa using he) hb hi.symm
   ·exact .via _ e.on _ o e h0 (by simpa using he) hb rfl (h _ _ hi)
  ·rw [List.getD_eq_getElem?_getD,List.getElem?_append_right (by omega)] at hi
   rw [hk] at hi
   have:j-k≠0:=by omega
   cases hjk:j-k with
   | zero=>omega
   | succ m=>rw [hjk] at hi;simp at hi
def goX (ops:Array Oper) (ms:List (List Nat)) (E Pn:List Nat):Nat→Nat→Array Bool→Bool
 | 0,_,listed=>(Region.ready .any ops listed).isEmpty
 | fuel+1,k,listed=>(Region.ready .any ops listed).contains k&&Region.free .any ops listed k&&
   (!E.contains k||(List.range ops.size).all fun j=>j==k||listed.getD j true|| !(E.contains j||Pn.contains k)||(ms.getD j []).contains k)&&
   goX ops ms E Pn fuel (k+1) (listed.setIfInBounds k true)
def regX (ops:Array Oper) (E Pn:List Nat):Bool:=Region.noSelect ops&&goX ops (masks ops) E Pn ops.size 0 (Array.replicate ops.size false)
def wpX (P:Program) (ops:Array Oper) (C:World→Prop) (Q:Exit→Act→World→Prop) (eff pan:Nat→Bool):Nat→List Oper→Act→World→Prop
 | _,[],a,w=>Q .normal a w
 | k,o::rest,a,w=>stepX P ops C Q eff pan k o (wpX P ops C Q eff pan (k+1) rest) a w
theorem wpAnyX_text {E Pn:List Nat} (hs:Region.noSelect ops=true) (hQ:∀ c (a:Act) w d v,Q (.panic c) (a.put d v) w→Q (.panic c) a w) (hQ':∀ c (a:Act) w d v,Q (.panic c) a w→Q (.panic c) (a.put d v) w):
  ∀ (l:List Oper) (k:Nat) (listed:Array Bool) (a:Act) (w:World),(∀ j,l[j]?=ops[k+j]?)→C w→RgClosed ops listed→goX ops (masks ops) E Pn l.length k listed=true→
   wpX P ops C Q E.contains Pn.contains k l a w→wpAnyX P ops C Q E.contains Pn.contains l.length listed a w
 | [],_,_,_,_,_,_,_,hB,h=>⟨by simpa [goX] using hB,h⟩
 | o::l,k,listed,a,w,hl,hC,hcl,hB,h=>by
  have h0:ops[k]?=some o:=by simpa using (hl 0).symm
  simp only [List.length_cons,goX,Bool.and_eq_true] at hB
  obtain ⟨⟨⟨hr,hf⟩,hE⟩,hB'⟩:=hB
  have hr:k∈Region.ready .any ops listed:=by simpa using hr
  have hl':∀ j,l[j]?=ops[k+1+j]?:=fun j=>by have:=hl (j+1);simpa [Nat.add_assoc,Nat.add_comm 1 j] using this
  have hcl':=hcl.set hr
  have IH:=fun a w hC=>wpAnyX_text hs hQ hQ' l (k+1) (listed.setIfInBounds k true) a w hl' hC hcl' hB'
  simp only [wpX] at h
  cases he:E.contains k with
  | false=>
   have h':=h
   unfold stepX at h'
   simp only [he,Bool.false_eq_true,if_false] at h'
   obtain ⟨v,hy,hK⟩:=h'
   exact firstQ h0 he (Region.noSelect_spec hs) hQ l.length listed a w (Region.free_spec h0 hf) hr hy (IH _ _ hC hK)
  | true=>
   refine firstE h0 he (Region.noSelect_spec hs) hQ' l.length listed a w hC hcl (Region.free_spec h0 hf) ?_ hr ?_
   ·intro j hjk hun hor hlt
    simp only [he,Bool.not_true,Bool.false_or,List.all_eq_true,List.mem_range] at hE
    have h1:=hE j hlt
    simp only [hun,Bool.or_false,Bool.or_eq_true,beq_iff_eq,Bool.not_eq_true',Bool.or_eq_false_iff] at h1
    rcases h1 with (h1 | h1) | h1
    ·exact absurd h1 hjk
    ·rcases hor with h2 | h2
     ·rw [h1.1] at h2;cases h2
     ·rw [h1.2] at h2;cases h2
    ·refine masks_sound ops.toList 0 [] (by simp) rfl (fun j i h=>by simp at h) j k ?_
     simpa [masks] using h1
   ·unfold stepX at h ⊢
    simp only [he,if_true] at h ⊢
    split
    ·rename_i hw
     simp only [hw,if_true] at h
     exact upon_imp (fun a w ⟨h1,h2⟩=>⟨h1,IH _ _ h1 h2⟩) (fun _ _ h=>h) (fun h=>h) h
    ·rename_i hw
     simp only [hw,Bool.false_eq_true,if_false] at h
     exact IH _ _ hC h
def valKind:Op→Bool
 | .move _ | .assign _ | .pick .. | .load .. | .nilCheck _ | .binOp .. | .unOp .. | .convert .. | .slice .. | .fieldAddr .. | .field .. | .indexAddr .. | .index .. | .extract .. | .build .. | .makeInterface .. | .makeFunc .. | .typeAssert .. =>true
 | .call { callee:= .builtin .len, .. } | .call { callee:= .builtin .cap, .. } | .call { callee:= .builtin .min, .. } | .call { callee:= .builtin .max, .. }=>true
 | _=>false
theorem value_run' {α:Type} {s:Sem α} {f:α→Value} {w w':World} {n:Next} (h:(do let v ←s;pure (Next.value (f v)):Sem Next).run P w= .ok n w'):∃ v,n= .value v:=by
 simp only [Sem.run_bind,Result.andThen] at h
 cases hs:s.run P w with
 | ok v w1=>rw [hs] at h;injection h with h1;exact ⟨_,h1.symm⟩
 | halt x w1=>rw [hs] at h;cases h
theorem value_run {s:Sem Value} {w w':World} {n:Next} (h:(do let v ←s;pure (Next.value v):Sem Next).run P w= .ok n w'):∃ v,n= .value v:=value_run' (f:=fun v=>v) h
theorem valKind_run {o:Oper} {ρ:Operand→Value} {w w':World} {n:Next} (hk:valKind o.op=true) (h:(execOp ρ o).run P w= .ok n w'):∃ v,n= .value v:=by
 obtain ⟨dst,op,type,pos,after,guard⟩:=o
 cases op<;>simp only [valKind] at hk<;>(try cases hk)<;>simp only [execOp] at h
 case move x=>injection h with h1;exact ⟨_,h1.symm⟩
 case assign x=>injection h with h1;exact ⟨_,h1.symm⟩
 case nilCheck x=>
  split at h
  ·simp [runtimePanic,goPanic,go_sem] at h
  ·simp [runtimePanic,goPanic,go_sem] at h
  ·simp [runtimePanic,goPanic,go_sem] at h
  ·split at h
   ·simp [runtimePanic,goPanic,go_sem] at h
   ·simp only [Sem.run_bind,Result.andThen] at h
    split at h
    ·split at h
     ·split at h
      ·simp [unsupported,go_sem] at h
      ·injection h with h1;exact ⟨_,h1.symm⟩
     ·cases h
    ·cases h
   ·injection h with h1;exact ⟨_,h1.symm⟩
  ·injection h with h1;exact ⟨_,h1.symm⟩
 case call c=>
  obtain ⟨callee,args,ats⟩:=c
  cases callee with
  | builtin b=>
   cases b<;>simp at hk<;>simp only [resolve,invoke,builtin] at h<;>exact value_run h
  | value f=>simp at hk
  | invoke r m=>simp at hk
 case pick c a b=>exact value_run' (f:=fun q=>if q=true then ρ a else ρ b) h
 all_goals exact value_run h
theorem getD_rep (m j:Nat):(Array.replicate m false).getD j false=false:=by
 rcases Nat.lt_or_ge j m with h | h
 ·simp [h]
 ·simp [h]
def wpU (P:Program) (ops:Array Oper) (C:World→Prop) (Q:Exit→Act→World→Prop) (E Pn:List Nat):Nat→List Oper→Act→World→Prop
 | _,[],a,w=>Q .normal a w
 | k,o::rest,a,w=>
  if E.contains k then wpList P ops (Exit.then (fun a' w'=>C w'∧wpU P ops C Q E Pn (k+1) rest a' w') (QE fun c w'=>Pn.contains k=true∧Q (.panic c) a w')) [o] a w
  else valKind o.op=true∧wpQuiet P ops C (fun a'=>wpU P ops C Q E Pn (k+1) rest a' w) [o] a
section
variable {E Pn:List Nat} {a:Act} {w:World} {k:Nat} {o:Oper} {rest:List Oper}
theorem wpU_nil (h:Q .normal a w):wpU P ops C Q E Pn k [] a w:=h
theorem wpU_q (he:E.contains k=false) (hv:valKind o.op=true) (h:wpQuiet P ops C (fun a'=>wpU P ops C Q E Pn (k+1) rest a' w) [o] a):wpU P ops C Q E Pn k (o::rest) a w:=by
 unfold wpU;rw [he];exact ⟨hv,h⟩
theorem wpU_e (he:E.contains k=true) (h:wpList P ops (Exit.then (fun a' w'=>C w'∧wpU P ops C Q E Pn (k+1) rest a' w') (QE fun c w'=>Pn.contains k=true∧Q (.panic c) a w')) [o] a w):wpU P ops C Q E Pn k (o::rest) a w:=by
 unfold wpU;rw [he];exact h
end
theorem wpX_of_U {E Pn:List Nat}:∀ (l:List Oper) (k:Nat) (a:Act) (w:World),C w→wpU P ops C Q E Pn k l a w→wpX P ops C Q E.contains Pn.contains k l a w
 | [],_,_,_,_,h=>h
 | o::l,k,a,w,hC,h=>by
  simp only [wpX,stepX]
  unfold wpU at h
  cases he:E.contains k with
  | true=>
   simp only [he,if_true] at h ⊢
   simp only [wpList] at h
   split
   ·rename_i hw
    simp only [hw,if_true] at h
    rcases h with h | ⟨_,a₀,w₀,h⟩
    ·refine upon_imp (fun a' w' h'=>?_) (fun c w' h'=>h') (fun ⟨a₀,w₀,h'⟩=>(h':False).elim) h
     exact ⟨h'.1,wpX_of_U l (k+1) a' w' h'.1 h'.2⟩
    ·exact (h:False).elim
   ·rename_i hw
    simp only [hw,Bool.false_eq_true,if_false] at h
    exact wpX_of_U l (k+1) _ w h.1 h.2
  | false=>
   simp only [he,Bool.false_eq_true,if_false] at h ⊢
   obtain ⟨hv,h⟩:=h
   simp only [wpQuiet] at h
   split at h
   ·rename_i hw
    obtain ⟨v,h1,h2⟩:=h
    refine ⟨v, .inl ⟨hw,fun w' hC'=>?_⟩,wpX_of_U l (k+1) _ w hC h2⟩
    have h3:=h1 w' hC'
    unfold Oper.quietAt at h3
    cases hr:(execOp a.eval o).run P w' with
    | halt x w1=>rw [hr] at h3;exact (h3:False).elim
    | ok n w1=>
     obtain ⟨u,rfl⟩:=valKind_run hv hr
     rw [hr] at h3
     obtain ⟨rfl,rfl⟩:=h3
     rfl
   ·rename_i hw
    exact ⟨undef, .inr ⟨by simpa using hw,rfl⟩,wpX_of_U l (k+1) _ w hC h⟩
structure WC (F:World→Prop) where
 val:World
 ok:F val
instance wcTrue:Nonempty (WC fun _=>True):=⟨⟨default,trivial⟩⟩
theorem wp_region_text {id:Nat} {l:List Oper} (E Pn:List Nat) (C:World→Prop) {Q:Exit→Act→World→Prop} {a:Act} {w:World} (hm:P.follows .mixedOrders=true) (hB:regX l.toArray E Pn=true)
  (hQ:∀ c (a:Act) w d v,Q (.panic c) (a.put d v) w→Q (.panic c) a w) (hQ':∀ c (a:Act) w d v,Q (.panic c) a w→Q (.panic c) (a.put d v) w) (hC:C w.drew)
  (h:wpU P l.toArray C Q E Pn 0 l a w.drew):(Code.region id l.toArray true).wp P Q a w:=by
 simp only [regX,Bool.and_eq_true] at hB
 refine wp_region_any hm (wpAny_of_X (C:=C) (eff:=E.contains) (pan:=Pn.contains) _ _ _ _ hC ?_)
 have:=wpAnyX_text (C:=C) (E:=E) (Pn:=Pn) hB.1 hQ hQ' l 0 (Array.replicate l.toArray.size false) a w.drew (by simp) hC
  ⟨by simp,fun j o _ hl=>by rw [getD_rep] at hl;cases hl⟩ (by simpa using hB.2) (wpX_of_U l 0 a w.drew hC h)
 simpa using this
end
end
section
section
variable {P:Program} {ops:Array Oper} {C:World→Prop} {Q:Exit→Act→World→Prop} {eff pan:Nat→Bool}
theorem firstF {F:List Nat} {i0:Nat} (hi0:i0∈F) (hF:∀ i∈F,eff i=true∧pan i=false) (hsel:∀ (j:Nat) (o:Oper) cs b,ops[j]?=some o→o.op≠ .select cs b)
  (hQ':∀ c (a:Act) w d v,Q (.panic c) a w→Q (.panic c) (a.put d v) w):
  ∀ (fuel:Nat) (listed:Array Bool) (a:Act) (w:World),C w→RgClosed ops listed→
   (∀ i∈F,∀ oi,ops[i]?=some oi→∀ j oj,ops[j]?=some oj→j≠i→listed.getD j true=false→(∀ e∈oj.after,Region.binds .any e=true→e.on≠i)→oi.apart ops oj=true)→
   (∀ j,j∉F→listed.getD j true=false→eff j=true→j<ops.size→∃ i∈F,RgReach ops j i)→
   (∀ i∈F,i∈Region.ready .any ops listed)→
   (∀ i∈F,∀ oi,ops[i]?=some oi→stepX P ops C Q eff pan i oi (wpAnyX P ops C Q eff pan fuel (listed.setIfInBounds i true)) a w)→wpAnyX P ops C Q eff pan (fuel+1) listed a w:=by
 intro fuel
 induction fuel with
 | zero=>
  intro listed a w hC hcl _ hre hr H
  refine ⟨fun h=>(by have:=hr i0 hi0;rw [h] at this;cases this),fun j hj oj hoj=>?_⟩
  by_cases hjF:j∈F
  ·exact H j hjF oj hoj
  ·exfalso
   have hji:j≠i0:=fun e=>hjF (e▸hi0)
   have hr1:=ready_mono hj hji
   obtain ⟨_,oi,hoi,_⟩:=mem_ready.1 (hr i0 hi0)
   have H0:=H i0 hi0 oi hoi
   obtain ⟨he,hp⟩:=hF i0 hi0
   unfold stepX at H0
   simp only [he,if_true] at H0
   have key:∀ a w,¬ wpAnyX P ops C Q eff pan 0 (listed.setIfInBounds i0 true) a w:=fun a w h=>by
    have:=h.1;rw [this] at hr1;cases hr1
   split at H0
   ·obtain ⟨a',w',v,⟨_,hK⟩,_⟩:=extractX (fun c w ⟨h,_⟩=>by rw [hp] at h;cases h) H0
    exact key _ _ hK
   ·exact key _ _ H0
 | succ fuel ih=>
  intro listed a w hC hcl hfree hre hr H
  refine ⟨fun h=>(by have:=hr i0 hi0;rw [h] at this;cases this),fun j hj oj hoj=>?_⟩
  by_cases hjF:j∈F
  ·exact H j hjF oj hoj
  ·obtain ⟨hjun,oj',hoj',hall⟩:=mem_ready.1 hj
   obtain rfl:oj=oj':=Option.some.inj (hoj.symm.trans hoj')
   have hlt:=(Array.getElem?_eq_some_iff.1 hoj).1
   have hje:eff j=false:=by
    cases h:eff j with
    | false=>rfl
    | true=>
     obtain ⟨i,hiF,hrch⟩:=hre j hjF hjun h hlt
     exact absurd hj (reach_not_ready hcl hrch (mem_ready.1 (hr i hiF)).1)
   have hne:∀ i∈F,j≠i:=fun i hi e=>hjF (e▸hi)
   have hap:∀ i∈F,∀ oi,ops[i]?=some oi→oi.apart ops oj=true:=fun i hi oi hoi=>hfree i hi oi hoi j oj hoj (hne i hi) hjun (fun e he hb heq=>by
    have h1:=hall e he hb
    have h0:=(mem_ready.1 (hr i hi)).1
    rw [heq] at h1
    rcases Nat.lt_or_ge i listed.size with h' | h'
    ·simp [h'] at h0 h1;rw [h0] at h1;cases h1
    ·simp [Array.getElem?_eq_none h'] at h1)
   have hsj:=fun cs b=>hsel j oj cs b hoj
   have hval:∃ u,YX P ops C oj u a:=by
    obtain ⟨_,oi,hoi,_⟩:=mem_ready.1 (hr i0 hi0)
    have H0:=H i0 hi0 oi hoi
    obtain ⟨he,hp⟩:=hF i0 hi0
    have hjr:=ready_mono hj (hne i0 hi0)
    obtain ⟨g1,g2,g3⟩:=Oper.apart_spec (hap i0 hi0 oi hoi)
    unfold stepX at H0
    simp only [he,if_true] at H0
    split at H0
    ·obtain ⟨a',w',v,⟨_,hK⟩,ha⟩:=extractX (fun c w ⟨h,_⟩=>by rw [hp] at h;cases h) H0
     have h1:=hK.2 j hjr oj hoj
     unfold stepX at h1
     simp only [hje,Bool.false_eq_true,if_false] at h1
     obtain ⟨u,hu,_⟩:=h1
     rcases ha with rfl | ⟨q,rfl⟩
     ·exact ⟨u,hu.unput hsj g1⟩
     ·exact ⟨u,(hu.unput hsj g1).defers⟩
    ·have h1:=H0.2 j hjr oj hoj
     unfold stepX at h1
     simp only [hje,Bool.false_eq_true,if_false] at h1
     obtain ⟨u,hu,_⟩:=h1
     exact ⟨u,hu.unput hsj g1⟩
   obtain ⟨u,hu⟩:=hval
   unfold stepX
   simp only [hje,Bool.false_eq_true,if_false]
   refine ⟨u,hu,ih (listed.setIfInBounds j true) (a.put oj.dst u) w hC (hcl.set hj) ?_ ?_ (fun i hi=>ready_mono (hr i hi) (Ne.symm (hne i hi))) ?_⟩
   ·intro i hi oi hoi k ok hk hki hun hno
    refine hfree i hi oi hoi k ok hk hki ?_ hno
    by_cases hjk:j=k
    ·subst hjk;exact hjun
    ·rw [getD_set_ne true hjk] at hun;exact hun
   ·intro k hkF hun hef hk
    refine hre k hkF ?_ hef hk
    by_cases hjk:j=k
    ·subst hjk;exact hjun
    ·rw [getD_set_ne true hjk] at hun;exact hun
   ·intro i hi oi hoi
    obtain ⟨he,hp⟩:=hF i hi
    have hji:=hne i hi
    have hjr:=ready_mono hj hji
    obtain ⟨g1,g2,g3⟩:=Oper.apart_spec (hap i hi oi hoi)
    have hsi:=fun cs b=>hsel i oi cs b hoi
    have H0:=H i hi oi hoi
    have cont:∀ a' w',C w'→YX P ops C oj u a'→wpAnyX P ops C Q eff pan (fuel+1) (listed.setIfInBounds i true) a' w'→wpAnyX P ops C Q eff pan fuel ((listed.setIfInBounds j true).setIfInBounds i true) (a'.put oj.dst u) w':=by
     intro a' w' hC' hu' hK
     have h1:=hK.2 j hjr oj hoj
     unfold stepX at h1
     simp only [hje,Bool.false_eq_true,if_false] at h1
     obtain ⟨u',hu2,hK'⟩:=h1
     obtain rfl:=YX.uniq hC' hu' hu2
     rw [Array.setIfInBounds_comm _ _ hji]
     exact hK'
    unfold stepX at H0 ⊢
    simp only [he,if_true] at H0 ⊢
    rw [wanted_put oi a oj.dst u g3]
    have h2':∀ x,oj.dst=some x→oi.dst≠some x:=fun x hx hx'=>g2 x hx' hx
    split at H0
    ·rename_i hw
     simp only [hw,if_true]
     refine wp_putX (K:=fun a' w'=>C w'∧wpAnyX P ops C Q eff pan fuel ((listed.setIfInBounds j true).setIfInBounds i true) a' w') (E:=fun c w'=>pan i=true∧Q (.panic c) a w') hsi g3 h2' (fun c w ⟨p,q⟩=>⟨p,hQ' _ _ _ _ _ q⟩) ?_
     unfold Oper.wp at H0 ⊢
     generalize (execOp a.eval oi).run P w=r at H0 ⊢
     cases r with
     | ok n w'=>
      cases n<;>simp only [Oper.upon] at H0 ⊢
      case value v=>exact ⟨H0.1,cont _ _ H0.1 (hu.put hsj g1) H0.2⟩
      case skip=>exact ⟨H0.1,cont _ _ H0.1 (hu.put hsj g1) H0.2⟩
      case defer q=>exact ⟨H0.1,cont _ _ H0.1 (hu.defers'.put hsj g1) H0.2⟩
      case enter f args=>
       refine Calls.mono H0 fun e w'' hE=>?_
       cases e with
       | returned v=>exact ⟨hE.1,cont _ _ hE.1 (hu.put hsj g1) hE.2⟩
       | panicked c=>exact hE
       | outgrown=>exact hE
      case row row args=>exact Rows.mono H0 fun v w'' hE=>⟨hE.1,cont _ _ hE.1 (hu.put hsj g1) hE.2⟩
     | halt x w'=>cases x<;>simp only [Oper.upon] at H0 ⊢;exact H0
    ·rename_i hw
     simp only [hw,Bool.false_eq_true,if_false]
     rw [←Act.put_comm a undef u g2]
     exact cont _ _ hC (hu.put hsj g1) H0
inductive Plan where
 | done
 | take (k:Nat) (p:Plan)
 | fork (i j:Nat) (p q:Plan)
def Plan.seq (l:List Nat) (p:Plan):Plan:=l.foldr .take p
def Plan.fuel:Plan→Nat
 | .done=>0
 | .take _ p=>p.fuel+1
 | .fork _ _ p _=>p.fuel+1
def waits (ops:Array Oper) (ms:List (List Nat)) (E:List Nat) (F:List Nat) (listed:Array Bool):Bool:=
 (List.range ops.size).all fun j=>F.contains j||listed.getD j true|| !E.contains j||F.any fun i=>(ms.getD j []).contains i
def goP (ops:Array Oper) (ms:List (List Nat)) (E:List Nat):Plan→Array Bool→Bool
 | .done,listed=>(Region.ready .any ops listed).isEmpty
 | .take k p,listed=>(Region.ready .any ops listed).contains k&&Region.free .any ops listed k&&(!E.contains k||waits ops ms E [k] listed)&&goP ops ms E p (listed.setIfInBounds k true)
 | .fork i j p q,listed=>(Region.ready .any ops listed).contains i&&(Region.ready .any ops listed).contains j&&Region.free .any ops listed i&&Region.free .any ops listed j&&E.contains i&&E.contains j&&(p.fuel==q.fuel)&&
   waits ops ms E [i,j] listed&&goP ops ms E p (listed.setIfInBounds i true)&&goP ops ms E q (listed.setIfInBounds j true)
def regP (ops:Array Oper) (E:List Nat) (p:Plan):Bool:=Region.noSelect ops&&(p.fuel==ops.size)&&goP ops (masks ops) E p (Array.replicate ops.size false)
def goE (E:List Nat):Plan→Bool
 | .done=>true
 | .take _ p=>goE E p
 | .fork i j p q=>E.contains i&&E.contains j&&goE E p&&goE E q
def wpP (P:Program) (ops:Array Oper) (C:World→Prop) (Q:Exit→Act→World→Prop) (eff:Nat→Bool):Plan→Act→World→Prop
 | .done,a,w=>Q .normal a w
 | .take k p,a,w=>∀ o,ops[k]?=some o→stepX P ops C Q eff (fun _=>false) k o (wpP P ops C Q eff p) a w
 | .fork i j p q,a,w=>(∀ o,ops[i]?=some o→stepX P ops C Q eff (fun _=>false) i o (wpP P ops C Q eff p) a w)∧(∀ o,ops[j]?=some o→stepX P ops C Q eff (fun _=>false) j o (wpP P ops C Q eff q) a w)
theorem waits_spec {E F:List Nat} {listed:Array Bool} (h:waits ops (masks ops) E F listed=true):∀ j,j∉F→listed.getD j true=false→E.contains j=true→j<ops.size→∃ i∈F,RgReach ops j i:=by
 intro j hjF hun he hlt
 simp only [waits,List.all_eq_true,List.mem_range] at h
 have h1:=h j hlt
 have e1:F.contains j=false:=by rw [Bool.eq_false_iff];intro h;exact hjF (List.contains_iff_mem.1 h)
 simp only [e1,hun,he,Bool.or_false,Bool.false_or,Bool.not_true,List.any_eq_true] at h1
 obtain ⟨i,hi,hm⟩:=h1
 refine ⟨i,hi,masks_sound ops.toList 0 [] (by simp) rfl (fun j i h=>by simp at h) j i ?_⟩
 simpa [masks] using hm
theorem stepX_wp {i:Nat} {o:Oper} {K K':Act→World→Prop} {a:Act} {w:World} (he:eff i=true) (hC:C w) (hK:∀ a w,C w→K a w→K' a w) (h:stepX P ops C Q eff pan i o K a w):stepX P ops C Q eff pan i o K' a w:=by
 unfold stepX at h ⊢
 simp only [he,if_true] at h ⊢
 split
 ·rename_i hw
  simp only [hw,if_true] at h
  exact upon_imp (fun a w ⟨h1,h2⟩=>⟨h1,hK _ _ h1 h2⟩) (fun _ _ h=>h) (fun h=>h) h
 ·rename_i hw
  simp only [hw,Bool.false_eq_true,if_false] at h
  exact hK _ _ hC h
theorem wpAnyX_plan {E:List Nat} (hs:Region.noSelect ops=true) (hQ:∀ c (a:Act) w d v,Q (.panic c) (a.put d v) w→Q (.panic c) a w) (hQ':∀ c (a:Act) w d v,Q (.panic c) a w→Q (.panic c) (a.put d v) w):
  ∀ (p:Plan) (listed:Array Bool) (a:Act) (w:World),C w→RgClosed ops listed→goP ops (masks ops) E p listed=true→wpP P ops C Q E.contains p a w→wpAnyX P ops C Q E.contains (fun _=>false) p.fuel listed a w:=by
 intro p
 induction p with
 | done=>intro listed a w _ _ hB h;exact ⟨by simpa [goP] using hB,h⟩
 | take k p ih=>
  intro listed a w hC hcl hB h
  simp only [goP,Bool.and_eq_true] at hB
  obtain ⟨⟨⟨hr,hf⟩,hE⟩,hB'⟩:=hB
  have hr:k∈Region.ready .any ops listed:=by simpa using hr
  obtain ⟨_,o,h0,_⟩:=mem_ready.1 hr
  have hcl':=hcl.set hr
  have h:=h o h0
  cases he:E.contains k with
  | false=>
   have h':=h
   unfold stepX at h'
   simp only [he,Bool.false_eq_true,if_false] at h'
   obtain ⟨v,hy,hK⟩:=h'
   exact firstQ h0 he (Region.noSelect_spec hs) hQ p.fuel listed a w (Region.free_spec h0 hf) hr hy (ih _ _ _ hC hcl' hB' hK)
  | true=>
   simp only [he,Bool.not_true,Bool.false_or] at hE
   refine firstF (F:=[k]) (List.mem_singleton_self k) (fun i hi=>by have:=List.mem_singleton.1 hi;subst this;exact ⟨he,rfl⟩) (Region.noSelect_spec hs) hQ' p.fuel listed a w hC hcl ?_ (waits_spec hE) (fun i hi=>by have:=List.mem_singleton.1 hi;subst this;exact hr) ?_
   ·intro i hi oi hoi
    have:=List.mem_singleton.1 hi;subst this
    exact Region.free_spec hoi hf
   ·intro i hi oi hoi
    have:=List.mem_singleton.1 hi;subst this
    obtain rfl:o=oi:=Option.some.inj (h0.symm.trans hoi)
    exact stepX_wp he hC (fun a w hC' hK=>ih _ _ _ hC' hcl' hB' hK) h
 | fork i j p q ihp ihq=>
  intro listed a w hC hcl hB h
  simp only [goP,Bool.and_eq_true,beq_iff_eq] at hB
  obtain ⟨⟨⟨⟨⟨⟨⟨⟨⟨hri,hrj⟩,hfi⟩,hfj⟩,hei⟩,hej⟩,hpq⟩,hw⟩,hBi⟩,hBj⟩:=hB
  have hri:i∈Region.ready .any ops listed:=by simpa using hri
  have hrj:j∈Region.ready .any ops listed:=by simpa using hrj
  refine firstF (F:=[i,j]) (i0:=i) (by simp) ?_ (Region.noSelect_spec hs) hQ' p.fuel listed a w hC hcl ?_ (waits_spec hw) ?_ ?_
  ·intro k hk
   simp only [List.mem_cons,List.not_mem_nil,or_false] at hk
   rcases hk with rfl | rfl
   ·exact ⟨hei,rfl⟩
   ·exact ⟨hej,rfl⟩
  ·intro k hk oi hoi
   simp only [List.mem_cons,List.not_mem_nil,or_false] at hk
   rcases hk with rfl | rfl
   ·exact Region.free_spec hoi hfi
   ·exact Region.free_spec hoi hfj
  ·intro k hk
   simp only [List.mem_cons,List.not_mem_nil,or_false] at hk
   rcases hk with rfl | rfl
   ·exact hri
   ·exact hrj
  ·intro k hk oi hoi
   simp only [List.mem_cons,List.not_mem_nil,or_false] at hk
   by_cases hki:k=i
   ·subst hki
    exact stepX_wp hei hC (fun a w hC' hK=>ihp _ _ _ hC' (hcl.set hri) hBi hK) (h.1 oi hoi)
   ·obtain rfl:k=j:=by rcases hk with h | h;exact absurd h hki;exact h
    refine stepX_wp hej hC (fun a w hC' hK=>?_) (h.2 oi hoi)
    have:=ihq _ _ _ hC' (hcl.set hrj) hBj hK
    rw [←hpq] at this
    exact this
def wpV (P:Program) (ops:Array Oper) (C:World→Prop) (Q:Exit→Act→World→Prop) (E:List Nat):Plan→Act→World→Prop
 | .done,a,w=>Q .normal a w
 | .take k p,a,w=>∀ o,ops[k]?=some o→
  if E.contains k then wpList P ops (Exit.then (fun a' w'=>C w'∧wpV P ops C Q E p a' w') (QE fun _ _=>False)) [o] a w
  else valKind o.op=true∧wpQuiet P ops C (fun a'=>wpV P ops C Q E p a' w) [o] a
 | .fork i j p q,a,w=>(∀ o,ops[i]?=some o→wpList P ops (Exit.then (fun a' w'=>C w'∧wpV P ops C Q E p a' w') (QE fun _ _=>False)) [o] a w)∧
   (∀ o,ops[j]?=some o→wpList P ops (Exit.then (fun a' w'=>C w'∧wpV P ops C Q E q a' w') (QE fun _ _=>False)) [o] a w)
section
variable {E:List Nat} {a:Act} {w:World} {k i j:Nat} {o oi oj:Oper} {p q:Plan}
theorem wpV_done (h:Q .normal a w):wpV P ops C Q E .done a w:=h
theorem wpV_q (ho:ops[k]?=some o) (he:E.contains k=false) (hv:valKind o.op=true) (h:wpQuiet P ops C (fun a'=>wpV P ops C Q E p a' w) [o] a):wpV P ops C Q E (.take k p) a w:=by
 intro o' ho'
 obtain rfl:o=o':=Option.some.inj (ho.symm.trans ho')
 rw [he];exact ⟨hv,h⟩
theorem wpV_e (ho:ops[k]?=some o) (he:E.contains k=true) (h:wpList P ops (Exit.then (fun a' w'=>C w'∧wpV P ops C Q E p a' w') (QE fun _ _=>False)) [o] a w):wpV P ops C Q E (.take k p) a w:=by
 intro o' ho'
 obtain rfl:o=o':=Option.some.inj (ho.symm.trans ho')
 rw [he];exact h
theorem wpV_fork (hi:ops[i]?=some oi) (hj:ops[j]?=some oj) (h1:wpList P ops (Exit.then (fun a' w'=>C w'∧wpV P ops C Q E p a' w') (QE fun _ _=>False)) [oi] a w) (h2:wpList P ops (Exit.then (fun a' w'=>C w'∧wpV P ops C Q E q a' w') (QE fun _ _=>False)) [oj] a w):
  wpV P ops C Q E (.fork i j p q) a w:=by
 refine ⟨fun o' ho'=>?_,fun o' ho'=>?_⟩
 ·obtain rfl:oi=o':=Option.some.inj (hi.symm.trans ho');exact h1
 ·obtain rfl:oj=o':=Option.some.inj (hj.symm.trans ho');exact h2
end
theorem step_of_list {E:List Nat} {k:Nat} {o:Oper} {K K':Act→World→Prop} {a:Act} {w:World} (he:E.contains k=true) (hK:∀ a w,C w→K a w→K' a w) (h:wpList P ops (Exit.then (fun a' w'=>C w'∧K a' w') (QE fun _ _=>False)) [o] a w):
  stepX P ops C Q E.contains (fun _=>false) k o K' a w:=by
 unfold stepX
 simp only [he,if_true]
 simp only [wpList] at h
 split
 ·rename_i hw
  simp only [hw,if_true] at h
  rcases h with h | ⟨_,a₀,w₀,h⟩
  ·refine upon_imp (fun a' w' h'=>⟨h'.1,hK _ _ h'.1 h'.2⟩) (fun c w' h'=>(h':False).elim) (fun ⟨a₀,w₀,h'⟩=>(h':False).elim) h
  ·exact (h:False).elim
 ·rename_i hw
  simp only [hw,Bool.false_eq_true,if_false] at h
  exact hK _ _ h.1 h.2
theorem wpP_of_V {E:List Nat}:∀ (p:Plan) (a:Act) (w:World),goE E p=true→C w→wpV P ops C Q E p a w→wpP P ops C Q E.contains p a w:=by
 intro p
 induction p with
 | done=>intro a w _ _ h;exact h
 | take k p ih=>
  intro a w hg hC h o ho
  have h:=h o ho
  cases he:E.contains k with
  | true=>
   simp only [he,if_true] at h
   exact step_of_list he (fun a w hC h=>ih a w hg hC h) h
  | false=>
   simp only [he,Bool.false_eq_true,if_false] at h
   unfold stepX
   simp only [he,Bool.false_eq_true,if_false]
   obtain ⟨hv,h⟩:=h
   simp only [wpQuiet] at h
   split at h
   ·rename_i hw
    obtain ⟨v,h1,h2⟩:=h
    refine ⟨v, .inl ⟨hw,fun w' hC'=>?_⟩,ih _ w hg hC h2⟩
    have h3:=h1 w' hC'
    unfold Oper.quietAt at h3
    cases hr:(execOp a.eval o).run P w' with
    | halt x w1=>rw [hr] at h3;exact (h3:False).elim
    | ok n w1=>
     obtain ⟨u,rfl⟩:=valKind_run hv hr
     rw [hr] at h3
     obtain ⟨rfl,rfl⟩:=h3
     rfl
   ·rename_i hw
    exact ⟨undef, .inr ⟨by simpa using hw,rfl⟩,ih _ w hg hC h⟩
 | fork i j p q ihp ihq=>
  intro a w hg hC h
  simp only [goE,Bool.and_eq_true] at hg
  obtain ⟨⟨⟨hei,hej⟩,hgp⟩,hgq⟩:=hg
  exact ⟨fun o ho=>step_of_list hei (fun a w hC h=>ihp a w hgp hC h) (h.1 o ho),fun o ho=>step_of_list hej (fun a w hC h=>ihq a w hgq hC h) (h.2 o ho)⟩
theorem wp_region_plan {id:Nat} {l:List Oper} (E:List Nat) (p:Plan) (C:World→Prop) {Q:Exit→Act→World→Prop} {a:Act} {w:World} (hm:P.follows .mixedOrders=true) (hB:(regP l.toArray E p&&goE E p)=true)
  (hQ:∀ c (a:Act) w d v,Q (.panic c) (a.put d v) w→Q (.panic c) a w) (hQ':∀ c (a:Act) w d v,Q (.panic c) a w→Q (.panic c) (a.put d v) w) (hC:C w.drew)
  (h:wpV P l.toArray C Q E p a w.drew):(Code.region id l.toArray true).wp P Q a w:=by
 simp only [regP,Bool.and_eq_true,beq_iff_eq] at hB
 obtain ⟨⟨⟨hns,hfu⟩,hgo⟩,hge⟩:=hB
 refine wp_region_any hm (wpAny_of_X (C:=C) (eff:=E.contains) (pan:=fun _=>false) _ _ _ _ hC ?_)
 have:=wpAnyX_plan (C:=C) (E:=E) hns hQ hQ' p (Array.replicate l.toArray.size false) a w.drew hC
  ⟨by simp,fun j o _ hl=>by rw [getD_rep] at hl;cases hl⟩ hgo (wpP_of_V p a w.drew hge hC h)
 rw [hfu] at this
 simpa using this
end
end
section
section
variable {P:Program} {C:World→Prop} {Q:Exit→Act→World→Prop}
def lastQ (P:Program) (full:List Oper) (Q:Exit→Act→World→Prop) (n:Nat):Exit→Act→World→Prop
 | .normal,a,w=>wpList P full.toArray Q (full.drop n) a w
 | e,a,w=>Q e a w
def lastX (full:List Oper) (n:Nat):Bool:=
 full.length==n+1&&
 ((List.range (n+1)).all fun i=>match full[i]? with
  | none=>true
  | some o=>(o.after.toList.all fun e=> !Region.binds .any e||decide (e.on<i))&&(match o.guard with | none=>true | some (j,_)=>decide (j<n)))&&
 (List.range n).all fun j=>((masks full.toArray).getD n []).contains j
theorem lastX_spec {full:List Oper} {n:Nat} (h:lastX full n=true):full.length=n+1∧
  (∀ i o,full[i]?=some o→∀ e∈o.after,Region.binds .any e=true→e.on<i)∧(∀ (i:Nat) (o:Oper) (j:Nat) (b:Bool),full[i]?=some o→o.guard=some (j,b)→j<n)∧∀ j,j<n→RgReach full.toArray n j:=by
 simp only [lastX,Bool.and_eq_true,beq_iff_eq,List.all_eq_true,List.mem_range] at h
 obtain ⟨⟨h1,h2⟩,h3⟩:=h
 have hlt:∀ i o,full[i]?=some o→i<n+1:=fun i o ho=>by
  have:=(List.getElem?_eq_some_iff.1 ho).1;omega
 refine ⟨h1,?_,?_,?_⟩
 ·intro i o ho e he hb
  have:=h2 i (hlt i o ho)
  simp only [ho,Bool.and_eq_true,List.all_eq_true] at this
  have:=this.1 e (by simpa using he)
  simpa [hb] using this
 ·intro i o j b ho hg
  have:=h2 i (hlt i o ho)
  simp only [ho,hg,Bool.and_eq_true,decide_eq_true_eq] at this
  exact this.2
 ·intro j hj
  have:=h3 j hj
  refine masks_sound full.toArray.toList 0 [] (by simp) rfl (fun j i h=>by simp at h) n j ?_
  simpa [masks] using this
theorem yielded_take {full:List Oper} {n j:Nat} (hj:j<n) (ts:Array Value):yielded full.toArray ts j=yielded (full.take n).toArray ts j:=by
 unfold yielded
 simp [hj]
theorem wanted_take {full:List Oper} {n:Nat} {o:Oper} (hg:∀ j b,o.guard=some (j,b)→j<n) (ts:Array Value):Region.wanted o (yielded full.toArray ts)=Region.wanted o (yielded (full.take n).toArray ts):=by
 unfold Region.wanted
 cases h:o.guard with
 | none=>rfl
 | some p=>
  obtain ⟨j,b⟩:=p
  simp only
  rw [yielded_take (hg j b h)]
theorem getD_push_lt {s:Array Bool} {n j:Nat} {d:Bool} (hs:s.size=n) (hj:j<n):(s.push false).getD j d=s.getD j d:=by
 simp [Array.getElem?_push,hs]
 rw [if_neg (by omega)]
theorem getD_push_eq {s:Array Bool} {n:Nat} {d:Bool} (hs:s.size=n):(s.push false).getD n d=false:=by
 subst hs;simp
theorem set_push (s:Array Bool) (i:Nat) (hi:i<s.size):(s.push false).setIfInBounds i true=(s.setIfInBounds i true).push false:=by
 apply Array.ext_getElem?
 intro k
 simp only [Array.getElem?_setIfInBounds,Array.getElem?_push,Array.size_setIfInBounds,Array.size_push]
 by_cases h1:k=s.size
 ·subst h1
  rw [if_neg (by omega),if_pos rfl,if_pos rfl]
 ·rw [if_neg h1]
  by_cases h2:i=k
  ·rw [if_pos h2,if_pos (by omega),if_neg h1,if_pos h2,if_pos (by omega)]
  ·rw [if_neg h2,if_neg h1,if_neg h2]
theorem wpAny_last {full:List Oper} {n:Nat} (hx:lastX full n=true):∀ (fuel:Nat) (listed:Array Bool) (a:Act) (w:World),RgClosed (full.take n).toArray listed→
  wpAny P .any (full.take n).toArray (lastQ P full Q n) fuel listed a w→wpAny P .any full.toArray Q (fuel+1) (listed.push false) a w:=by
 obtain ⟨hlen,hedge,hguard,hreach⟩:=lastX_spec hx
 have htake:∀ i,i<n→(full.take n).toArray[i]?=full.toArray[i]?:=fun i hi=>by simp [hi]
 have hlo:∃ o,full[n]?=some o:=⟨full[n]'(by omega),by simp⟩
 obtain ⟨lo,hlo⟩:=hlo
 have hdrop:full.drop n=[lo]:=by
  have h1:n<full.length:=by omega
  rw [List.drop_eq_getElem_cons h1,List.drop_eq_nil_of_le (by omega)]
  have:=(List.getElem?_eq_some_iff.1 hlo).2
  rw [this]
 have hA:∀ (listed:Array Bool),listed.size=n→∀ i,i<n→i∈Region.ready .any full.toArray (listed.push false)→i∈Region.ready .any (full.take n).toArray listed:=by
  intro listed hs i hi hr
  obtain ⟨h0,o,ho,hall⟩:=mem_ready.1 hr
  refine mem_ready.2 ⟨by rw [←getD_push_lt hs hi];exact h0,o,by rw [htake i hi];exact ho,fun e he hb=>?_⟩
  have h1:=hall e he hb
  have h2:=hedge i o (by simpa using ho) e he hb
  rwa [getD_push_lt hs (by omega)] at h1
 have hC:∀ (listed:Array Bool),listed.size=n→Region.ready .any (full.take n).toArray listed=[]→∀ j,j<n→listed.getD j false=true:=by
  intro listed hs hr j
  induction j using Nat.strongRecOn with
  | ind j ih=>
   intro hj
   apply Classical.byContradiction
   intro hn
   have hjm:j∈Region.ready .any (full.take n).toArray listed:=by
    have hjf:j<full.length:=by omega
    refine mem_ready.2 ⟨?_,full[j],by rw [htake j hj];simp,fun e he hb=>?_⟩
    ·have hjs:j<listed.size:=by omega
     simp [hjs] at hn ⊢
     exact hn
    ·have h2:=hedge j full[j] (by simp) e he hb
     exact ih e.on h2 (by omega)
   rw [hr] at hjm;cases hjm
 have hlast:∀ (listed:Array Bool),listed.size=n→(∀ j,j<n→listed.getD j false=true)→n∈Region.ready .any full.toArray (listed.push false):=by
  intro listed hs hall
  refine mem_ready.2 ⟨getD_push_eq hs,lo,by simpa using hlo,fun e he hb=>?_⟩
  have h2:=hedge n lo hlo e he hb
  rw [getD_push_lt hs h2]
  exact hall _ h2
 have hB:∀ (listed:Array Bool),RgClosed (full.take n).toArray listed→n∈Region.ready .any full.toArray (listed.push false)→∀ j,j<n→listed.getD j false=true:=by
  intro listed hcl hr j hj
  have hs:listed.size=n:=by rw [hcl.1];simp;omega
  have hcl':RgClosed full.toArray (listed.push false):=by
   refine ⟨by simp [hs,hlen],fun k o ho hl e he hb=>?_⟩
   have hk:k<n:=by
    have h1:=(List.getElem?_eq_some_iff.1 (show full[k]?=some o by simpa using ho)).1
    rcases Nat.lt_or_ge k n with h | h
    ·exact h
    ·have:k=n:=by omega
     subst this
     rw [getD_push_eq hs] at hl;cases hl
   have h2:=hedge k o (by simpa using ho) e he hb
   rw [getD_push_lt hs hk] at hl
   rw [getD_push_lt hs (by omega)]
   exact hcl.2 k o (by rw [htake k hk];exact ho) hl e he hb
  obtain ⟨_,o,ho,hall⟩:=mem_ready.1 hr
  have hfin:(listed.push false).getD j false=true:=by
   cases hreach j hj with
   | direct _ _ o' e ho' he hb hon=>
    obtain rfl:o=o':=Option.some.inj (ho.symm.trans ho')
    exact hon▸hall e he hb
   | via _ k _ o' e ho' he hb hon hr'=>
    obtain rfl:o=o':=Option.some.inj (ho.symm.trans ho')
    exact reach_listed hcl' hr' (hon▸hall e he hb)
  rwa [getD_push_lt hs hj] at hfin
 have hend:∀ (fuel:Nat) (listed:Array Bool) (a:Act) (w:World),listed.size=n→(∀ j,j<n→listed.getD j false=true)→lastQ P full Q n .normal a w→
   wpOp P full.toArray Q n (wpAny P .any full.toArray Q fuel ((listed.push false).setIfInBounds n true)) a w:=by
  intro fuel listed a w hs hall h
  have hnone:Region.ready .any full.toArray ((listed.push false).setIfInBounds n true)=[]:=by
   apply List.eq_nil_iff_forall_not_mem.2
   intro i hi
   obtain ⟨h0,o,ho,_⟩:=mem_ready.1 hi
   have h1:=(List.getElem?_eq_some_iff.1 (show full[i]?=some o by simpa using ho)).1
   by_cases hin:n=i
   ·subst hin
    simp [hs] at h0
   ·rw [getD_set_ne true hin,getD_push_lt hs (by omega)] at h0
    have h2:=hall i (by omega)
    have hjs:i<listed.size:=by omega
    simp [hjs] at h0 h2
    rw [h0] at h2;cases h2
  have hK:∀ a w,Q .normal a w→wpAny P .any full.toArray Q fuel ((listed.push false).setIfInBounds n true) a w:=by
   intro a w hq
   cases fuel with
   | zero=>exact ⟨hnone,hq⟩
   | succ m=>exact ⟨fun _=>hq,fun i hi=>by rw [hnone] at hi;cases hi⟩
  unfold lastQ at h
  rw [hdrop] at h
  simp only [wpList] at h
  unfold wpOp
  have hlo':full.toArray[n]?=some lo:=by simpa using hlo
  simp only [hlo']
  split at h
  ·next hw=>
   rw [if_pos hw]
   rcases h with h | h
   ·exact .inl (Oper.wp_mono hK h)
   ·exact .inr h
  ·next hw=>rw [if_neg hw];exact hK _ _ h
 have hstep:∀ (i:Nat) (K K':Act→World→Prop) (a:Act) (w:World),i<n→(∀ a w,K a w→K' a w)→wpOp P (full.take n).toArray (lastQ P full Q n) i K a w→wpOp P full.toArray Q i K' a w:=by
  intro i K K' a w hi hK h
  unfold wpOp at h ⊢
  rw [htake i hi] at h
  have hif:i<full.length:=by omega
  have ho:full.toArray[i]?=some full[i]:=by simp
  simp only [ho] at h ⊢
  rw [wanted_take (n:=n) (fun j b hg=>hguard i full[i] j b (by simp) hg)]
  split at h
  ·next hw=>
   rw [if_pos hw]
   rcases h with h | ⟨h1,a0,w0,h2⟩
   ·exact .inl (upon_imp hK (fun c w h=>h) (fun ⟨a0,w0,h2⟩=>⟨a0,w0,h2⟩) h)
   ·exact .inr ⟨h1,a0,w0,h2⟩
  ·next hw=>rw [if_neg hw];exact hK _ _ h
 have hle:∀ (listed:Array Bool) i,i∈Region.ready .any full.toArray (listed.push false)→i<n∨i=n:=by
  intro listed i hi
  obtain ⟨_,o,ho,_⟩:=mem_ready.1 hi
  have h1:=(List.getElem?_eq_some_iff.1 (show full[i]?=some o by simpa using ho)).1
  omega
 intro fuel
 induction fuel with
 | zero=>
  intro listed a w hcl h
  have hs:listed.size=n:=by rw [hcl.1];simp;omega
  have hall:=hC listed hs h.1
  refine ⟨fun h'=>?_,fun i hi=>?_⟩
  ·have:=hlast listed hs hall;rw [h'] at this;cases this
  ·rcases hle listed i hi with h1 | rfl
   ·have:=hA listed hs i h1 hi;rw [h.1] at this;cases this
   ·exact hend 0 listed a w hs hall h.2
 | succ fuel ih=>
  intro listed a w hcl h
  have hs:listed.size=n:=by rw [hcl.1];simp;omega
  refine ⟨fun h'=>?_,fun i hi=>?_⟩
  ·have hr:Region.ready .any (full.take n).toArray listed=[]:=by
    apply Classical.byContradiction
    intro hne
    obtain ⟨j,hj⟩:=List.exists_mem_of_ne_nil _ hne
    obtain ⟨h0,o,ho,hall⟩:=mem_ready.1 hj
    have hjn:j<n:=by
     have:=(Array.getElem?_eq_some_iff.1 ho).1
     simp at this;omega
    have:j∈Region.ready .any full.toArray (listed.push false):=by
     refine mem_ready.2 ⟨by rw [getD_push_lt hs hjn];exact h0,o,by rw [←htake j hjn];exact ho,fun e he hb=>?_⟩
     have h2:=hedge j o (by rw [htake j hjn] at ho;simpa using ho) e he hb
     rw [getD_push_lt hs (by omega)]
     exact hall e he hb
    rw [h'] at this;cases this
   have:=hlast listed hs (hC listed hs hr);rw [h'] at this;cases this
  ·rcases hle listed i hi with h1 | h1
   ·have hir:=hA listed hs i h1 hi
    refine hstep i _ _ a w h1 (fun a w hk=>?_) (h.2 i hir)
    have e1:(listed.push false).setIfInBounds i true=(listed.setIfInBounds i true).push false:=by
     exact set_push listed i (by omega)
    rw [e1]
    exact ih _ a w (hcl.set hir) hk
   ·rw [h1] at hi ⊢
    have hall:=hB listed hcl hi
    have hr:Region.ready .any (full.take n).toArray listed=[]:=by
     apply List.eq_nil_iff_forall_not_mem.2
     intro j hj
     obtain ⟨h0,o,ho,_⟩:=mem_ready.1 hj
     have hjn:j<n:=by
      have:=(Array.getElem?_eq_some_iff.1 ho).1
      simp at this;omega
     have h2:=hall j hjn
     have hjs:j<listed.size:=by omega
     simp [hjs] at h0 h2
     rw [h0] at h2;cases h2
    exact hend (fuel+1) listed a w hs hall (h.1 hr)
theorem wp_region_last {id:Nat} {full:List Oper} (n:Nat) (E Pn:List Nat) (C:World→Prop) {a:Act} {w:World} (hm:P.follows .mixedOrders=true) (hB:(regX (full.take n).toArray E Pn&&lastX full n)=true)
  (hQ:∀ c (a:Act) w d v,Q (.panic c) (a.put d v) w→Q (.panic c) a w) (hQ':∀ c (a:Act) w d v,Q (.panic c) a w→Q (.panic c) (a.put d v) w) (hC:C w.drew)
  (h:wpU P (full.take n).toArray C (lastQ P full Q n) E Pn 0 (full.take n) a w.drew):(Code.region id full.toArray true).wp P Q a w:=by
 simp only [Bool.and_eq_true] at hB
 obtain ⟨hB1,hB2⟩:=hB
 simp only [regX,Bool.and_eq_true] at hB1
 obtain ⟨hlen,_⟩:=lastX_spec hB2
 refine wp_region_any hm ?_
 have hcl:RgClosed (full.take n).toArray (Array.replicate (full.take n).toArray.size false):=⟨by simp,fun j o _ hl=>by rw [getD_rep] at hl;cases hl⟩
 have h1:=wpAny_of_X (C:=C) (Q:=lastQ P full Q n) (eff:=E.contains) (pan:=Pn.contains) _ _ _ _ hC
  (wpAnyX_text (P:=P) (ops:=(full.take n).toArray) (Q:=lastQ P full Q n) (C:=C) (E:=E) (Pn:=Pn) hB1.1 (fun c a w d v h=>hQ c a w d v h) (fun c a w d v h=>hQ' c a w d v h) (full.take n) 0 (Array.replicate (full.take n).toArray.size false) a w.drew (by simp) hC hcl (by simpa using hB1.2) (wpX_of_U (full.take n) 0 a w.drew hC h))
 have h2:=wpAny_last hB2 _ _ _ _ hcl h1
 have e1:(Array.replicate (full.take n).toArray.size false).push false=Array.replicate full.toArray.size false:=by
  simp [hlen, ←Array.replicate_succ]
 have e2:(full.take n).length+1=full.toArray.size:=by simp [hlen]
 rw [e1,e2] at h2
 exact h2
end
end
section
open Go.RowKit Go.Proofs
section
variable {P:Program} {ops:Array Oper} {C:World→Prop} {Q:Exit→Act→World→Prop} {eff pan:Nat→Bool}
def goO (ops:Array Oper) (ms:List (List Nat)) (E Pn:List Nat):List Nat→Array Bool→Bool
 | [],listed=>(Region.ready .any ops listed).isEmpty
 | k::r,listed=>(Region.ready .any ops listed).contains k&&Region.free .any ops listed k&&
   (!E.contains k||(List.range ops.size).all fun j=>j==k||listed.getD j true|| !(E.contains j||Pn.contains k)||(ms.getD j []).contains k)&&
   goO ops ms E Pn r (listed.setIfInBounds k true)
def regO (ops:Array Oper) (E Pn ord:List Nat):Bool:=Region.noSelect ops&&(ord.length==ops.size)&&goO ops (masks ops) E Pn ord (Array.replicate ops.size false)
def wpO (P:Program) (ops:Array Oper) (C:World→Prop) (Q:Exit→Act→World→Prop) (eff pan:Nat→Bool):List Nat→Act→World→Prop
 | [],a,w=>Q .normal a w
 | k::r,a,w=>∀ o,ops[k]?=some o→stepX P ops C Q eff pan k o (wpO P ops C Q eff pan r) a w
theorem wpAnyX_ord {E Pn:List Nat} (hs:Region.noSelect ops=true) (hQ:∀ c (a:Act) w d v,Q (.panic c) (a.put d v) w→Q (.panic c) a w) (hQ':∀ c (a:Act) w d v,Q (.panic c) a w→Q (.panic c) (a.put d v) w):
  ∀ (l:List Nat) (listed:Array Bool) (a:Act) (w:World),C w→RgClosed ops listed→goO ops (masks ops) E Pn l listed=true→
   wpO P ops C Q E.contains Pn.contains l a w→wpAnyX P ops C Q E.contains Pn.contains l.length listed a w
 | [],_,_,_,_,_,hB,h=>⟨by simpa [goO] using hB,h⟩
 | k::l,listed,a,w,hC,hcl,hB,h=>by
  simp only [goO,Bool.and_eq_true] at hB
  obtain ⟨⟨⟨hr,hf⟩,hE⟩,hB'⟩:=hB
  have hr:k∈Region.ready .any ops listed:=by simpa using hr
  obtain ⟨_,o,h0,_⟩:=mem_ready.1 hr
  have hcl':=hcl.set hr
  have IH:=fun a w hC=>wpAnyX_ord hs hQ hQ' l (listed.setIfInBounds k true) a w hC hcl' hB'
  have h:=h o h0
  cases he:E.contains k with
  | false=>
   have h':=h
   unfold stepX at h'
   simp only [he,Bool.false_eq_true,if_false] at h'
   obtain ⟨v,hy,hK⟩:=h'
   exact firstQ h0 he (Region.noSelect_spec hs) hQ l.length listed a w (Region.free_spec h0 hf) hr hy (IH _ _ hC hK)
  | true=>
   refine firstE h0 he (Region.noSelect_spec hs) hQ' l.length listed a w hC hcl (Region.free_spec h0 hf) ?_ hr ?_
   ·intro j hjk hun hor hlt
    simp only [he,Bool.not_true,Bool.false_or,List.all_eq_true,List.mem_range] at hE
    have h1:=hE j hlt
    simp only [hun,Bool.or_false,Bool.or_eq_true,beq_iff_eq,Bool.not_eq_true',Bool.or_eq_false_iff] at h1
    rcases h1 with (h1 | h1) | h1
    ·exact absurd h1 hjk
    ·rcases hor with h2 | h2
     ·rw [h1.1] at h2;cases h2
     ·rw [h1.2] at h2;cases h2
    ·refine masks_sound ops.toList 0 [] (by simp) rfl (fun j i h=>by simp at h) j k ?_
     simpa [masks] using h1
   ·unfold stepX at h ⊢
    simp only [he,if_true] at h ⊢
    split
    ·rename_i hw
     simp only [hw,if_true] at h
     exact upon_imp (fun a w ⟨h1,h2⟩=>⟨h1,IH _ _ h1 h2⟩) (fun _ _ h=>h) (fun h=>h) h
    ·rename_i hw
     simp only [hw,Bool.false_eq_true,if_false] at h
     exact IH _ _ hC h
def wpT (P:Program) (ops:Array Oper) (C:World→Prop) (Q:Exit→Act→World→Prop) (E Pn:List Nat):List Nat→Act→World→Prop
 | [],a,w=>Q .normal a w
 | k::r,a,w=>∀ o,ops[k]?=some o→
  if E.contains k then wpList P ops (Exit.then (fun a' w'=>C w'∧wpT P ops C Q E Pn r a' w') (QE fun c w'=>Pn.contains k=true∧Q (.panic c) a w')) [o] a w
  else valKind o.op=true∧wpQuiet P ops C (fun a'=>wpT P ops C Q E Pn r a' w) [o] a
section
variable {E Pn:List Nat} {a:Act} {w:World} {k:Nat} {o:Oper} {r:List Nat}
theorem wpT_nil (h:Q .normal a w):wpT P ops C Q E Pn [] a w:=h
theorem wpT_q (ho:ops[k]?=some o) (he:E.contains k=false) (hv:valKind o.op=true) (h:wpQuiet P ops C (fun a'=>wpT P ops C Q E Pn r a' w) [o] a):wpT P ops C Q E Pn (k::r) a w:=by
 intro o' ho'
 obtain rfl:o=o':=Option.some.inj (ho.symm.trans ho')
 rw [he];exact ⟨hv,h⟩
theorem wpT_e (ho:ops[k]?=some o) (he:E.contains k=true) (h:wpList P ops (Exit.then (fun a' w'=>C w'∧wpT P ops C Q E Pn r a' w') (QE fun c w'=>Pn.contains k=true∧Q (.panic c) a w')) [o] a w):wpT P ops C Q E Pn (k::r) a w:=by
 intro o' ho'
 obtain rfl:o=o':=Option.some.inj (ho.symm.trans ho')
 rw [he];exact h
end
theorem wpO_of_T {E Pn:List Nat}:∀ (l:List Nat) (a:Act) (w:World),C w→wpT P ops C Q E Pn l a w→wpO P ops C Q E.contains Pn.contains l a w
 | [],_,_,_,h=>h
 | k::l,a,w,hC,h=>by
  intro o ho
  have h:=h o ho
  simp only [stepX]
  cases he:E.contains k with
  | true=>
   simp only [he,if_true] at h ⊢
   simp only [wpList] at h
   split
   ·rename_i hw
    simp only [hw,if_true] at h
    rcases h with h | ⟨_,a₀,w₀,h⟩
    ·refine upon_imp (fun a' w' h'=>?_) (fun c w' h'=>h') (fun ⟨a₀,w₀,h'⟩=>(h':False).elim) h
     exact ⟨h'.1,wpO_of_T l a' w' h'.1 h'.2⟩
    ·exact (h:False).elim
   ·rename_i hw
    simp only [hw,Bool.false_eq_true,if_false] at h
    exact wpO_of_T l _ w h.1 h.2
  | false=>
   simp only [he,Bool.false_eq_true,if_false] at h ⊢
   obtain ⟨hv,h⟩:=h
   simp only [wpQuiet] at h
   split at h
   ·rename_i hw
    obtain ⟨v,h1,h2⟩:=h
    refine ⟨v, .inl ⟨hw,fun w' hC'=>?_⟩,wpO_of_T l _ w hC h2⟩
    have h3:=h1 w' hC'
    unfold Oper.quietAt at h3
    cases hr:(execOp a.eval o).run P w' with
    | halt x w1=>rw [hr] at h3;exact (h3:False).elim
    | ok n w1=>
     obtain ⟨u,rfl⟩:=valKind_run hv hr
     rw [hr] at h3
     obtain ⟨rfl,rfl⟩:=h3
     rfl
   ·rename_i hw
    exact ⟨undef, .inr ⟨by simpa using hw,rfl⟩,wpO_of_T l _ w hC h⟩
theorem wp_region_lastO {id:Nat} {full:List Oper} (n:Nat) (E Pn ord:List Nat) (C:World→Prop) {a:Act} {w:World} (hm:P.follows .mixedOrders=true) (hB:(regO (full.take n).toArray E Pn ord&&lastX full n)=true)
  (hQ:∀ c (a:Act) w d v,Q (.panic c) (a.put d v) w→Q (.panic c) a w) (hQ':∀ c (a:Act) w d v,Q (.panic c) a w→Q (.panic c) (a.put d v) w) (hC:C w.drew)
  (h:wpT P (full.take n).toArray C (lastQ P full Q n) E Pn ord a w.drew):(Code.region id full.toArray true).wp P Q a w:=by
 simp only [Bool.and_eq_true] at hB
 obtain ⟨hB1,hB2⟩:=hB
 simp only [regO,Bool.and_eq_true,beq_iff_eq] at hB1
 obtain ⟨⟨hns,hord⟩,hgo⟩:=hB1
 obtain ⟨hlen,_⟩:=lastX_spec hB2
 refine wp_region_any hm ?_
 have hcl:RgClosed (full.take n).toArray (Array.replicate (full.take n).toArray.size false):=⟨by simp,fun j o _ hl=>by rw [getD_rep] at hl;cases hl⟩
 have h0:=wpAnyX_ord (P:=P) (ops:=(full.take n).toArray) (Q:=lastQ P full Q n) (C:=C) (E:=E) (Pn:=Pn) hns (fun c a w d v h=>hQ c a w d v h) (fun c a w d v h=>hQ' c a w d v h) ord _ a w.drew hC hcl hgo (wpO_of_T ord a w.drew hC h)
 have h1:=wpAny_of_X (C:=C) (Q:=lastQ P full Q n) (eff:=E.contains) (pan:=Pn.contains) _ _ _ _ hC h0
 rw [hord] at h1
 have h2:=wpAny_last hB2 _ _ _ _ hcl (by simpa using h1)
 have e1:(Array.replicate (full.take n).toArray.size false).push false=Array.replicate full.toArray.size false:=by
  simp [hlen, ←Array.replicate_succ]
 have e2:min n full.length+1=full.toArray.size:=by simp [hlen]
 rw [e1,e2] at h2
 exact h2
end
end
end Go.Proofs.YtelepohdfcjnfaaGreat
