/-
  A draw that may be nil, and one of some integers.
-/
import Derived.Test.YtelepohdfcjnfaaGreatZPairLaw
import Derived.Test.YtelepohdfcjnfaaGreatZSetSpec
import Derived.Test.YtelepohdfcjnfaaGreatZOwn
import Derived.Laws.AppendOwn
namespace Go.Proofs.YtelepohdfcjnfaaGreat
set_option maxHeartbeats 1000000
set_option maxRecDepth 100000
section
open Go.RowKit Go.Proofs
def DrawV (w:World) (p:Value) (ds:List Int):Prop:=(p= .pointer none∧ds=[])∨∃ d,p= .pointer (some ⟨d,0,none⟩)∧DrawAt w d ds
def pblk (p:Value) (k:Nat):Prop:=p= .pointer (some ⟨k,0,none⟩)
theorem DrawV.nil (w:World):DrawV w (.pointer none) []:= .inl ⟨rfl,rfl⟩
theorem DrawV.keep {w w':World} {p:Value} {ds:List Int} (h:DrawV w p ds) (f:Gr w w'):DrawV w' p ds:=by
 rcases h with h | ⟨d,h1,h2⟩
 ·exact .inl h
 ·exact .inr ⟨d,h1,h2.keep f (fun _ _ h=>h)⟩
theorem DrawV.range {w:World} {p:Value} {ds:List Int} (h:DrawV w p ds):∀ x∈ds,0≤x∧x<4294967296:=by
 rcases h with ⟨_,rfl⟩ | ⟨d,_,h2⟩
 ·simp
 ·exact h2.range
theorem fr_pblk {w w':World} {p:Value} {d:Nat} (hp:p= .pointer (some ⟨d,0,none⟩)) (f:Fr (· =d) w w'):Fr (pblk p) w w':=
 f.mono (fun k _ h=>by subst h;exact hp)
theorem gr_pblk {w w':World} {p:Value} (f:Gr w w'):Fr (pblk p) w w':=Fr.mono (S:=fun _=>False) f (fun _ _ h=>h.elim)
theorem FrP.trans {a b c:World} {p:Value} (h:Fr (pblk p) a b) (k:Fr (pblk p) b c):Fr (pblk p) a c:=Fr.trans h k (fun _ h=> .inl h)
theorem belowV_any (p:Value) (ds:List Int) (n:Int) (w:World) (h:DrawV w p ds):
  Calls Tryz.prog 110 #[p, .int .i64 n] w fun e w'=>e= .returned (.int .i64 (bel ds n).1)∧DrawV w' p (bel ds n).2∧Fr (pblk p) w w':=by
 rcases h with ⟨rfl,rfl⟩ | ⟨d,rfl,h2⟩
 ·have e:bel [] n=(0,[]):=by unfold bel;split<;>rfl
  rw [e]
  refine (below_nil n w).mono ?_
  rintro e w' ⟨rfl,rfl⟩
  exact ⟨rfl, .nil w,Fr.refl _ _⟩
 ·refine (below_any d ds n w h2).mono ?_
  rintro e w' ⟨rfl,h3,f⟩
  exact ⟨rfl, .inr ⟨d,rfl,h3⟩,fr_pblk rfl f⟩
def OneEnd (p:Value) (o:Int×Bool×List Int) (w:World) (e:Ending) (w':World):Prop:=e= .returned (.tuple #[.int .i64 o.1, .bool o.2.1])∧DrawV w' p o.2.2∧Fr (pblk p) w w'
theorem oneInt_any (p:Value) (ds:List Int) (a:Option Addr) (cap:Nat) (l:List Int) (w:World) (h:DrawV w p ds) (hs:SlA w a l.length cap (ints l)) (hsep:∀ q,a=some q→¬ pblk p q.block):
  Calls Tryz.prog 69 #[p, .slice a l.length cap] w (OneEnd p (oneV ds l) w):=by
 have hle:=hs.le
 have hmx:=hs.max
 unfold OneEnd oneV
 by_cases hl:l=[]
 ·subst hl
  rw [if_pos rfl]
  have H:=Lib.hid h
  clear h hs hsep
  go_enter Tryz.func69,Tryz.ntmps69
  go_wp2_with fail
  go_ret2
  exact ⟨rfl,H.out,Fr.refl _ _⟩
 ·rw [if_neg hl]
  have hlen:0<l.length:=by
   cases l with
   | nil=>exact absurd rfl hl
   | cons x r=>simp
  obtain ⟨hb1,hb2⟩:=belN_eq ds l.length h.range hlen
  obtain ⟨k,hk⟩:∃ k,k=belN ds l.length:=⟨_,rfl⟩
  obtain ⟨dn,hdn⟩:∃ dn,dn=(bel ds l.length).2:=⟨_,rfl⟩
  have HB:=Lib.hid (belowV_any p ds l.length w h)
  rw [hb1, ←hk, ←hdn] at HB
  rw [←hk, ←hdn]
  rw [←hk] at hb2
  have hget:l.getD k 0=l[k]:=by rw [List.getD_eq_getElem?_getD,List.getElem?_eq_getElem hb2];rfl
  rw [hget]
  obtain ⟨b,o,ha,hc⟩:=hs.int k hb2
  have HS:=Lib.hid (hsep _ ha)
  subst ha
  have HC:=Lib.hid hc
  have hne:((l.length:Int)==0)=false:=by simp;omega
  clear h hs hsep hb1 hk hdn hget hl hc
  go_enter Tryz.func69,Tryz.ntmps69
  go_wp2_with fail
  refine HB.out.mono ?_
  rintro e w1 ⟨rfl,hd1,f1⟩
  have hc1:=f1.cell HC.out HS.out
  have D1:=Lib.hid hd1
  have F1:=Lib.hid f1
  clear f1 hd1 HB HC HS
  go_wp2_with fail
  go_ret2
  exact ⟨rfl,D1.out,F1.out⟩
end
section
open Go.RowKit Go.Proofs
theorem DrawV.keepGE {S:Nat→Prop} {w w':World} {p:Value} {ds:List Int} {B:Nat} (h:DrawV w p ds) (f:Fr S w w') (hS:∀ k,S k→B≤k) (hp:∀ k,pblk p k→k<B):DrawV w' p ds:=by
 rcases h with h | ⟨d,h1,h2⟩
 ·exact .inl h
 ·exact .inr ⟨d,h1,h2.keep f (fun k hk hs=>by have:=hp d h1;have:=hS _ hs;omega)⟩
theorem DrawV.lt' {w:World} {p:Value} {ds:List Int} (h:DrawV w p ds):∀ k,pblk p k→k<w.heap.size:=by
 intro k hk
 rcases h with ⟨rfl,_⟩ | ⟨d,rfl,h2⟩
 ·unfold pblk at hk;cases hk
 ·unfold pblk at hk;cases hk;exact h2.lt
theorem someV_int (p:Value) (l:List Int) (a:Option Addr) (cap:Nat) (cs:List Int) (n:Int) (w:World) (hD:DrawV w p l) (h:SlA w a cs.length cap (cs.map (Value.int .i64))) (hb:cs.length * 8≤140737488355328) (hn: -9223372036854775808≤n∧n≤9223372036854775807):
  Calls Tryz.prog 90 #[p, .slice a cs.length cap, .int .i64 n] w fun e w'=>∃ v,e= .returned v∧w'.ownsRow w.heap.size 3 1 v (someS cs.length l cs n).1.length ((someS cs.length l cs n).1.map (Value.int .i64))∧
   DrawV w' p (someS cs.length l cs n).2∧Fr (pblk p) w w':=by
 obtain ⟨i0,hi,hz0,hz1,hz2⟩:=info_parts Tryz.infoint
 have hdw:=hD.lt'
 have hn1:=hn.1
 have hn2:=hn.2
 clear hn
 have H:=Lib.hid h;clear h
 go_enter Tryz.func90,Tryz.ntmps90
 go_wp2_with fail
 refine (clone_int a _ cap _ w H.out (by simp) (by intro u hu;obtain ⟨x,_,rfl⟩:=List.mem_map.1 hu;rfl) hb).mono ?_
 rintro e w1 ⟨v1,rfl,hown,_,hbl⟩
 have hs1:=hbl.size
 obtain ⟨a1,cap1,rfl,hsl,hpa,_⟩:=SlA.of_own hown
 have hD1:DrawV w1 p l:=hD.keepGE (B:=w.heap.size) (S:=fun k=>w.heap.size≤k) (Fr.of_below hbl (fun _ _ h=>h)) (fun _ h=>h) hdw
 have HO:=Lib.hid hown;clear hown
 clear hpa hsl
 go_wp2_with fail
 go_loopw [2,7,8] (fun nv lv ov wr=>∃ (m:Int) (lf out:List Int) (ll:List Int) (a2:Option Addr) (cap2:Nat),nv= .int .i64 m∧lv= .slice a2 lf.length cap2∧ -9223372036854775808≤m∧m≤9223372036854775807∧lf.length+out.length≤cs.length∧
   wr.ownsRow w.heap.size 3 1 lv lf.length (lf.map (Value.int .i64))∧(∀ p,a2=some p→p.block<w1.heap.size)∧wr.ownsRow w1.heap.size 3 1 ov out.length (out.map (Value.int .i64))∧DrawV wr p ll∧Fr (pblk p) w wr∧w1.heap.size≤wr.heap.size∧
   someS cs.length l cs n=(out++(someS lf.length ll lf m).1,(someS lf.length ll lf m).2)) (fun _ lv _ _=>slLen lv)
 case atStart=>
  refine ⟨n,cs,[],l,a1,cap1,rfl,rfl,hn1,hn2,by simp,HO.out,?_,World.ownsRow_nil _ _ _ _,hD1,Fr.of_below hbl (fun k h1 h2=>by omega),Nat.le_refl _,by simp⟩
  obtain ⟨a',c',hv,_,hp,_⟩:=SlA.of_own HO.out
  cases hv
  exact fun p hp'=>(hp p hp').2.1
 case round=>
  obtain ⟨m,lf,out,ll,a2,cap2,rfl,rfl,hm1,hm2,hlo,hO2,ha2,hO3,hDr,hfr,hsz,hsp⟩:=hrel
  have hfs:=hfr.size
  have HS:=Lib.hid hsp;clear hsp
  have HO2:=Lib.hid hO2;clear hO2
  have HO3:=Lib.hid hO3;clear hO3
  have hcm:cs.length * 8≤140737488355328:=by omega
  by_cases hm0:0<m
  ·by_cases hl0:0<lf.length
   ·have hr4:=hDr.range
    obtain ⟨hb1,hb2⟩:=belN_eq ll lf.length hr4 hl0
    obtain ⟨a',c',hv,hsl,hp,_⟩:=SlA.of_own HO2.out
    cases hv
    obtain ⟨g,o,rfl,hcell⟩:=hsl.cell (belN ll lf.length) ((Value.int .i64) lf[belN ll lf.length]) (by simp [hb2])
    have hp3:=hp _ rfl
    have ho0:=hp3.2.2
    simp only at ho0
    subst ho0
    rw [Nat.zero_add] at hcell
    have hg1:w.heap.size≤g:=hp3.1
    have hg2:g<w1.heap.size:=ha2 _ rfl
    clear hp hp3 ha2
    have hstep:=someS_step (lf.length-1) ll lf m hm0 _ rfl hb2
    rw [show lf.length-1+1=lf.length by omega] at hstep
    have HST:=Lib.hid hstep;clear hstep
    generalize hbk:belN ll lf.length=k at *
    have HBK:=Lib.hid hbk;clear hbk
    have HB1:=Lib.hid hb1;clear hb1
    clear hsl hr4
    go_wp2_with fail
    refine (belowV_any p ll lf.length wr hDr).mono ?_
    rw [HB1.out]
    rintro e w2 ⟨rfl,hD2,hf2⟩
    have hcell2:=hf2.cell hcell (fun hp=>by have:=hdw _ hp;simp only at this;omega)
    have hs2:=hf2.size
    have hO2b:=own_fr HO2.out hf2 (by intro q hq hqd;simp [Value.ownBlock] at hq;have:=hdw _ hqd;omega)
    have hO3b:=own_fr HO3.out hf2 (by intro q hq hqd;have:=(HO3.out.lt q hq).1;have:=hdw _ hqd;omega)
    have HO2':=Lib.hid hO2b;clear hO2b
    have HO3':=Lib.hid hO3b;clear hO3b
    clear hcell
    go_wp2_with (at_builtin;refine wpList_append_own _ rfl _ _ 42 rfl w1.heap.size 3 i0 (.int .i64 0) 1 8 Tryz.underlying42 hi hz0 hz1 hz2 rfl (by decide) _ out.length (out.map (Value.int .i64)) rfl (HO3'.out.alloc _) ⟨w2.heap.size,0,none⟩ 1 1 [(Value.int .i64) lf[k]] rfl rfl ?c1 ?c2 ?c3 ?c4 ?c5 ?_)
    case c1=>
     intro j u hj
     match j,hj with
     | 0,hj=>
      simp at hj;subst hj
      rw [Addr.add_lit,Nat.add_zero,World.cell?_alloc_at _ _ _ _ rfl];rfl
    case c2=>intro u hu;simp at hu;subst hu;rfl
    case c3=>unfold maxLen;omega
    case c4=>omega
    case c5=>simp;omega
    intro v3 w3 hown3 hgrow3 _
    have hs3:=hgrow3.size
    simp only [World.size_alloc] at hs3
    have hO2c:=(HO2'.out.alloc (.cells #[(Value.int .i64) lf[k]] 3)).kept hgrow3 (by
     right;intro he
     have h1:(Value.slice (some ⟨g,0,none⟩) lf.length cap2).ownBlock=some g:=rfl
     rw [h1] at he
     have:=(HO3'.out.lt g he.symm).1
     omega)
    have HO2'':=Lib.hid hO2c;clear hO2c
    have hfd:Fr (fun k=>w1.heap.size≤k) w2 w3:=((Fr.refl (fun k=>w1.heap.size≤k) w2).alloc (.cells #[(Value.int .i64) lf[k]] 3)).grown hgrow3 (by
     intro q hq;left;exact (HO3'.out.lt q hq).1)
    have hD3:DrawV w3 p (bel ll ↑lf.length).2:=hD2.keepGE (B:=w.heap.size) hfd (fun k hk=>by omega) hdw
    clear hfd
    have hfr3:Fr (pblk p) w w3:=((hfr.trans hf2 (by intro q hq;exact .inl hq)).alloc (.cells #[(Value.int .i64) lf[k]] 3)).grown hgrow3 (by
     intro q hq;right;have:=(HO3'.out.lt q hq).1;omega)
    have HO3'':=Lib.hid hown3;clear hown3
    clear hcell2 hgrow3
    go_wp2_with fail
    refine (delete_int w.heap.size g cap2 k lf w3 HO2''.out hb2).mono ?_
    rintro e w4 ⟨rfl,hO4,hf4⟩
    have hs4:=hf4.size
    have hO3d:=own_fr HO3''.out hf4 (by intro q hq hqd;have:=(HO3''.out.lt q hq).1;omega)
    have HO4:=Lib.hid hO4;clear hO4
    have HO3d:=Lib.hid hO3d;clear hO3d
    go_wp2_with fail
    go_roundw
    case rel=>
     have hle:(lf.eraseIdx k).length=lf.length-1:=by rw [List.length_eraseIdx,if_pos hb2]
     refine ⟨m-1,lf.eraseIdx k,out++[lf[k]],(bel ll ↑lf.length).2,some ⟨g,0,none⟩,cap2,rfl,by rw [hle],by omega,by omega,by simp;omega,by have:=HO4.out;rw [hle] at this ⊢;exact this,by intro p hp;cases hp;exact hg2,by simpa using HO3d.out,?_,?_,by omega,?_⟩
     ·exact hD3.keepGE (B:=w.heap.size) hf4 (fun k hk=>by omega) hdw
     ·exact hfr3.trans hf4 (by intro q hq;right;omega)
     ·rw [HS.out,HST.out,hle]
      simp
    case measure=>simp [slLen];omega
   ·go_wp2_with fail
    go_ret
    refine ⟨_,rfl,?_,?_,hfr⟩
    ·have e0:=HS.out
     rw [someS_stop _ ll lf m (by omega)] at e0
     rw [e0];simpa using own_base HO3.out (by omega)
    ·have e0:=HS.out
     rw [someS_stop _ ll lf m (by omega)] at e0
     rw [e0];exact hDr
  ·go_wp2_with fail
   go_ret
   refine ⟨_,rfl,?_,?_,hfr⟩
   ·have e0:=HS.out
    rw [someS_stop _ ll lf m (by omega)] at e0
    rw [e0];simpa using own_base HO3.out (by omega)
   ·have e0:=HS.out
    rw [someS_stop _ ll lf m (by omega)] at e0
    rw [e0];exact hDr
end
section
open Go.RowKit Go.Proofs
theorem run_appI {B:Nat} {w:World} {L L':List Int} {v:Value} {a:Option Addr} {cap:Nat} (h:w.ownsRow B 3 1 v L.length (ints L)) (h':SlA w a L'.length cap (ints L')) (hB:B≤w.heap.size) (hl:L.length+L'.length≤1000000) (ty:TypeId):
  ∃ v' w',(Builtin.append_ #[42,42] ty #[v, .slice a L'.length cap]).run Tryz.prog w= .ok v' w'∧w'.ownsRow B 3 1 v' (L++L').length (ints (L++L'))∧w.grownBy w' v.ownBlock:=by
 obtain ⟨i,hi,hi2,hi3,hi4⟩:=info_parts Tryz.infoint
 cases a with
 | none=>
  have e:L'=[]:=by
   cases L' with
   | nil=>rfl
   | cons x r=>obtain ⟨b,o,e,_⟩:=h'.cell 0 _ rfl;cases e
  subst e
  refine ⟨v,w,?_,by simpa using h,World.grownBy.refl w _⟩
  obtain ⟨_,h1 | h1⟩:=h
  ·obtain ⟨rfl,_⟩:=h1
   simp [Builtin.append_,run_underlying Tryz.underlying42,sizeOf,typeInfo,hi,Builtin.lenOf,Builtin.firstCells]
  ·obtain ⟨g,cap,cur,rfl,_,_,hn,_⟩:=h1
   simp [Builtin.append_,run_underlying Tryz.underlying42,sizeOf,typeInfo,hi,Builtin.lenOf,Builtin.firstCells,hn,storeCells]
 | some ad=>
  have hnews:∀ j u,(ints L')[j]?=some u→w.cell? (ad.add j)=some u:=by
   intro j u hj
   obtain ⟨b,o,e,hc⟩:=h'.cell j u hj
   cases e
   rw [Addr.add_lit];exact hc
  obtain ⟨v',w',h1,h2,h3,_⟩:=run_append_own (P:=Tryz.prog) w B 42 ty 3 i (.int .i64 0) 1 8 Tryz.underlying42 hi hi2 hi3 hi4 rfl (by decide) v L.length _ h ad L'.length cap (ints L') (by simp) hnews
   (one_map _ L' (fun _=>rfl)) (by unfold maxLen;omega) (by omega) hB
  refine ⟨v',w',h1,?_,h3⟩
  rw [List.length_append,show ints (L++L')=ints L++ints L' by simp]
  exact h2
theorem wpList_appI {ops:Array Oper} {rest:List Oper} {o:Oper} {A:Act} {Q:Exit→Act→World→Prop} (hg:o.guard=none) (s x:Operand)
  (ho:o.op= .call { callee:= .builtin .append,args:= #[s,x],argTypes:= #[42,42] })
  {B:Nat} {w:World} {L L':List Int} {v:Value} {a:Option Addr} {cap:Nat} (h:w.ownsRow B 3 1 v L.length (ints L)) (h':SlA w a L'.length cap (ints L')) (hs:A.eval s=v) (hx:A.eval x= .slice a L'.length cap)
  (hB:B≤w.heap.size) (hl:L.length+L'.length≤1000000)
  (hk:∀ v' w',w'.ownsRow B 3 1 v' (L++L').length (ints (L++L'))→w.grownBy w' v.ownBlock→wpList Tryz.prog ops Q rest (A.put o.dst v') w'):wpList Tryz.prog ops Q (o::rest) A w:=by
 obtain ⟨v',w',h1,h2,h3⟩:=run_appI h h' hB hl o.type
 refine wpList_plain hg fun K hK=>?_
 unfold Oper.wp execOp
 simp only [ho,resolve,invoke,builtin,Sem.run_bind,Sem.run_pure,Result.andThen_ok,List.map_toArray,List.map_cons,List.map_nil,hs,hx,h1]
 exact hK _ _ (hk v' w' h2 h3)
end
section
open Go.RowKit Go.Proofs
theorem belowK_any (d:Nat) (l:List Int) (n:Int) (w:World) (h:DrawAt w d l):
  Calls Tryz.prog 110 #[.pointer (some ⟨d,0,none⟩), .int .i64 n] w fun e w'=>e= .returned (.int .i64 (bel l n).1)∧DrawAt w' d (bel l n).2∧Fr (· =d) w w'∧∀ (ad:Addr) (k:IntKind) (m:Int),w.cell? ad=some (.int k m)→w'.cell? ad=some (.int k m):=by
 by_cases ho:n<2∨2147483647<n
 ·rw [bel_out ho]
  refine (below_out d n w ho).mono ?_
  rintro e w' ⟨rfl,rfl⟩
  exact ⟨rfl,h,Fr.refl _ _,fun _ _ _ h=>h⟩
 obtain ⟨a,cap,hd,hf,hs,hr,hb⟩:=h
 cases l with
 | nil=>
  have e:bel [] n=(0,[]):=by simp [bel]
  rw [e]
  refine (below_empty d n w (by omega) (by omega) a cap hd).mono ?_
  rintro e w' ⟨rfl,rfl⟩
  exact ⟨rfl,⟨a,cap,hd,hf,hs,hr,hb⟩,Fr.refl _ _,fun _ _ _ h=>h⟩
 | cons x r=>
  have e:bel (x::r) n=(x % n,r):=by unfold bel;rw [if_pos (by omega)]
  rw [e]
  obtain ⟨b,o,rfl,hc⟩:=hs.cell 0 (.int .u32 x) rfl
  refine (below_in d b o x n _ cap w (by omega) (by omega) (by simp) hs.le hs.max hd hf (hr x (by simp)).1 hc).mono ?_
  rintro e w' ⟨rfl,a,rfl,ha,hab⟩
  have hbd0:b<d:=hb.1 _ rfl
  have hbd:b≠d:=by omega
  have hfr:Fr (· =d) w (w.setCell ⟨d,0,none⟩ (.slice (some a) ((x::r).length-1) (cap-1))):=(Fr.refl (· =d) w).setCell (p:=⟨d,0,none⟩) (.inl rfl) _
  refine ⟨rfl,⟨some a,cap-1,?_,?_,⟨?_,?_,?_⟩,fun y hy=>hr y (by simp [hy]),fun p hp=>?_,?_,fun p hp _=>?_⟩,hfr,fun ad k m hc=>by rw [World.cell?_setCell_other _ _ _ _ (by intro e;subst e;rw [hd] at hc;simp at hc)];exact hc⟩
  ·rw [World.cell?_setCell_same _ _ _ hd];simp
  ·simpa using hf
  ·have:=hs.le;simp at this ⊢;omega
  ·have:=hs.max;omega
  ·intro j u hj
   have hj':=(List.getElem?_eq_some_iff.1 hj).1
   simp at hj'
   obtain rfl:=ha (by simp;omega)
   obtain ⟨b',o',hp,hc'⟩:=hs.cell (j+1) u (by simpa using hj)
   cases hp
   exact ⟨b,o+1,rfl,by rw [Nat.add_assoc,Nat.add_comm 1 j];exact hfr.cell hc' hbd⟩
  ·cases hp;rw [hab];exact hbd0
  ·exact hb.2.1.set 0 _
  ·cases hp;rw [hab];exact (hb.2.2 _ rfl (by simp)).keep hfr (by omega)
theorem belowVK_any (p:Value) (ds:List Int) (n:Int) (w:World) (h:DrawV w p ds):
  Calls Tryz.prog 110 #[p, .int .i64 n] w fun e w'=>e= .returned (.int .i64 (bel ds n).1)∧DrawV w' p (bel ds n).2∧Fr (pblk p) w w'∧∀ (ad:Addr) (k:IntKind) (m:Int),w.cell? ad=some (.int k m)→w'.cell? ad=some (.int k m):=by
 rcases h with ⟨rfl,rfl⟩ | ⟨d,rfl,h2⟩
 ·have e:bel [] n=(0,[]):=by unfold bel;split<;>rfl
  rw [e]
  refine (below_nil n w).mono ?_
  rintro e w' ⟨rfl,rfl⟩
  exact ⟨rfl, .nil w,Fr.refl _ _,fun _ _ _ h=>h⟩
 ·refine (belowK_any d ds n w h2).mono ?_
  rintro e w' ⟨rfl,h3,f,kk⟩
  exact ⟨rfl, .inr ⟨d,rfl,h3⟩,fr_pblk rfl f,kk⟩
theorem oneIntK_any (p:Value) (ds:List Int) (a:Option Addr) (cap:Nat) (l:List Int) (w:World) (h:DrawV w p ds) (hs:SlA w a l.length cap (ints l)):
  Calls Tryz.prog 69 #[p, .slice a l.length cap] w (OneEnd p (oneV ds l) w):=by
 have hle:=hs.le
 have hmx:=hs.max
 unfold OneEnd oneV
 by_cases hl:l=[]
 ·subst hl
  rw [if_pos rfl]
  have H:=Lib.hid h
  clear h hs
  go_enter Tryz.func69,Tryz.ntmps69
  go_wp2_with fail
  go_ret2
  exact ⟨rfl,H.out,Fr.refl _ _⟩
 ·rw [if_neg hl]
  have hlen:0<l.length:=by
   cases l with
   | nil=>exact absurd rfl hl
   | cons x r=>simp
  obtain ⟨hb1,hb2⟩:=belN_eq ds l.length h.range hlen
  obtain ⟨k,hk⟩:∃ k,k=belN ds l.length:=⟨_,rfl⟩
  obtain ⟨dn,hdn⟩:∃ dn,dn=(bel ds l.length).2:=⟨_,rfl⟩
  have HB:=Lib.hid (belowVK_any p ds l.length w h)
  rw [hb1, ←hk, ←hdn] at HB
  rw [←hk, ←hdn]
  rw [←hk] at hb2
  have hget:l.getD k 0=l[k]:=by rw [List.getD_eq_getElem?_getD,List.getElem?_eq_getElem hb2];rfl
  rw [hget]
  obtain ⟨b,o,ha,hc⟩:=hs.int k hb2
  subst ha
  have HC:=Lib.hid hc
  have hne:((l.length:Int)==0)=false:=by simp;omega
  clear h hs hb1 hk hdn hget hl hc
  go_enter Tryz.func69,Tryz.ntmps69
  go_wp2_with fail
  refine HB.out.mono ?_
  rintro e w1 ⟨rfl,hd1,f1,kk⟩
  have hc1:=kk _ _ _ HC.out
  have D1:=Lib.hid hd1
  have F1:=Lib.hid f1
  clear f1 hd1 kk HB HC
  go_wp2_with fail
  go_ret2
  exact ⟨rfl,D1.out,F1.out⟩
end
end Go.Proofs.YtelepohdfcjnfaaGreat
