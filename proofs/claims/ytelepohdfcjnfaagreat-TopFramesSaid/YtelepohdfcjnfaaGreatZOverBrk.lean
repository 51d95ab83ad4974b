/-
  Overlays by number, at their blocks.
-/
import Derived.Test.YtelepohdfcjnfaaGreatZOvLaw
import Derived.Test.YtelepohdfcjnfaaGreatZOverTake
import Derived.Test.YtelepohdfcjnfaaGreatZOvSpk
import Derived.Deep.CutRange
import Derived.Deep.CutBlock
namespace Go.Proofs.YtelepohdfcjnfaaGreat
set_option maxHeartbeats 4000000
set_option maxRecDepth 100000
section
open Go.RowKit Go.Proofs
theorem set_mapO {α:Type} (f:Nat→α) (n m:Nat) (u:α):((List.range n).map f).set m u=(List.range n).map (upd f m u):=by
 apply List.ext_getElem
 ·simp
 ·intro k h1 h2
  simp only [List.getElem_set,List.getElem_map,List.getElem_range,upd]
  by_cases e:m=k
  ·rw [if_pos e,if_pos e.symm]
  ·rw [if_neg e,if_neg (fun x=>e x.symm)]
theorem set_permO {α:Type} (l:List α) (m:Nat) (o:α) (h:m<l.length):(l.set m o).Perm (o::l.eraseIdx m):=by
 induction l generalizing m with
 | nil=>exact absurd h (Nat.not_lt_zero _)
 | cons y t ih=>
  cases m with
  | zero=>exact List.Perm.refl _
  | succ m=>
   rw [List.set_cons_succ,List.eraseIdx_cons_succ]
   exact ((ih m (by simpa using h)).cons y).trans (List.Perm.swap _ _ _)
section
variable {W:World} {O:Ori} {p:Value} {ds:List Int} {B X:List Blk} {L L2:List Ow} {R:List Rw} {w w':World}
theorem Sta.drawn (h:Sta W O (.pointer none) [] B L R w) (f:Gr w w') (d:DrawV w' p ds) (hp:∀ k,pblk p k→w.heap.size≤k):Sta W O p ds B L R w':=by
 have k:=h.gr f
 refine ⟨⟨Fr.mono (T:=pblk p) k.fr (fun k _ h=>absurd h (pn_no k)),k.kp⟩,k.ty,d,k.blk,k.nd,k.own,k.nl,k.nbl,k.row,fun r hr hn q hq=>?_⟩
 obtain ⟨-, h2,h3,h4⟩:=k.far r hr hn q hq
 exact ⟨fun e=>by have h5:=hp _ e;have h6:=(h.row r hr).ltC hn hq;omega,h2,h3,h4⟩
theorem Sta.permL (h:Sta W O p ds B L R w) (hp:L2.Perm L):Sta W O p ds B L2 R w:=
 ⟨h.fr',⟨h.ty.1,fun o ho=>h.ty.2 o (hp.mem_iff.1 ho)⟩,h.dr,h.blk,h.nd,fun o ho=>h.own o (hp.mem_iff.1 ho),(hp.symm.pairwise h.nl (fun hxy k hk hk2=>hxy k hk2 hk)),fun x hx o ho=>h.nbl x hx o (hp.mem_iff.1 ho),h.row,fun r hr hn q hq=>by
  obtain ⟨h1,h2,h3,h4⟩:=h.far r hr hn q hq
  exact ⟨h1,h2,fun o ho=>h3 o (hp.mem_iff.1 ho),h4⟩⟩
theorem Sta.replL {o:Ow} (h:Sta W O p ds B (o::L) R w) {m:Nat} (hm:m<L.length):Sta W O p ds B (L.set m o) R w:=
 (h.less (List.Sublist.cons_cons _ (List.eraseIdx_sublist L m)) (fun _ h=>h)).permL (set_permO L m o hm)
def ovB (N:Nat) (bo:Nat→Nat) (o:Nat→Ov) (x:Nat→OvP):List Blk:=(List.range N).map fun i=>⟨bo i,(o i).arr (x i),103⟩
theorem ovB_set {N:Nat} {bo:Nat→Nat} {o:Nat→Ov} {x:Nat→OvP} {a:Nat} (o':Ov) (x':OvP):(ovB N bo o x).set a ⟨bo a,o'.arr x',103⟩=ovB N bo (upd o a o') (upd x a x'):=by
 unfold ovB
 rw [set_mapO]
 congr 1
 funext i
 unfold upd
 split
 ·rename_i e;rw [e]
 ·rfl
theorem Sta.ovIn {N:Nat} {bo:Nat→Nat} {o:Nat→Ov} {x:Nat→OvP} {a:Nat} (h:Sta W O p ds (X++ovB N bo o x) L R w) (ha:a<N) (hR:∀ r∈orows (o a) (x a) [],r∈R):
  Sta W O p ds (⟨bo a,(o a).arr (x a),103⟩::(X++(ovB N bo o x).eraseIdx a)) L (orows (o a) (x a) R) w:=by
 have e:=ovB_set (N:=N) (bo:=bo) (o:=o) (x:=x) (a:=a) (o a) (x a)
 have e2:upd o a (o a)=o:=by funext i;unfold upd;split<;>simp_all
 have e3:upd x a (x a)=x:=by funext i;unfold upd;split<;>simp_all
 rw [e2,e3] at e
 have hp:=set_permO (ovB N bo o x) a ⟨bo a,(o a).arr (x a),103⟩ (by unfold ovB;simpa using ha)
 rw [e] at hp
 refine (h.permB ((List.perm_middle.symm.trans ?_))).less (List.Sublist.refl _) (fun r hr=>?_)
 ·exact (hp.symm).append_left X
 ·simp only [orows,hrows,vrows,List.mem_cons] at hr hR
  rcases hr with rfl | rfl | rfl | rfl | hr
  ·exact hR _ (by simp)
  ·exact hR _ (by simp)
  ·exact hR _ (by simp)
  ·exact hR _ (by simp)
  ·exact hr
theorem Sta.ovOut {N:Nat} {bo:Nat→Nat} {o:Nat→Ov} {x:Nat→OvP} {a:Nat} {o':Ov} {x':OvP} (h:Sta W O p ds (⟨bo a,o'.arr x',103⟩::(X++(ovB N bo o x).eraseIdx a)) L R w) (ha:a<N):Sta W O p ds (X++ovB N bo (upd o a o') (upd x a x')) L R w:=by
 have hp:=set_permO (ovB N bo o x) a ⟨bo a,o'.arr x',103⟩ (by unfold ovB;simpa using ha)
 rw [ovB_set] at hp
 exact h.permB ((hp.append_left X).trans List.perm_middle)
end
theorem ovB_push (k:Nat) (bo:Nat→Nat) (o:Nat→Ov) (x:Nat→OvP) (g:Nat) (y:OvP):(⟨g,(o k).arr y,103⟩::ovB k bo o x).Perm (ovB (k+1) (upd bo k g) o (upd x k y)):=by
 have e:ovB (k+1) (upd bo k g) o (upd x k y)=ovB k bo o x++[⟨g,(o k).arr y,103⟩]:=by
  unfold ovB
  rw [List.range_succ,List.map_append]
  congr 1
  ·refine List.map_congr_left (fun i hi=>?_)
   have:i≠k:=by have:=List.mem_range.1 hi;omega
   rw [upd_other _ _ this,upd_other _ _ this]
  ·simp [upd_same]
 rw [e]
 exact (List.perm_append_singleton _ _).symm
theorem orows_app (o:Ov) (x:OvP) (R:List Rw):∀ r,r∈orows o x R↔r∈orows o x []∨r∈R:=by
 intro r
 simp only [orows,hrows,vrows,List.mem_cons,List.not_mem_nil,or_false]
 constructor
 ·rintro (h | h | h | h | h)
  ·exact .inl (.inl h)
  ·exact .inl (.inr (.inl h))
  ·exact .inl (.inr (.inr (.inl h)))
  ·exact .inl (.inr (.inr (.inr h)))
  ·exact .inr h
 ·rintro ((h | h | h | h) | h)
  ·exact .inl h
  ·exact .inr (.inl h)
  ·exact .inr (.inr (.inl h))
  ·exact .inr (.inr (.inr (.inl h)))
  ·exact .inr (.inr (.inr (.inr h)))
theorem bits8 (x:Int) (m:Nat) (hm:m<256):∃ v:Int,bits .and .u8 x m=v∧0≤v∧v≤m:=by
 refine ⟨_,rfl,?_⟩
 have h:(BitVec.ofInt 8 x &&&BitVec.ofInt 8 (m:Int)).toNat≤m:=by
  rw [BitVec.toNat_and]
  refine Nat.le_trans Nat.and_le_right ?_
  simp
  omega
 have e:bits .and .u8 x m=IntKind.u8.wrap ((BitVec.ofInt 8 x &&&BitVec.ofInt 8 (m:Int)).toNat:Int):=rfl
 rw [e,IntKind.wrap_u8]
 omega
theorem kept_in {l:List Int} {p:Int→Bool} {x:Int} (h:x∈kept p l):x∈l:=(List.mem_filter.1 h).1
theorem viewField (v:Vw) (y:VwP) (w:World):Sem.run Tryz.prog (Instr.field 60 (.agg (v.arr y)) 1) w= .ok (.agg #[.slice y.aa v.act.length y.ac, .int .i64 v.am]) w:=by
 simp [Instr.field,go_sem,part,asAgg]
theorem oFew (o:Ov) (ds:List Int):(oTick o ds).2.1.length≤70:=by
 have h1:=oFill_one o ds
 have h2:∀ v a b c d,(oStart v a b c d).1.length≤1:=fun v a b c d=>by unfold oStart;split<;>simp
 unfold oTick
 split
 ·have:=h2 (oFill o ds).1.h.v (oFill o ds).1.c.mixA (oFill o ds).1.c.mixP (oFill o ds).1.c.far (oFill o ds).2.2
  simp only [List.length_append,List.length_map]
  omega
 ·simp only [List.length_map]
  omega
theorem oFewT {o:Ov} {fr:Int} {m:Mq} {ds:List Int} (hact:(oTake o fr m ds).1.h.v.act.length≤64):(oTake o fr m ds).2.1.length≤70:=by
 have f1:=few_onAsk o.h fr true ds
 by_cases k1:m.kind=1
 ·have e:oTake o fr m ds=oJoins o fr ds:=by unfold oTake;rw [if_pos k1]
  rw [e] at hact ⊢
  have h2:(hOnAsk o.h fr true ds).1.v.act.length≤64:=hact
  have f6:(but (hOnAsk o.h fr true ds).1.v.act [fr]).length≤64:=Nat.le_trans (List.length_filter_le _ _) h2
  unfold oJoins
  split
  all_goals simp only [List.length_append,List.length_map,List.length_nil]
  all_goals omega
 have f2:=few_onAsk o.h fr m.high ds
 have f3:=few_onYes o.h fr ds
 have f4:=few_onNo o.h fr ds
 have f5:=hAsk_one o.h m.node false
 clear hact
 unfold oTake
 rw [if_neg k1]
 unfold oForward oHand mShuf oAsk
 repeat' split
 all_goals simp only [List.length_map,List.length_cons,List.length_nil] at *
 all_goals omega
end
section
open Go.RowKit Go.Proofs
theorem ovBroke_any (o:Ov) (x:OvP) (fr:Int) (p:Value) (ds:List Int) (Wb:World) (O:Ori) (B:List Blk) (L:List Ow) (R:List Rw) (bo:Nat) (w:World) (st:Sta Wb O p ds (⟨bo,o.arr x,103⟩::B) L (orows o x R) w) (g:o.Ok):
  Calls Tryz.prog 20 #[.pointer (some ⟨bo,0,none⟩), .int .i64 fr] w fun e w'=>e= .returned (.tuple #[])∧∃ x',Sta Wb O p ds (⟨bo,(oBroke o fr).arr x',103⟩::B) L (orows (oBroke o fr) x' R) w':=by
 unfold oBroke
 have CA:=Lib.hid (fun O w (h1:Sta w O p ds [] [] (hrows o.h x.x []) w)=>handOnBreak_any o.h x.x fr p ds O w h1 g.h)
 generalize hOnBreak o.h fr=h' at CA ⊢
 have ST1:=Lib.hid st
 clear st
 go_enter Tryz.func20,Tryz.ntmps20
 go_upto_region 1 with fail
 refine wp_region_lit ?_
 go_wp2_with (refine wpList_load_mid (by rfl) 100 _ (by rfl) bo 8 (by rfl) (Array.toList (#[.int .i64 o.h.v.self, .slice x.x.x.aa o.h.v.act.length x.x.x.ac, .int .i64 o.h.v.am, .slice x.x.x.pa o.h.v.pas.length x.x.x.pc, .int .i64 o.h.v.pm, .slice x.x.ka o.h.asked.length x.x.kc, .int .i64 64])) _ (rangeIn (cs:=o.arr x) (ST1.out.blkAt 0 rfl) 8 (by rfl)) Tryz.underlying100 rfl Tryz.infoHand ?_)
 refine (CA.out _ _ (ST1.out.enter (hrows o.h x.x []) (inC (at_ 1 rfl) (inC (at_ 2 rfl) (inC (at_ 3 rfl) inN))))).mono ?_
 intro e w2 hst
 obtain ⟨x',rfl,hst2, -⟩:=hst
 have ST2:=Lib.hid (show Sta Wb O p ds (⟨bo,o.arr x,103⟩::B) L (hrows h' x' (orows o x R)) w2 from ST1.out.leave (inC (at_ 1 rfl) (inC (at_ 2 rfl) (inC (at_ 3 rfl) inN))) hst2)
 clear hst2 ST1
 clear CA
 go_wp2_with (refine wpList_storeB (o:=8) (vs:=h'.arr x') (ST2.out.blkAt 0 rfl) (by rfl) 100 _ _ (by rfl) (by rfl) (by rfl) (Nat.le_of_ble_eq_true rfl) Tryz.infoHand (by rw [←Array.all_toList];rfl) ?_)
 intro w4 f_ b_
 have ST3:=Lib.hid (show Sta Wb O p ds (⟨bo, #[.int .i64 o.c.active, .int .i64 o.c.passive, .int .i64 o.c.far, .int .i64 o.c.near, .int .i64 o.c.mixA, .int .i64 o.c.mixP, .int .i64 o.c.every, .slice x.sa o.c.seeds.length x.sc, .int .i64 h'.v.self, .slice x'.x.aa h'.v.act.length x'.x.ac, .int .i64 h'.v.am, .slice x'.x.pa h'.v.pas.length x'.x.pc, .int .i64 h'.v.pm, .slice x'.ka h'.asked.length x'.kc, .int .i64 64, .int .i64 o.ticks, .int .i64 o.seed],103⟩::B) L (hrows h' x' (orows o x R)) w4 from ST2.out.store 0 rfl f_ b_)
 clear ST2 f_ b_
 go_wp2_with fail
 exact bodyPost_end (v:= .tuple #[]) (by simp [results,Tryz.results20,go_sem]) rfl ⟨rfl,⟨x.sa,x.sc,x'⟩,ST3.out.less (List.Sublist.refl _) (inC (at_ 3 rfl) (inC (at_ 0 rfl) (inC (at_ 1 rfl) (inC (at_ 2 rfl) (fun _ h=>List.mem_cons_of_mem _ (List.mem_cons_of_mem _ (List.mem_cons_of_mem _ (List.mem_cons_of_mem _ (List.mem_cons_of_mem _ (List.mem_cons_of_mem _ (List.mem_cons_of_mem _ (h))))))))))))⟩
end
end Go.Proofs.YtelepohdfcjnfaaGreat
