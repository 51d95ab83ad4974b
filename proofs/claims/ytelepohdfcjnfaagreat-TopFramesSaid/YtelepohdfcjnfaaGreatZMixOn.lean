/-
  mix.OnShuffle: a sample that comes (printed by gen_onshuffle.py).
-/
import Derived.Test.YtelepohdfcjnfaaGreatZMixStart
import Derived.Test.YtelepohdfcjnfaaGreatZMixKnow
import Derived.Test.YtelepohdfcjnfaaGreatZWalk
namespace Go.Proofs.YtelepohdfcjnfaaGreat
set_option maxHeartbeats 8000000
set_option maxRecDepth 100000
open Go.RowKit Go.Proofs
theorem exec_bldMixed (ρ:Operand→Value) (w:World) (dst:Option Tmp) (ty:TypeId) (pos:String) (after:Array Edge) {x0 x4:Operand} {i0:Int} {sa:Option Addr} {sn sc:Nat} (h0:ρ x0= .int .i64 i0) (h4:ρ x4= .slice sa sn sc):
  (execOp ρ ⟨dst, .build 76 #[(0,x0),(4,x4)],ty,pos,after,none⟩).run Tryz.prog w= .ok (.value (.agg #[.int .i64 i0, .int .i64 0, .int .i64 0, .bool false, .slice sa sn sc, .slice none 0 0, .slice none 0 0])) w:=by simp [go_sem,h0,h4]
theorem wpList_bldMixed {ops:Array Oper} {rest:List Oper} {dst:Option Tmp} {ty:TypeId} {pos:String} {after:Array Edge} {A:Act} {w:World} {Q:Exit→Act→World→Prop} {x0 x4:Operand} {i0:Int} {sa:Option Addr} {sn sc:Nat} (h0:A.eval x0= .int .i64 i0) (h4:A.eval x4= .slice sa sn sc)
  (h:wpList Tryz.prog ops Q rest (A.put dst (.agg #[.int .i64 i0, .int .i64 0, .int .i64 0, .bool false, .slice sa sn sc, .slice none 0 0, .slice none 0 0])) w):
  wpList Tryz.prog ops Q (⟨dst, .build 76 #[(0,x0),(4,x4)],ty,pos,after,none⟩::rest) A w:=by
 refine wpList_plain rfl fun K hK=>?_
 unfold Oper.wp
 rw [exec_bldMixed A.eval w dst ty pos after h0 h4]
 exact hK _ _ h
def osAns (v:Vw) (m:Mq):Bool:=(m.node != v.self)&&decide (1≤m.node)
def osWant (v:Vw) (m:Mq) (ds:List Int):List Int×List Int:=if osAns v m=true then someS v.pas.length ds v.pas m.nodes.length else ([],ds)
def OsOn (p:Value) (v:Vw) (x:VwP) (nx:Int) (m:Mq) (a:Option Addr) (c:Nat) (ds':List Int) (W:World) (e:Ending) (w':World):Prop:=
 ∃ g,e= .returned (.tuple #[.agg (v.arr x), .slice (some ⟨g,0,none⟩) 1 1])∧W.heap.size≤g∧w'.heap[g]?=some (.cells (outArr nx { m with walk:=m.walk-1 } a c) 81 (0,0))∧VwAt w' v x∧DrawV w' p ds'∧Fr (pblk p) W w'
def VwPast (g:Nat) (v:Vw) (x:VwP) (v':Vw) (y:VwP):Prop:=(∀ q,y.aa=some q→(x.aa=some q∧v.act=v'.act)∨g<q.block)∧∀ q,y.pa=some q→(x.pa=some q∧v.pas=v'.pas)∨g<q.block
def OsHere (p:Value) (v:Vw) (x:VwP) (m:Mq) (ds:List Int) (W:World) (e:Ending) (w':World):Prop:=
 ∃ y ov,e= .returned (.tuple #[.agg ((kAll v m.nodes (osWant v m ds).2).1.arr y),ov])∧VwAt w' (kAll v m.nodes (osWant v m ds).2).1 y∧DrawV w' p (kAll v m.nodes (osWant v m ds).2).2∧VwFrom W v x (kAll v m.nodes (osWant v m ds).2).1 y∧Fr (pblk p) W w'∧
  (osAns v m=false→ov= .slice none 0 0)∧
  (osAns v m=true→∃ g aw cw,ov= .slice (some ⟨g,0,none⟩) 1 1∧W.heap.size≤g∧w'.heap[g]?=some (.cells (outArr m.node ⟨8,0,0,false,(osWant v m ds).1⟩ aw cw) 81 (0,0))∧SlA w' aw (osWant v m ds).1.length cw (ints (osWant v m ds).1)∧(∀ q,aw=some q→W.heap.size≤q.block∧q.block<g)∧VwPast g v x (kAll v m.nodes (osWant v m ds).2).1 y)
def ShufEnd (p:Value) (v:Vw) (x:VwP) (fr:Int) (m:Mq) (a:Option Addr) (c:Nat) (ds:List Int) (W:World) (e:Ending) (w':World):Prop:=
 if (wMix v fr m.node m.walk ds).1=false then OsOn p v x (wMix v fr m.node m.walk ds).2.1 m a c (wMix v fr m.node m.walk ds).2.2.2 W e w'
 else OsHere p v x m (wMix v fr m.node m.walk ds).2.2.2 W e w'
abbrev osS (p:Value) (b:Nat):Nat→Prop:=fun k=>pblk p k∨k=b
theorem wMix_on {v:Vw} {a b left:Int} {ds:List Int} (h:(wMix v a b left ds).1=false):1≤left:=by
 unfold wMix at h
 split at h
 ·cases h
 ·omega
theorem onShuffle_any (v:Vw) (x:VwP) (fr:Int) (m:Mq) (a:Option Addr) (c:Nat) (p:Value) (ds:List Int) (W:World) (h:VwAt W v x) (hd:DrawV W p ds) (hsep:VwSep p v x) (hl:SlA W a m.nodes.length c (ints m.nodes)) (hlp:m.nodes≠[]→∀ q,a=some q→¬ pblk p q.block) (hw:m.walk≤9223372036854775807) (hn:m.nodes.length≤1000):
  Calls Tryz.prog 53 #[v.val x, .int .i64 fr, .agg (m.arr a c),p] W (ShufEnd p v x fr m a c ds W):=by
 obtain ⟨ip,hp1,hp2,hps⟩:=info_pair Tryz.zeroStep
 obtain ⟨w1,hw1⟩:∃ w1,w1=((W.alloc (.cells (v.arr x) 60)).alloc (.cells (m.arr a c) 76)).alloc (.cells viewZ 60):=⟨_,rfl⟩
 have f1:Gr W w1:=by rw [hw1];exact (((Fr.refl _ _).alloc _).alloc _).alloc _
 have B1:=Lib.hid (show w1.heap[W.heap.size]?=some (.cells (v.arr x) 60 (0,0)) by rw [hw1,heap_alloc_if,if_neg (by simp<;>omega),heap_alloc_if,if_neg (by simp),heap_alloc_if,if_pos rfl])
 have M1:=Lib.hid (show w1.heap[W.heap.size+1]?=some (.cells (m.arr a c) 76 (0,0)) by rw [hw1,heap_alloc_if,if_neg (by simp),heap_alloc_if,if_pos (by simp)])
 have R1:=Lib.hid (show w1.heap[W.heap.size+2]?=some (.cells viewZ 60 (0,0)) by rw [hw1,heap_alloc_if,if_pos (by simp)])
 have s1:W.heap.size+2<w1.heap.size:=(Array.getElem?_eq_some_iff.1 R1.out).1
 have F1:=Lib.hid f1
 have HW:=Lib.hid hw1
 have HP:=Lib.hid hd.lt
 have HSEP:=Lib.hid hsep
 have HV:=Lib.hid (fun w (f:Fr (pblk p) W w)=>h.drawn hsep f)
 have HN:=Lib.hid (fun w (f:Fr (pblk p) W w)=>show SlA w a m.nodes.length c (ints m.nodes) from hl.keepNE f hlp)
 have HG:=Lib.hid h.good
 have HLP:=Lib.hid hlp
 have HAP:=Lib.hid (VwApart.new (S:=fun k=>k=W.heap.size+2) h (fun k hk=>by omega))
 have HANP:=Lib.hid (fun (hne:m.nodes≠[]) q (hq:a=some q)=>show q.block<W.heap.size from hl.ltNE hne q hq)
 have HR:=Lib.hid hd.range
 have l1:=h.act.le
 have l2:=h.act.max
 have l3:=h.pas.le
 have l4:=h.pas.max
 have l5:=hl.le
 have l6:=hl.max
 have CX:=Lib.hid (walkMix_any v x fr m.node m.walk p ds w1 (h.gr f1) (hd.keep f1))
 unfold SEnd at CX
 clear hw1 f1 h hd hsep hl hlp
 have HON:=Lib.hid (fun (hx:(wMix v fr m.node m.walk ds).1=false)=>wMix_on hx)
 have HRX:=Lib.hid (fun (q:List Int)=>show True from trivial)
 obtain ⟨ms,hms⟩:∃ ms,ms=wMix v fr m.node m.walk ds:=⟨_,rfl⟩
 have HMS:=Lib.hid hms
 rw [←hms] at CX HON
 clear hms HRX
 obtain ⟨me,mn,mk,d2⟩:=ms
 simp only at CX HON
 go_enter Tryz.func53,Tryz.ntmps53
 go_upto_region 1 with fail
 rw [←HW.out]
 clear HW
 have m1:=(Bx.of_block M1.out) 1 _ rfl
 have m2:=(Bx.of_block M1.out) 2 _ rfl
 refine wp_region_lit ?_
 refine wpList_load_mid (by rfl) 60 _ (by rfl) W.heap.size 0 (by rfl) (Array.toList (v.arr x)) _ (blk_range B1.out) Tryz.underlying60 rfl Tryz.infoView ?_
 go_wp2_with fail
 refine CX.out.mono ?_
 rintro e w2 ⟨rfl,hd2,f2⟩
 have B2:=Lib.hid (blk_keep f2 B1.out (fun hk=>by have:=HP.out _ hk;omega))
 have M2:=Lib.hid (blk_keep f2 M1.out (fun hk=>by have:=HP.out _ hk;omega))
 have R2:=Lib.hid (blk_keep f2 R1.out (fun hk=>by have:=HP.out _ hk;omega))
 have F2:=Lib.hid (show Fr (pblk p) W w2 from Fr.trans (Fr.mono (T:=pblk p) F1.out (fun _ _ h=>h.elim)) f2 (fun _ h=> .inl h))
 have D2:=Lib.hid hd2
 clear hd2 f2 B1 M1 R1 F1 CX m1 m2
 go_wp2_with (refine wpList_fresh (vs:= #[.bool me, .int .i64 mn, .bool mk]) hp1 hp2 Tryz.infoStep (by rfl) (by rw [←Array.all_toList];rfl) (by rfl) (by rfl) ?_)
 intro w3 f3 b3 l3'
 obtain ⟨g1,hg1⟩:∃ g,g=w2.heap.size:=⟨_,rfl⟩
 rw [←hg1] at b3 l3' ⊢
 have B3:=Lib.hid (blk_keep f3 B2.out (fun h=>h))
 have M3:=Lib.hid (blk_keep f3 M2.out (fun h=>h))
 have R3:=Lib.hid (blk_keep f3 R2.out (fun h=>h))
 have F3:=Lib.hid (show Fr (pblk p) W w3 from Fr.trans F2.out f3 (fun _ h=>h.elim))
 have D3:=Lib.hid (D2.out.keep f3)
 have P3:=Lib.hid b3
 have hg2:W.heap.size+2<g1:=by rw [hg1];exact (Array.getElem?_eq_some_iff.1 R2.out).1
 have HPG:=Lib.hid (show ∀ k,pblk p k→k<g1 from fun k hk=>by have:=HP.out k hk;omega)
 clear f3 b3 l3' hg1 B2 M2 R2 F2 D2 hp1 hp2 hps
 have p0:=(Bx.of_block P3.out) 0 _ rfl
 cases me
 case false=>
  have hwk:=HON.out rfl
  have m2:=(Bx.of_block M3.out) 2 _ rfl
  have zc:=Lib.frozen_of_heap M3.out 2
  go_upto_region 4 with fail
  obtain ⟨w4,hw4⟩:∃ w4,w4=World.setCell w3 ⟨W.heap.size+1,2,none⟩ (.int .i64 (m.walk-1)):=⟨_,rfl⟩
  rw [←hw4]
  have f4:Fr (fun k=>k=W.heap.size+1) w3 w4:=by rw [hw4];exact (Fr.refl (fun k=>k=W.heap.size+1) _).setCell (p:=⟨W.heap.size+1,2,none⟩) (.inl rfl) _
  have b4:w4.heap[W.heap.size+1]?=some (.cells (Mq.arr { m with walk:=m.walk-1 } a c) 76 (0,0)):=by rw [hw4];exact blk_set1 M3.out 2 _
  have B4:=Lib.hid (blk_keep f4 B3.out (by omega))
  have M4:=Lib.hid b4
  have R4:=Lib.hid (blk_keep f4 R3.out (by omega))
  have P4:=Lib.hid (blk_keep f4 P3.out (by omega))
  have F4:=Lib.hid (show Fr (pblk p) W w4 from Fr.trans F3.out f4 (fun k hk=> .inr (by omega)))
  have D4:=Lib.hid (D3.out.keepGE (B:=W.heap.size) f4 (fun k hk=>by omega) HP.out)
  clear hw4 f4 b4 B3 M3 R3 P3 F3 D3 m2 zc p0
  haveI:Nonempty (WC (Fr (osS p (W.heap.size+2)) w4)):=⟨⟨w4,Fr.refl _ _⟩⟩
  have z0:∀ z':WC (Fr (osS p (W.heap.size+2)) w4),z'.val.cell? ⟨W.heap.size,0,none⟩=some (.int .i64 v.self):=fun z'=>z'.ok.cell ((Bx.of_block B4.out) 0 _ rfl) (fun hk=>hk.elim (fun hk=>by have:=HP.out _ hk;simp only at this;omega) (fun hk=>by simp only at hk;omega))
  have z1:∀ z':WC (Fr (osS p (W.heap.size+2)) w4),z'.val.cell? ⟨W.heap.size,1,none⟩=some (.slice x.aa v.act.length x.ac):=fun z'=>z'.ok.cell ((Bx.of_block B4.out) 1 _ rfl) (fun hk=>hk.elim (fun hk=>by have:=HP.out _ hk;simp only at this;omega) (fun hk=>by simp only at hk;omega))
  have z2:∀ z':WC (Fr (osS p (W.heap.size+2)) w4),z'.val.cell? ⟨W.heap.size,2,none⟩=some (.int .i64 v.am):=fun z'=>z'.ok.cell ((Bx.of_block B4.out) 2 _ rfl) (fun hk=>hk.elim (fun hk=>by have:=HP.out _ hk;simp only at this;omega) (fun hk=>by simp only at hk;omega))
  have z3:∀ z':WC (Fr (osS p (W.heap.size+2)) w4),z'.val.cell? ⟨W.heap.size,3,none⟩=some (.slice x.pa v.pas.length x.pc):=fun z'=>z'.ok.cell ((Bx.of_block B4.out) 3 _ rfl) (fun hk=>hk.elim (fun hk=>by have:=HP.out _ hk;simp only at this;omega) (fun hk=>by simp only at hk;omega))
  have z4:∀ z':WC (Fr (osS p (W.heap.size+2)) w4),z'.val.cell? ⟨W.heap.size,4,none⟩=some (.int .i64 v.pm):=fun z'=>z'.ok.cell ((Bx.of_block B4.out) 4 _ rfl) (fun hk=>hk.elim (fun hk=>by have:=HP.out _ hk;simp only at this;omega) (fun hk=>by simp only at hk;omega))
  have m0:∀ z':WC (Fr (osS p (W.heap.size+2)) w4),z'.val.cell? ⟨W.heap.size+1,0,none⟩=some (.int .i64 m.kind):=fun z'=>z'.ok.cell ((Bx.of_block M4.out) 0 _ rfl) (fun hk=>hk.elim (fun hk=>by have:=HP.out _ hk;simp only at this;omega) (fun hk=>by simp only at hk;omega))
  have m1:∀ z':WC (Fr (osS p (W.heap.size+2)) w4),z'.val.cell? ⟨W.heap.size+1,1,none⟩=some (.int .i64 m.node):=fun z'=>z'.ok.cell ((Bx.of_block M4.out) 1 _ rfl) (fun hk=>hk.elim (fun hk=>by have:=HP.out _ hk;simp only at this;omega) (fun hk=>by simp only at hk;omega))
  have m2:∀ z':WC (Fr (osS p (W.heap.size+2)) w4),z'.val.cell? ⟨W.heap.size+1,2,none⟩=some (.int .i64 (m.walk-1)):=fun z'=>z'.ok.cell ((Bx.of_block M4.out) 2 _ rfl) (fun hk=>hk.elim (fun hk=>by have:=HP.out _ hk;simp only at this;omega) (fun hk=>by simp only at hk;omega))
  have m3:∀ z':WC (Fr (osS p (W.heap.size+2)) w4),z'.val.cell? ⟨W.heap.size+1,3,none⟩=some (.bool m.high):=fun z'=>z'.ok.cell ((Bx.of_block M4.out) 3 _ rfl) (fun hk=>hk.elim (fun hk=>by have:=HP.out _ hk;simp only at this;omega) (fun hk=>by simp only at hk;omega))
  have m4:∀ z':WC (Fr (osS p (W.heap.size+2)) w4),z'.val.cell? ⟨W.heap.size+1,4,none⟩=some (.slice a m.nodes.length c):=fun z'=>z'.ok.cell ((Bx.of_block M4.out) 4 _ rfl) (fun hk=>hk.elim (fun hk=>by have:=HP.out _ hk;simp only at this;omega) (fun hk=>by simp only at hk;omega))
  have m5:∀ z':WC (Fr (osS p (W.heap.size+2)) w4),z'.val.cell? ⟨W.heap.size+1,5,none⟩=some (.slice none 0 0):=fun z'=>z'.ok.cell ((Bx.of_block M4.out) 5 _ rfl) (fun hk=>hk.elim (fun hk=>by have:=HP.out _ hk;simp only at this;omega) (fun hk=>by simp only at hk;omega))
  have m6:∀ z':WC (Fr (osS p (W.heap.size+2)) w4),z'.val.cell? ⟨W.heap.size+1,6,none⟩=some (.slice none 0 0):=fun z'=>z'.ok.cell ((Bx.of_block M4.out) 6 _ rfl) (fun hk=>hk.elim (fun hk=>by have:=HP.out _ hk;simp only at this;omega) (fun hk=>by simp only at hk;omega))
  have p1:∀ z':WC (Fr (osS p (W.heap.size+2)) w4),z'.val.cell? ⟨g1,1,none⟩=some (.int .i64 mn):=fun z'=>z'.ok.cell ((Bx.of_block P4.out) 1 _ rfl) (fun hk=>hk.elim (fun hk=>by have:=HPG.out _ hk;simp only at this;omega) (fun hk=>by simp only at hk;omega))
  go_upto_region 4 with fail
  go_cut [9] from 28 to 33 (fun rv wx=>∃ g:Nat,rv= .slice (some ⟨g,0,none⟩) 1 1∧w4.heap.size≤g∧wx.heap[g]?=some (.cells (outArr mn { m with walk:=m.walk-1 } a c) 81 (0,0))∧wx.heap[W.heap.size+2]?=some (.cells (v.arr x) 60 (0,0))∧Fr (fun k=>k=W.heap.size+2) w4 wx)
  case first=>
   refine wp_region_plan [5,6] (Plan.seq [0,1,2,3,4] (.fork 5 6 (Plan.seq [6,7] .done) (Plan.seq [5,7] .done))) (fun w'=>∃ z':WC (Fr (osS p (W.heap.size+2)) w4),w'=z'.val) (by kernel_rfl) (by kernel_rfl) (fun c a w d v h=>by cases d<;>exact h) (fun c a w d v h=>by cases d<;>exact h) ⟨⟨w4.drew,(Fr.refl _ _).drew⟩,rfl⟩ ?_
   simp only [Plan.seq,List.foldr]
   refine wpV_q (by simp only [gtA,gtZ]<;>rfl) (by rfl) (by rfl) ?_
   go_big_quiet_step (fail)
   refine wpQuiet_nil ?_
   repeat (refine wpV_q (by simp only [gtA,gtS,gtZ]<;>rfl) (by rfl) (by rfl) ?_;go_big_quiet_step (fail);refine wpQuiet_nil ?_)
   have hr4:W.heap.size+2<w4.heap.size:=(Array.getElem?_eq_some_iff.1 R4.out).1
   refine wpV_fork (by simp only [gtA,gtS,gtZ]<;>rfl) (by simp only [gtA,gtS,gtZ]<;>rfl) ?_ ?_
   ·refine wpList_bldOuts (by rfl) ?_
    refine wpList_nil ?_
    obtain ⟨w5,hw5⟩:∃ w5,w5=w4.drew.alloc (.cells (outArr mn { m with walk:=m.walk-1 } a c) 81):=⟨_,rfl⟩
    have f5:Gr w4 w5:=by rw [hw5];exact ((Fr.refl _ _).drew).alloc _
    have b5:w5.heap[w4.heap.size]?=some (.cells (outArr mn { m with walk:=m.walk-1 } a c) 81 (0,0)):=by rw [hw5];exact (heap_alloc_if w4.drew _ _).trans (if_pos rfl)
    have hs5:w4.heap.size<w5.heap.size:=(Array.getElem?_eq_some_iff.1 b5).1
    rw [←hw5]
    clear hw5
    refine ⟨⟨⟨w5,f5.mono (fun _ _ h=>h.elim)⟩,rfl⟩,?_⟩
    try simp only [Act.put,List.setIfInBounds_toArray,List.set_cons_succ,List.set_cons_zero]
    refine wpV_e (by simp only [gtA,gtS,gtZ]<;>rfl) (by rfl) ?_
    go_wp2_with (refine wpList_storeW (b:=W.heap.size+2) (vs:=v.arr x) (blk_keep f5 R4.out (fun h=>h)) (by rfl) 60 _ _ (by rfl) (by rfl) (by rfl) rfl Tryz.infoView (by rw [←Array.all_toList];rfl) ?_)
    intro w6 f6 b6
    refine wpList_nil ?_
    have f6':Fr (fun k=>k=W.heap.size+2) w4 w6:=Fr.trans (f5.mono (fun _ _ h=>h.elim)) f6 (fun _ h=> .inl h)
    refine ⟨⟨⟨w6,f6'.mono (fun _ _ h=> .inr h)⟩,rfl⟩,?_⟩
    have H6:=Lib.hid (And.intro (blk_keep f6 b5 (by omega)) (And.intro b6 f6'))
    clear f5 b5 f6 b6 f6' hs5
    repeat (refine wpV_q (by simp only [gtA,gtS,gtZ]<;>rfl) (by rfl) (by rfl) ?_;go_big_quiet_step (fail);refine wpQuiet_nil ?_)
    refine wpV_done ?_
    clear z0 z1 z2 z3 z4 m0 m1 m2 m3 m4 m5 m6 p1 this
    go_wp2_with fail
    go_meet
    exact ⟨w4.heap.size,rfl,Nat.le_refl _,H6.out.1,H6.out.2.1,H6.out.2.2⟩
   ·go_wp2_with (refine wpList_storeW (w:=w4.drew) (b:=W.heap.size+2) (cs:=viewZ) (vs:=v.arr x) (show w4.drew.heap[W.heap.size+2]?=_ from R4.out) (by rfl) 60 _ _ (by rfl) (by rfl) (by rfl) rfl Tryz.infoView (by rw [←Array.all_toList];rfl) ?_)
    intro w5 f5 b5
    refine wpList_nil ?_
    have f5':Fr (fun k=>k=W.heap.size+2) w4 w5:=Fr.trans ((Fr.refl _ _).drew) f5 (fun _ h=> .inl h)
    refine ⟨⟨⟨w5,f5'.mono (fun _ _ h=> .inr h)⟩,rfl⟩,?_⟩
    try simp only [Act.put,List.setIfInBounds_toArray,List.set_cons_succ,List.set_cons_zero]
    refine wpV_e (by simp only [gtA,gtS,gtZ]<;>rfl) (by rfl) ?_
    refine wpList_bldOuts (by rfl) ?_
    refine wpList_nil ?_
    obtain ⟨w6,hw6⟩:∃ w6,w6=w5.alloc (.cells (outArr mn { m with walk:=m.walk-1 } a c) 81):=⟨_,rfl⟩
    have f6:Gr w5 w6:=by rw [hw6];exact (Fr.refl _ _).alloc _
    have b6:w6.heap[w5.heap.size]?=some (.cells (outArr mn { m with walk:=m.walk-1 } a c) 81 (0,0)):=by rw [hw6,heap_alloc_if,if_pos rfl]
    rw [←hw6]
    clear hw6
    have f6':Fr (fun k=>k=W.heap.size+2) w4 w6:=Fr.trans f5' f6 (fun _ h=>h.elim)
    refine ⟨⟨⟨w6,f6'.mono (fun _ _ h=> .inr h)⟩,rfl⟩,?_⟩
    have H6:=Lib.hid (And.intro f5'.size (And.intro b6 (And.intro (blk_keep f6 b5 (fun h=>h)) f6')))
    clear f5 b5 f6 b6 f6' f5'
    try simp only [Act.put,List.setIfInBounds_toArray,List.set_cons_succ,List.set_cons_zero]
    repeat (refine wpV_q (by simp only [gtA,gtS,gtZ]<;>rfl) (by rfl) (by rfl) ?_;go_big_quiet_step (fail);refine wpQuiet_nil ?_)
    refine wpV_done ?_
    clear z0 z1 z2 z3 z4 m0 m1 m2 m3 m4 m5 m6 p1 this
    go_wp2_with fail
    go_meet
    exact ⟨w5.heap.size,rfl,H6.out.1,H6.out.2.1,H6.out.2.2.1,H6.out.2.2.2⟩
  case rest=>
   obtain ⟨g,rfl,hgg,bg,br,f5⟩:=hcut
   generalize wc=w5 at *
   have L8:Hid ((loadVar 60 ⟨W.heap.size+1+1,0,none⟩).run Tryz.prog w5= .ok (.agg (v.arr x)) w5):=Lib.hid (run_loadVar_mid w5 (W.heap.size+1+1) 0 60 (Array.toList (v.arr x)) _ (blk_range br) Tryz.underlying60 rfl Tryz.infoView)
   have A8:Hid ((asAddr (.pointer (some ⟨W.heap.size+1+1,0,none⟩))).run Tryz.prog w5= .ok ⟨W.heap.size+1+1,0,none⟩ w5):=Lib.hid (by simp [go_sem])
   have FX:=Lib.hid (show Fr (pblk p) W w5 from Fr.trans F4.out f5 (fun k hk=> .inr (by omega)))
   have BG:=Lib.hid bg
   have D5:=Lib.hid (D4.out.keepGE (B:=W.heap.size) f5 (fun k hk=>by omega) HP.out)
   have s4:=F4.out.size
   clear bg br f5 z0 z1 z2 z3 z4 m0 m1 m2 m3 m4 m5 m6 p1 this B4 M4 R4 P4 D4
   go_wp2_with fail
   refine bodyPost_ret (v:= .tuple #[.agg (v.arr x), .slice (some ⟨g,0,none⟩) 1 1]) (by simp [results,Tryz.results53,Sem.run_bind,Result.andThen_ok,L8.out,A8.out]) rfl ?_
   unfold ShufEnd
   rw [←HMS.out,if_pos rfl]
   exact ⟨g,rfl,by omega,BG.out,HV.out _ FX.out,D5.out,FX.out⟩
 case true=>
  have n1:=(Bx.of_block M3.out) 1 _ rfl
  have v0:=(Bx.of_block B3.out) 0 _ rfl
  go_upto_region 6 with fail
  go_cut [43] from 34 to 43 (fun cc wx=>cc= .bool (osAns v m)∧w3=wx)
  case first=>
   by_cases h1:m.node=v.self
   ·have hb:(m.node != v.self)=false:=by simpa using h1
    have hd:=Lib.hid (show osAns v m=false by unfold osAns;rw [hb];rfl)
    clear h1
    go_wp2_with fail
    go_meet
    exact ⟨by rw [hd.out],rfl⟩
   ·have hb:(m.node != v.self)=true:=by simpa using h1
    by_cases h2:1≤m.node
    ·have hd:=Lib.hid (show osAns v m=true by unfold osAns;rw [hb,decide_eq_true h2];rfl)
     clear h1
     go_wp2_with fail
     go_meet
     exact ⟨by rw [hd.out],rfl⟩
    ·have hd:=Lib.hid (show osAns v m=false by unfold osAns;rw [hb,decide_eq_false h2];rfl)
     clear h1
     go_wp2_with fail
     go_meet
     exact ⟨by rw [hd.out],rfl⟩
  case rest=>
   obtain ⟨rfl,rfl⟩:=hcut
   obtain ⟨ans,hans⟩:∃ b,b=osAns v m:=⟨_,rfl⟩
   rw [←hans]
   have HANS:=Lib.hid hans
   clear hans
   cases ans
   case false=>
    have hwant:osWant v m d2=([],d2):=by unfold osWant;rw [←HANS.out];rfl
    have HWN:=Lib.hid hwant
    clear hwant n1 v0 p0
    have CK:=Lib.hid (fun w (f:Fr (pblk p) W w) (hD:DrawV w p d2)=>mixKnow_any v x a c m.nodes p d2 w (HV.out w f) hD HSEP.out (HN.out w f) HLP.out)
    unfold VEnd at CK
    have HWV:=Lib.hid (show (osWant v m d2).2=d2 by rw [HWN.out])
    obtain ⟨v',hv'⟩:∃ v',v'=(kAll v m.nodes d2).1:=⟨_,rfl⟩
    obtain ⟨d5,hd5⟩:∃ d5,d5=(kAll v m.nodes d2).2:=⟨_,rfl⟩
    rw [←hv', ←hd5] at CK
    have HV':=Lib.hid hv'
    have HD5:=Lib.hid hd5
    clear hv' hd5
    have m4:=(Bx.of_block M3.out) 4 _ rfl
    go_upto_region 9 with fail
    refine wp_region_lit ?_
    refine wpList_load_mid (by rfl) 60 _ (by rfl) W.heap.size 0 (by rfl) (Array.toList (v.arr x)) _ (blk_range B3.out) Tryz.underlying60 rfl Tryz.infoView ?_
    go_wp2_with fail
    refine (CK.out _ F3.out D3.out).mono ?_
    rintro e w20 ⟨y',rfl,h20,d20,f20,k20⟩
    have F20:=Lib.hid f20
    have R20:=Lib.hid (blk_keep f20 R3.out (fun hk=>by have:=HP.out _ hk;omega))
    have H20:=Lib.hid h20
    have D20:=Lib.hid d20
    have hsn:=F3.out.size
    have hrn:W.heap.size+2<w3.heap.size:=(Array.getElem?_eq_some_iff.1 R3.out).1
    have K20:=Lib.hid (k20.mono (a:=W) hsn)
    have AP20:=Lib.hid (HAP.out.next k20 (fun k hk=>by omega))
    clear h20 d20 f20 k20 CK m4
    go_wp2_with (refine wpList_storeW (b:=W.heap.size+2) (vs:=v'.arr y') R20.out (by rfl) 60 _ _ (by rfl) (by rfl) (by rfl) rfl Tryz.infoView (by rw [←Array.all_toList];rfl) ?_)
    intro w21 f21 b21
    have L8:Hid ((loadVar 60 ⟨W.heap.size+1+1,0,none⟩).run Tryz.prog w21= .ok (.agg (v'.arr y')) w21):=Lib.hid (run_loadVar_mid w21 (W.heap.size+1+1) 0 60 (Array.toList (v'.arr y')) _ (blk_range b21) Tryz.underlying60 rfl Tryz.infoView)
    have A8:Hid ((asAddr (.pointer (some ⟨W.heap.size+1+1,0,none⟩))).run Tryz.prog w21= .ok ⟨W.heap.size+1+1,0,none⟩ w21):=Lib.hid (by simp [go_sem])
    have H21:=Lib.hid (H20.out.keepA f21 AP20.out)
    have D21:=Lib.hid (D20.out.keepGE (B:=W.heap.size) f21 (fun k hk=>by omega) HP.out)
    have F21:=Lib.hid (show Fr (pblk p) W w21 from Fr.trans (Fr.trans F3.out F20.out (fun _ h=> .inl h)) f21 (fun k hk=> .inr (by omega)))
    clear f21 b21 R20 H20 D20 AP20 F20 B3 M3 R3 F3 D3 hsn hrn
    go_wp2_with fail
    refine bodyPost_ret (v:= .tuple #[.agg (v'.arr y'), .slice none 0 0]) (by simp [results,Tryz.results53,Sem.run_bind,Result.andThen_ok,L8.out,A8.out]) rfl ?_
    unfold ShufEnd
    rw [←HMS.out,if_neg (by simp)]
    unfold OsHere
    simp only
    rw [HWN.out]
    simp only
    rw [←HV'.out, ←HD5.out]
    exact ⟨y',_,rfl,H21.out,D21.out,K20.out,F21.out,fun _=>rfl,fun h=>absurd h (by rw [←HANS.out];simp)⟩
   case true=>
    have hwant:osWant v m d2=someS v.pas.length d2 v.pas m.nodes.length:=by unfold osWant;rw [←HANS.out];rfl
    have HWN:=Lib.hid hwant
    have hd2r:=D3.out.range
    have CA:=Lib.hid (fun w (f:Fr (pblk p) W w)=>setAll_any x.pa x.pc v.pas v.pm w (HV.out w f).pas HG.out.pas)
    have CSm:=Lib.hid (fun (a:Option Addr) (cap:Nat) (w:World) (hD:DrawV w p d2) (hs:SlA w a v.pas.length cap (v.pas.map (Value.int .i64)))=>someV_int p d2 a cap v.pas m.nodes.length w hD hs (by have:=HG.out.pas.len;omega) (by omega))
    have hwl:(someS v.pas.length d2 v.pas m.nodes.length).1.length≤64:=Nat.le_trans (someS_le hd2r) HG.out.pas.len
    generalize (someS v.pas.length d2 v.pas m.nodes.length)=wd at HWN CSm hwl
    obtain ⟨want,d3⟩:=wd
    simp only at CSm hwl
    haveI:Nonempty (WC (Fr (pblk p) w3)):=⟨⟨w3,Fr.refl _ _⟩⟩
    have z3:∀ z':WC (Fr (pblk p) w3),z'.val.cell? ⟨W.heap.size,3,none⟩=some (.slice x.pa v.pas.length x.pc):=fun z'=>z'.ok.cell ((Bx.of_block B3.out) 3 _ rfl) (fun hk=>by have:=HP.out _ hk;simp only at this;omega)
    have z4:∀ z':WC (Fr (pblk p) w3),z'.val.cell? ⟨W.heap.size,4,none⟩=some (.int .i64 v.pm):=fun z'=>z'.ok.cell ((Bx.of_block B3.out) 4 _ rfl) (fun hk=>by have:=HP.out _ hk;simp only at this;omega)
    have m4:∀ z':WC (Fr (pblk p) w3),z'.val.cell? ⟨W.heap.size+1,4,none⟩=some (.slice a m.nodes.length c):=fun z'=>z'.ok.cell ((Bx.of_block M3.out) 4 _ rfl) (fun hk=>by have:=HP.out _ hk;simp only at this;omega)
    clear hwant hd2r n1 v0 p0
    go_upto_region 7 with fail
    refine wp_region_lastO 8 [3,7] [] [0,1,2,3,4,5,6,7] (fun w'=>∃ z':WC (Fr (pblk p) w3),w'=z'.val) (by kernel_rfl) (by kernel_rfl) (fun c a w d v h=>by cases d<;>exact h) (fun c a w d v h=>by cases d<;>exact h) ⟨⟨w3.drew,(Fr.refl _ _).drew⟩,rfl⟩ ?_
    simp only [List.take]
    refine wpT_q (by simp only [gtA,gtZ]<;>rfl) (by rfl) (by rfl) ?_
    go_big_quiet_step (fail)
    refine wpQuiet_nil ?_
    repeat (refine wpT_q (by simp only [gtA,gtS,gtZ]<;>rfl) (by rfl) (by rfl) ?_;go_big_quiet_step (fail);refine wpQuiet_nil ?_)
    refine wpT_e (by simp only [gtA,gtS,gtZ]<;>rfl) (by rfl) ?_
    go_wp2_with fail
    refine (CA.out _ (F3.out.drew)).mono ?_
    rintro e w5 ⟨vv,rfl,ho,hb⟩
    obtain ⟨a4,c4,rfl,h4, -⟩:=SlA.of_own ho
    have g5:Gr w3 w5:=Gr.trans ((Fr.refl _ _).drew) (Gr.of_below hb)
    have G5:=Lib.hid g5
    have H4:=Lib.hid h4
    have D5:=Lib.hid (D3.out.keep g5)
    clear ho hb h4 g5 CA
    go_wp2_with fail
    refine ⟨⟨⟨w5,G5.out.mono (fun _ _ h=>h.elim)⟩,rfl⟩,?_⟩
    repeat (refine wpT_q (by simp only [gtA,gtS,gtZ]<;>rfl) (by rfl) (by rfl) ?_;go_big_quiet_step (fail);refine wpQuiet_nil ?_)
    refine wpT_e (by simp only [gtA,gtS,gtZ]<;>rfl) (by rfl) ?_
    go_wp2_with fail
    refine (CSm.out a4 c4 _ D5.out H4.out).mono ?_
    rintro e w6 ⟨v7,rfl,ho,hd6,f6⟩
    obtain ⟨a7,c7,rfl,h7,h7p, -⟩:=SlA.of_own ho
    have f6':Fr (pblk p) w3 w6:=Fr.trans (Fr.mono (T:=pblk p) G5.out (fun _ _ h=>h.elim)) f6 (fun _ h=> .inl h)
    have B6:=Lib.hid (blk_keep f6' B3.out (fun hk=>by have:=HP.out _ hk;omega))
    have M6:=Lib.hid (blk_keep f6' M3.out (fun hk=>by have:=HP.out _ hk;omega))
    have R6:=Lib.hid (blk_keep f6' R3.out (fun hk=>by have:=HP.out _ hk;omega))
    have F6':=Lib.hid f6'
    have F6:=Lib.hid (Fr.trans F3.out f6' (fun _ h=> .inl h))
    have D6:=Lib.hid hd6
    have H7:=Lib.hid h7
    have sz5:=G5.out.size
    have hr3:W.heap.size+2<w3.heap.size:=(Array.getElem?_eq_some_iff.1 R3.out).1
    have H7P:=Lib.hid (fun q (hq:a7=some q)=>show W.heap.size+2<q.block by have:=(h7p q hq).1;omega)
    have H7L:=Lib.hid (fun q (hq:a7=some q)=>show q.block<w6.heap.size from (h7p q hq).2.1)
    have t1:=h7.le
    have t2:=h7.max
    clear ho hd6 f6 f6' h7 h7p G5 H4 D5 CSm B3 M3 R3 F3 D3 sz5
    go_wp2_with fail
    refine ⟨⟨⟨w6,F6'.out⟩,rfl⟩,?_⟩
    clear z3 z4 m4 this
    refine wpT_nil ?_
    simp only [lastQ,List.drop]
    have n1:=(Bx.of_block M6.out) 1 _ rfl
    go_upto_region 8 with fail
    refine wp_region_lit ?_
    iterate 9 go_step
    refine wpList_bldMixed (i0:=8) (sa:=a7) (sn:=want.length) (sc:=c7) (by rfl) (by rfl) ?_
    refine wpList_bldOut (i0:=m.node) (by rfl) (by rfl) ?_
    refine wpList_bldOuts (by rfl) ?_
    obtain ⟨w7,hw7⟩:∃ w7,w7=w6.alloc (.cells (outArr m.node ⟨8,0,0,false,want⟩ a7 c7) 81):=⟨_,rfl⟩
    have f7:Gr w6 w7:=by rw [hw7];exact (Fr.refl _ _).alloc _
    have b7:w7.heap[w6.heap.size]?=some (.cells (outArr m.node ⟨8,0,0,false,want⟩ a7 c7) 81 (0,0)):=by rw [hw7,heap_alloc_if,if_pos rfl]
    rw [←hw7]
    obtain ⟨go,hgo⟩:∃ g,g=w6.heap.size:=⟨_,rfl⟩
    rw [←hgo] at b7 ⊢
    have H7G:=Lib.hid (fun q (hq:a7=some q)=>show q.block<go by rw [hgo];exact H7L.out q hq)
    clear H7L
    have hgoW:W.heap.size+2<go:=by rw [hgo];exact (Array.getElem?_eq_some_iff.1 R6.out).1
    have hgoP:∀ k,pblk p k→k<go:=fun k hk=>by have:=HP.out k hk;omega
    have B7:=Lib.hid (blk_keep f7 B6.out (fun h=>h))
    have M7:=Lib.hid (blk_keep f7 M6.out (fun h=>h))
    have R7:=Lib.hid (blk_keep f7 R6.out (fun h=>h))
    have F7:=Lib.hid (Fr.trans F6.out f7 (fun _ h=>h.elim))
    have D7:=Lib.hid (D6.out.keep f7)
    have H77:=Lib.hid (H7.out.keep f7 (fun _ _ h=>h))
    have BO:=Lib.hid b7
    have HGP:=Lib.hid hgoP
    clear hw7 f7 b7 hgo hgoP B6 M6 R6 F6 F6' D6 H7 n1
    have CK:=Lib.hid (fun w (f:Fr (pblk p) W w) (hD:DrawV w p d3)=>mixKnow_any v x a c m.nodes p d3 w (HV.out w f) hD HSEP.out (HN.out w f) HLP.out)
    unfold VEnd at CK
    have HWV:=Lib.hid (show (osWant v m d2).2=d3 by rw [HWN.out])
    obtain ⟨v',hv'⟩:∃ v',v'=(kAll v m.nodes d3).1:=⟨_,rfl⟩
    obtain ⟨d5,hd5⟩:∃ d5,d5=(kAll v m.nodes d3).2:=⟨_,rfl⟩
    rw [←hv', ←hd5] at CK
    have HV':=Lib.hid hv'
    have HD5:=Lib.hid hd5
    clear hv' hd5
    have m4:=(Bx.of_block M7.out) 4 _ rfl
    go_upto_region 9 with fail
    refine wp_region_lit ?_
    refine wpList_load_mid (by rfl) 60 _ (by rfl) W.heap.size 0 (by rfl) (Array.toList (v.arr x)) _ (blk_range B7.out) Tryz.underlying60 rfl Tryz.infoView ?_
    go_wp2_with fail
    refine (CK.out _ F7.out D7.out).mono ?_
    rintro e w20 ⟨y',rfl,h20,d20,f20,k20⟩
    have F20:=Lib.hid f20
    have R20:=Lib.hid (blk_keep f20 R7.out (fun hk=>by have:=HP.out _ hk;omega))
    have H20:=Lib.hid h20
    have D20:=Lib.hid d20
    have hsn:=F7.out.size
    have hrn:W.heap.size+2<w7.heap.size:=(Array.getElem?_eq_some_iff.1 R7.out).1
    have KP20:=Lib.hid (show VwPast go v x v' y' from ⟨fun q hq=>(k20.1 q hq).imp (fun h=>⟨h.1,h.2.symm⟩) (fun h=>by have h1:=(Array.getElem?_eq_some_iff.1 BO.out).1;omega),fun q hq=>(k20.2 q hq).imp (fun h=>⟨h.1,h.2.symm⟩) (fun h=>by have h1:=(Array.getElem?_eq_some_iff.1 BO.out).1;omega)⟩)
    have K20:=Lib.hid (k20.mono (a:=W) hsn)
    have AP20:=Lib.hid (HAP.out.next k20 (fun k hk=>by omega))
    clear h20 d20 f20 k20 CK m4
    go_wp2_with (refine wpList_storeW (b:=W.heap.size+2) (vs:=v'.arr y') R20.out (by rfl) 60 _ _ (by rfl) (by rfl) (by rfl) rfl Tryz.infoView (by rw [←Array.all_toList];rfl) ?_)
    intro w21 f21 b21
    have L8:Hid ((loadVar 60 ⟨W.heap.size+1+1,0,none⟩).run Tryz.prog w21= .ok (.agg (v'.arr y')) w21):=Lib.hid (run_loadVar_mid w21 (W.heap.size+1+1) 0 60 (Array.toList (v'.arr y')) _ (blk_range b21) Tryz.underlying60 rfl Tryz.infoView)
    have A8:Hid ((asAddr (.pointer (some ⟨W.heap.size+1+1,0,none⟩))).run Tryz.prog w21= .ok ⟨W.heap.size+1+1,0,none⟩ w21):=Lib.hid (by simp [go_sem])
    have H21:=Lib.hid (H20.out.keepA f21 AP20.out)
    have D21:=Lib.hid (D20.out.keepGE (B:=W.heap.size) f21 (fun k hk=>by omega) HP.out)
    have F21:=Lib.hid (show Fr (pblk p) W w21 from Fr.trans (Fr.trans F7.out F20.out (fun _ h=> .inl h)) f21 (fun k hk=> .inr (by omega)))
    have BO21:=Lib.hid (blk_keep f21 (blk_keep F20.out BO.out (fun hk=>by have:=HGP.out _ hk;omega)) (by omega))
    have HW21:=Lib.hid ((H77.out.keep F20.out (fun q hq hk=>by have:=H7P.out q hq;have:=HP.out _ hk;omega)).keep f21 (fun q hq hk=>by have:=H7P.out q hq;omega))
    clear f21 b21 R20 H20 D20 AP20 F20 B7 M7 R7 F7 D7 hsn hrn BO H77
    go_wp2_with fail
    refine bodyPost_ret (v:= .tuple #[.agg (v'.arr y'), .slice (some ⟨go,0,none⟩) 1 1]) (by simp [results,Tryz.results53,Sem.run_bind,Result.andThen_ok,L8.out,A8.out]) rfl ?_
    unfold ShufEnd
    rw [←HMS.out,if_neg (by simp)]
    unfold OsHere
    simp only
    rw [HWN.out]
    simp only
    rw [←HV'.out, ←HD5.out]
    exact ⟨y',_,rfl,H21.out,D21.out,K20.out,F21.out,fun h=>absurd h (by rw [←HANS.out];simp),fun _=>⟨go,a7,c7,rfl,by omega,BO21.out,HW21.out,fun q hq=>by have:=H7P.out q hq;have:=H7G.out q hq;omega,KP20.out⟩⟩
end Go.Proofs.YtelepohdfcjnfaaGreat
