/-
  Package nodeset: Add.
-/
import Derived.Test.YtelepohdfcjnfaaGreatZSet
import Derived.Test.YtelepohdfcjnfaaGreatZRegionW
namespace Go.Proofs.YtelepohdfcjnfaaGreat
set_option maxHeartbeats 4000000
set_option maxRecDepth 100000
open Go.RowKit Go.Proofs
theorem setAdd_in (a:Option Addr) (cap:Nat) (l:List Int) (m n:Int) (w:World) (hs:SlA w a l.length cap (ints l)) (hg:Good l m) (h:has l n=true):
  Calls Tryz.prog 118 #[setV a l.length cap m, .int .i64 n] w (SetOut2 a l m true w):=by
 obtain ⟨w1,hw1⟩:∃ w1,w1=(w.alloc (.cells #[.slice a l.length cap, .int .i64 m] 58)).alloc (.cells #[.slice none 0 0, .int .i64 0] 58):=⟨_,rfl⟩
 have hf1:Gr w w1:=by rw [hw1];exact ((Fr.refl _ _).alloc _).alloc _
 have hb:=bsearch_any a cap l n w1 (hs.keep hf1 (fun _ _ h=>h)) hg.le (by have:=hg.len;omega)
 rw [h] at hb
 have HB:=Lib.hid hb;clear hb
 have F1:=Lib.hid hf1;clear hf1
 have HS:=Lib.hid hs;clear hs hg h
 unfold setV
 go_enter Tryz.func118,Tryz.ntmps118
 go_wp2_with fail
 rw [←hw1]
 refine HB.out.mono ?_
 rintro e w2 ⟨rfl,q,rfl⟩
 have i0:w1.cell? ⟨w.heap.size,0,none⟩=some (.slice a l.length cap):=by rw [World.cell?,hw1,heap_alloc_if',if_neg (by simp),heap_alloc_if',if_pos rfl];rfl
 have i1:w1.cell? ⟨w.heap.size,1,none⟩=some (.int .i64 m):=by rw [World.cell?,hw1,heap_alloc_if',if_neg (by simp),heap_alloc_if',if_pos rfl];rfl
 have j0:w1.cell? ⟨w.heap.size+1,0,none⟩=some (.slice none 0 0):=by rw [World.cell?,hw1,heap_alloc_if',if_pos (by simp)];rfl
 have j1:w1.cell? ⟨w.heap.size+1,1,none⟩=some (.int .i64 0):=by rw [World.cell?,hw1,heap_alloc_if',if_pos (by simp)];rfl
 have z0:w1.frozen? ⟨w.heap.size+1,0,none⟩=false:=by rw [World.frozen?,hw1,heap_alloc_if',if_pos (by simp)];rfl
 have z1:w1.frozen? ⟨w.heap.size+1,1,none⟩=false:=by rw [World.frozen?,hw1,heap_alloc_if',if_pos (by simp)];rfl
 clear hw1 HB
 go_wp2_with fail
 refine bodyPost_ret (v:= .tuple #[.agg #[.slice a l.length cap, .int .i64 m], .bool true]) (by simp [results,Tryz.results118,go_sem,j0,j1]) rfl ?_
 have hf2:Fr (fun k=>w.heap.size≤k) w (((w1.drewN q).setCell ⟨w.heap.size+1,0,none⟩ (.slice a l.length cap)).setCell ⟨w.heap.size+1,1,none⟩ (.int .i64 m)):=(((F1.out.mono (T:=fun k=>w.heap.size≤k) (fun _ _ h=>h.elim)).drewN q).setCell (p:=⟨w.heap.size+1,0,none⟩) (.inl (by simp)) _).setCell (p:=⟨w.heap.size+1,1,none⟩) (.inl (by simp)) _
 have hgr:Gr w _:=hf2.mono (fun k hk h=>by omega)
 exact ⟨_,_,rfl,HS.out.keep hgr (fun _ _ h=>h),hgr,fun p hp=> .inl hp⟩
theorem fr_two (a b:World) (k:Nat) (x y:Value) (h:Gr a b):Fr (fun i=>i=k) a ((b.setCell ⟨k,0,none⟩ x).setCell ⟨k,1,none⟩ y):=by
 have h0:Fr (fun i=>i=k) a b:=Fr.mono (S:=fun _=>False) h (fun _ _ h=>h.elim)
 have h1:Fr (fun i=>i=k) a (b.setCell ⟨k,0,none⟩ x):=Fr.setCell (S:=fun i=>i=k) h0 (p:=⟨k,0,none⟩) (.inl rfl) x
 exact Fr.setCell (S:=fun i=>i=k) h1 (p:=⟨k,1,none⟩) (.inl rfl) y
theorem Fr.undrew1 {S:Nat→Prop} {a w:World} (h:Fr S a.drew w):Fr S a w:=⟨h.os,h.tape,h.output,h.size,h.block⟩
theorem cloneG (a:Option Addr) (cap:Nat) (l:List Int) (w:World) (hs:SlA w a l.length cap (ints l)) (hn:l.length≤17592186044416):
  Calls Tryz.prog 31 #[.slice a l.length cap] w fun e w'=>∃ v,e= .returned v∧w'.ownsRow w.heap.size 3 1 v l.length (ints l)∧Gr w w':=
 (clone_int a l.length cap (ints l) w hs (by simp) (one_map _ _ (fun _=>rfl)) (by omega)).mono (by rintro e w' ⟨v,he,ho,_,hb⟩;exact ⟨v,he,ho,Gr.of_below hb⟩)
theorem setAdd_new (a:Option Addr) (cap:Nat) (l:List Int) (m n:Int) (w:World) (hs:SlA w a l.length cap (ints l)) (hg:Good l m) (h:has l n=false) (h1:1≤n) (h2:n≤65535) (h3:(l.length:Int)<m):
  Calls Tryz.prog 118 #[setV a l.length cap m, .int .i64 n] w (SetOut2 none (ins l n) m true w):=by
 obtain ⟨w1,hw1⟩:∃ w1,w1=(w.alloc (.cells #[.slice a l.length cap, .int .i64 m] 58)).alloc (.cells #[.slice none 0 0, .int .i64 0] 58):=⟨_,rfl⟩
 have hf1:Gr w w1:=by rw [hw1];exact ((Fr.refl _ _).alloc _).alloc _
 have hb:=bsearch_any a cap l n w1 (hs.keep hf1 (fun _ _ h=>h)) hg.le (by have:=hg.len;omega)
 have hlen:=hg.len
 rw [h] at hb
 have HB:=Lib.hid hb;clear hb
 have F1:=Lib.hid hf1;clear hf1
 have HS:=Lib.hid hs;clear hs hg h
 unfold setV
 go_enter Tryz.func118,Tryz.ntmps118
 go_wp2_with fail
 rw [←hw1]
 refine HB.out.mono ?_
 rintro e w2 ⟨rfl,q,rfl⟩
 have i0:w1.cell? ⟨w.heap.size,0,none⟩=some (.slice a l.length cap):=by rw [World.cell?,hw1,heap_alloc_if',if_neg (by simp),heap_alloc_if',if_pos rfl];rfl
 have i1:w1.cell? ⟨w.heap.size,1,none⟩=some (.int .i64 m):=by rw [World.cell?,hw1,heap_alloc_if',if_neg (by simp),heap_alloc_if',if_pos rfl];rfl
 have j0:w1.cell? ⟨w.heap.size+1,0,none⟩=some (.slice none 0 0):=by rw [World.cell?,hw1,heap_alloc_if',if_pos (by simp)];rfl
 have j1:w1.cell? ⟨w.heap.size+1,1,none⟩=some (.int .i64 0):=by rw [World.cell?,hw1,heap_alloc_if',if_pos (by simp)];rfl
 have z0:w1.frozen? ⟨w.heap.size+1,0,none⟩=false:=by rw [World.frozen?,hw1,heap_alloc_if',if_pos (by simp)];rfl
 have z1:w1.frozen? ⟨w.heap.size+1,1,none⟩=false:=by rw [World.frozen?,hw1,heap_alloc_if',if_pos (by simp)];rfl
 clear hw1 HB
 go_wp2_with fail
 refine (setFull_any a l.length cap m _).mono ?_
 rintro e w3 ⟨rfl,hf3⟩
 have hd:decide (m≤(l.length:Int))=false:=by simpa using h3
 rw [hd]
 clear hd
 have i0':=hf3.cell (p:=⟨w.heap.size,0,none⟩) i0 (fun h=>h)
 have i1':=hf3.cell (p:=⟨w.heap.size,1,none⟩) i1 (fun h=>h)
 have j0':=hf3.cell (p:=⟨w.heap.size+1,0,none⟩) j0 (fun h=>h)
 have j1':=hf3.cell (p:=⟨w.heap.size+1,1,none⟩) j1 (fun h=>h)
 have z0':=(hf3.frozen (p:=⟨w.heap.size+1,0,none⟩) j0 (fun h=>h)).trans z0
 have z1':=(hf3.frozen (p:=⟨w.heap.size+1,1,none⟩) j1 (fun h=>h)).trans z1
 have F3:=Lib.hid (Gr.trans (F1.out.drewN q) hf3);clear hf3
 have HS3:=Lib.hid (HS.out.keep F3.out (fun _ _ h=>h))
 clear i0 i1 j0 j1 z0 z1
 go_wp2_with fail
 haveI:Nonempty (WC (Fr (fun k=>k=w.heap.size+1) w3)):=⟨⟨w3,Fr.refl _ _⟩⟩
 have y0:∀ z:WC (Fr (fun k=>k=w.heap.size+1) w3),z.val.cell? ⟨w.heap.size,0,none⟩=some (.slice a l.length cap):=fun z=>z.ok.cell i0' (by simp)
 have y1:∀ z:WC (Fr (fun k=>k=w.heap.size+1) w3),z.val.cell? ⟨w.heap.size,1,none⟩=some (.int .i64 m):=fun z=>z.ok.cell i1' (by simp)
 refine wp_region_plan [2,5,6,10] (Plan.seq [0,1,3,4,7,8] (.fork 2 5 (Plan.seq [5,6,9,10,11] .done) (Plan.seq [2,6,9,10,11] .done))) (fun w'=>∃ z:WC (Fr (fun k=>k=w.heap.size+1) w3),w'=z.val) (by kernel_rfl) (by kernel_rfl) (fun c a w d v h=>by cases d<;>exact h) (fun c a w d v h=>by cases d<;>exact h) ⟨⟨w3.drew,(Fr.refl _ _).drew⟩,rfl⟩ ?_
 simp only [Plan.seq,List.foldr]
 repeat (refine wpV_q (by simp only [gtA,gtS,gtZ]<;>rfl) (by rfl) (by rfl) ?_;go_big_quiet_step (fail);refine wpQuiet_nil ?_)
 have hlt3:=lt_of_cell j0'
 simp only at hlt3
 refine wpV_fork (by simp only [gtA,gtS,gtZ]<;>rfl) (by simp only [gtA,gtS,gtZ]<;>rfl) ?_ ?_
 ·go_wp2_with fail
  refine (cloneG a cap l _ (HS3.out.drewN 1) (by omega)).mono ?_
  rintro e w4 ⟨v,rfl,hown,hf4⟩
  have F4:=Lib.hid hf4.undrew1
  go_wp2_with fail
  refine ⟨⟨⟨w4,F4.out.mono (fun _ _ h=>h.elim)⟩,rfl⟩,?_⟩
  refine wpV_e (by simp only [gtA,gtS,gtZ]<;>rfl) (by rfl) ?_
  go_wp2_with fail
  refine ⟨⟨⟨_,(F4.out.alloc _).mono (fun _ _ h=>h.elim)⟩,rfl⟩,?_⟩
  refine wpV_e (by simp only [gtA,gtS,gtZ]<;>rfl) (by rfl) ?_
  go_wp2_with fail
  refine (insert_own _ v l (cnt l n) _ n _ rfl _ (hown.alloc _) (by rw [heap_alloc_if',if_pos rfl]) (fun h=>absurd (hown.lt _ h).2 (Nat.lt_irrefl _)) (cnt_le l n) (by omega)).mono ?_
  rintro e w6 ⟨ai,ci,rfl,hsi,hfi,hai⟩
  have hall:Gr w3 w6:=Fr.trans (F4.out.alloc _) hfi (fun k hk=> .inr (hown.lt _ hk).1)
  have AI:Hid (∀ p,ai=some p→¬ p.block=w.heap.size+1):=Lib.hid (fun p hp hk=>by
   rcases hai p hp with h | h
   ·have:=(hown.lt _ h).1;simp at this;omega
   ·have:=F4.out.size;simp at h;omega)
  have AJ:Hid (∀ p,ai=some p→w.heap.size≤p.block):=Lib.hid (fun p hp=>by
   have h3:=F3.out.size
   have h4:=F4.out.size
   rcases hai p hp with h | h
   ·have:=(hown.lt _ h).1;simp at this;omega
   ·try simp at h
    omega)
  clear hai
  have j0i:=hall.cell j0' (fun h=>h)
  have j1i:=hall.cell j1' (fun h=>h)
  have z0i:=(hall.frozen j0' (fun h=>h)).trans z0'
  have z1i:=(hall.frozen j1' (fun h=>h)).trans z1'
  have HALL:=Lib.hid hall
  have HSI:=Lib.hid hsi
  clear hall hsi hfi
  go_wp2_with fail
  refine ⟨⟨⟨w6,HALL.out.mono (fun _ _ h=>h.elim)⟩,rfl⟩,?_⟩
  repeat (refine wpV_q (by simp only [gtA,gtS,gtZ]<;>rfl) (by rfl) (by rfl) ?_;go_big_quiet_step (fail);refine wpQuiet_nil ?_)
  refine wpV_e (by simp only [gtA,gtS,gtZ]<;>rfl) (by rfl) ?_
  have FE:=Lib.hid (fr_two w3 w6 (w.heap.size+1) (.slice ai (l.length+1) ci) (.int .i64 m) HALL.out)
  go_wp2_with fail
  refine ⟨⟨⟨_,FE.out⟩,rfl⟩,?_⟩
  repeat (refine wpV_q (by simp only [gtA,gtS,gtZ]<;>rfl) (by rfl) (by rfl) ?_;go_big_quiet_step (fail);refine wpQuiet_nil ?_)
  refine wpV_done ?_
  clear y0 y1
  go_wp2_with fail
  refine bodyPost_ret (v:= .tuple #[.agg #[.slice ai (l.length+1) ci, .int .i64 m], .bool true]) (by simp [results,Tryz.results118,go_sem,j0i,j1i]) rfl ?_
  have hw:Fr (fun k=>w.heap.size≤k) w ((w6.setCell ⟨w.heap.size+1,0,none⟩ (.slice ai (l.length+1) ci)).setCell ⟨w.heap.size+1,1,none⟩ (.int .i64 m)):=(F3.out.mono (T:=fun k=>w.heap.size≤k) (fun _ _ h=>h.elim)).trans FE.out (fun k hk=> .inl (by have:k=w.heap.size+1:=hk;omega))
  refine ⟨ai,ci,by rw [ins_length],?_,hw.mono (fun k hk h=>by omega),fun p hp=> .inr (AJ.out p hp)⟩
  rw [ins_length]
  have hset:=fr_two w6 w6 (w.heap.size+1) (.slice ai (l.length+1) ci) (.int .i64 m) (Fr.refl _ _)
  exact HSI.out.keep hset (fun p hp=>AI.out p hp)
 ·go_wp2_with fail
  refine ⟨⟨⟨_,(((Fr.refl _ w3).drew).alloc _)⟩,rfl⟩,?_⟩
  refine wpV_e (by simp only [gtA,gtS,gtZ]<;>rfl) (by rfl) ?_
  go_wp2_with fail
  refine (cloneG a cap l _ ((HS3.out.drewN 1).keep ((Fr.refl (fun _=>False) _).alloc _) (fun _ _ h=>h)) (by omega)).mono ?_
  rintro e w4 ⟨v,rfl,hown,hf4⟩
  have F4:Hid (Gr w3 w4):=(((Fr.refl (fun _=>False) w3).drew).alloc _).trans hf4 (fun _ h=>h.elim)
  go_wp2_with fail
  refine ⟨⟨⟨w4,F4.out.mono (fun _ _ h=>h.elim)⟩,rfl⟩,?_⟩
  refine wpV_e (by simp only [gtA,gtS,gtZ]<;>rfl) (by rfl) ?_
  go_wp2_with fail
  refine (insert_own _ v l (cnt l n) _ n _ rfl _ hown (by rw [hf4.block _ (by simp) (fun h=>h),heap_alloc_if',if_pos (by simp)]) (fun h=>absurd (hown.lt _ h).1 (by simp)) (cnt_le l n) (by omega)).mono ?_
  rintro e w6 ⟨ai,ci,rfl,hsi,hfi,hai⟩
  have hall:Gr w3 w6:=Fr.trans F4.out hfi (fun k hk=> .inr (by have:=(hown.lt _ hk).1;simp at this;omega))
  have AI:Hid (∀ p,ai=some p→¬ p.block=w.heap.size+1):=Lib.hid (fun p hp hk=>by
   rcases hai p hp with h | h
   ·have:=(hown.lt _ h).1;simp at this;omega
   ·have:=F4.out.size;omega)
  have AJ:Hid (∀ p,ai=some p→w.heap.size≤p.block):=Lib.hid (fun p hp=>by
   have h3:=F3.out.size
   have h4:=F4.out.size
   rcases hai p hp with h | h
   ·have:=(hown.lt _ h).1;simp at this;omega
   ·try simp at h
    omega)
  clear hai
  have j0i:=hall.cell j0' (fun h=>h)
  have j1i:=hall.cell j1' (fun h=>h)
  have z0i:=(hall.frozen j0' (fun h=>h)).trans z0'
  have z1i:=(hall.frozen j1' (fun h=>h)).trans z1'
  have HALL:=Lib.hid hall
  have HSI:=Lib.hid hsi
  clear hall hsi hfi
  go_wp2_with fail
  refine ⟨⟨⟨w6,HALL.out.mono (fun _ _ h=>h.elim)⟩,rfl⟩,?_⟩
  repeat (refine wpV_q (by simp only [gtA,gtS,gtZ]<;>rfl) (by rfl) (by rfl) ?_;go_big_quiet_step (fail);refine wpQuiet_nil ?_)
  refine wpV_e (by simp only [gtA,gtS,gtZ]<;>rfl) (by rfl) ?_
  have FE:=Lib.hid (fr_two w3 w6 (w.heap.size+1) (.slice ai (l.length+1) ci) (.int .i64 m) HALL.out)
  go_wp2_with fail
  refine ⟨⟨⟨_,FE.out⟩,rfl⟩,?_⟩
  repeat (refine wpV_q (by simp only [gtA,gtS,gtZ]<;>rfl) (by rfl) (by rfl) ?_;go_big_quiet_step (fail);refine wpQuiet_nil ?_)
  refine wpV_done ?_
  clear y0 y1
  go_wp2_with fail
  refine bodyPost_ret (v:= .tuple #[.agg #[.slice ai (l.length+1) ci, .int .i64 m], .bool true]) (by simp [results,Tryz.results118,go_sem,j0i,j1i]) rfl ?_
  have hw:Fr (fun k=>w.heap.size≤k) w ((w6.setCell ⟨w.heap.size+1,0,none⟩ (.slice ai (l.length+1) ci)).setCell ⟨w.heap.size+1,1,none⟩ (.int .i64 m)):=(F3.out.mono (T:=fun k=>w.heap.size≤k) (fun _ _ h=>h.elim)).trans FE.out (fun k hk=> .inl (by have:k=w.heap.size+1:=hk;omega))
  refine ⟨ai,ci,by rw [ins_length],?_,hw.mono (fun k hk h=>by omega),fun p hp=> .inr (AJ.out p hp)⟩
  rw [ins_length]
  have hset:=fr_two w6 w6 (w.heap.size+1) (.slice ai (l.length+1) ci) (.int .i64 m) (Fr.refl _ _)
  exact HSI.out.keep hset (fun p hp=>AI.out p hp)
theorem setAdd_lo (a:Option Addr) (cap:Nat) (l:List Int) (m n:Int) (w:World) (hs:SlA w a l.length cap (ints l)) (hg:Good l m) (h:has l n=false) (h1:n<1):
  Calls Tryz.prog 118 #[setV a l.length cap m, .int .i64 n] w (SetOut2 a l m false w):=by
 obtain ⟨w1,hw1⟩:∃ w1,w1=(w.alloc (.cells #[.slice a l.length cap, .int .i64 m] 58)).alloc (.cells #[.slice none 0 0, .int .i64 0] 58):=⟨_,rfl⟩
 have hf1:Gr w w1:=by rw [hw1];exact ((Fr.refl _ _).alloc _).alloc _
 have hb:=bsearch_any a cap l n w1 (hs.keep hf1 (fun _ _ h=>h)) hg.le (by have:=hg.len;omega)
 rw [h] at hb
 have HB:=Lib.hid hb;clear hb
 have F1:=Lib.hid hf1;clear hf1
 have HS:=Lib.hid hs;clear hs hg h
 unfold setV
 go_enter Tryz.func118,Tryz.ntmps118
 go_wp2_with fail
 rw [←hw1]
 refine HB.out.mono ?_
 rintro e w2 ⟨rfl,q,rfl⟩
 have i0:w1.cell? ⟨w.heap.size,0,none⟩=some (.slice a l.length cap):=by rw [World.cell?,hw1,heap_alloc_if',if_neg (by simp),heap_alloc_if',if_pos rfl];rfl
 have i1:w1.cell? ⟨w.heap.size,1,none⟩=some (.int .i64 m):=by rw [World.cell?,hw1,heap_alloc_if',if_neg (by simp),heap_alloc_if',if_pos rfl];rfl
 have j0:w1.cell? ⟨w.heap.size+1,0,none⟩=some (.slice none 0 0):=by rw [World.cell?,hw1,heap_alloc_if',if_pos (by simp)];rfl
 have j1:w1.cell? ⟨w.heap.size+1,1,none⟩=some (.int .i64 0):=by rw [World.cell?,hw1,heap_alloc_if',if_pos (by simp)];rfl
 have z0:w1.frozen? ⟨w.heap.size+1,0,none⟩=false:=by rw [World.frozen?,hw1,heap_alloc_if',if_pos (by simp)];rfl
 have z1:w1.frozen? ⟨w.heap.size+1,1,none⟩=false:=by rw [World.frozen?,hw1,heap_alloc_if',if_pos (by simp)];rfl
 clear hw1 HB
 go_wp2_with fail
 refine bodyPost_ret (v:= .tuple #[.agg #[.slice a l.length cap, .int .i64 m], .bool false]) (by simp [results,Tryz.results118,go_sem,j0,j1]) rfl ?_
 have hf2:Fr (fun k=>w.heap.size≤k) w (((w1.drewN q).setCell ⟨w.heap.size+1,0,none⟩ (.slice a l.length cap)).setCell ⟨w.heap.size+1,1,none⟩ (.int .i64 m)):=(((F1.out.mono (T:=fun k=>w.heap.size≤k) (fun _ _ h=>h.elim)).drewN q).setCell (p:=⟨w.heap.size+1,0,none⟩) (.inl (by simp)) _).setCell (p:=⟨w.heap.size+1,1,none⟩) (.inl (by simp)) _
 have hgr:Gr w _:=hf2.mono (fun k hk h=>by omega)
 exact ⟨_,_,rfl,HS.out.keep hgr (fun _ _ h=>h),hgr,fun p hp=> .inl hp⟩
theorem setAdd_hi (a:Option Addr) (cap:Nat) (l:List Int) (m n:Int) (w:World) (hs:SlA w a l.length cap (ints l)) (hg:Good l m) (h:has l n=false) (h1:1≤n) (h2:65535<n):
  Calls Tryz.prog 118 #[setV a l.length cap m, .int .i64 n] w (SetOut2 a l m false w):=by
 obtain ⟨w1,hw1⟩:∃ w1,w1=(w.alloc (.cells #[.slice a l.length cap, .int .i64 m] 58)).alloc (.cells #[.slice none 0 0, .int .i64 0] 58):=⟨_,rfl⟩
 have hf1:Gr w w1:=by rw [hw1];exact ((Fr.refl _ _).alloc _).alloc _
 have hb:=bsearch_any a cap l n w1 (hs.keep hf1 (fun _ _ h=>h)) hg.le (by have:=hg.len;omega)
 rw [h] at hb
 have HB:=Lib.hid hb;clear hb
 have F1:=Lib.hid hf1;clear hf1
 have HS:=Lib.hid hs;clear hs hg h
 unfold setV
 go_enter Tryz.func118,Tryz.ntmps118
 go_wp2_with fail
 rw [←hw1]
 refine HB.out.mono ?_
 rintro e w2 ⟨rfl,q,rfl⟩
 have i0:w1.cell? ⟨w.heap.size,0,none⟩=some (.slice a l.length cap):=by rw [World.cell?,hw1,heap_alloc_if',if_neg (by simp),heap_alloc_if',if_pos rfl];rfl
 have i1:w1.cell? ⟨w.heap.size,1,none⟩=some (.int .i64 m):=by rw [World.cell?,hw1,heap_alloc_if',if_neg (by simp),heap_alloc_if',if_pos rfl];rfl
 have j0:w1.cell? ⟨w.heap.size+1,0,none⟩=some (.slice none 0 0):=by rw [World.cell?,hw1,heap_alloc_if',if_pos (by simp)];rfl
 have j1:w1.cell? ⟨w.heap.size+1,1,none⟩=some (.int .i64 0):=by rw [World.cell?,hw1,heap_alloc_if',if_pos (by simp)];rfl
 have z0:w1.frozen? ⟨w.heap.size+1,0,none⟩=false:=by rw [World.frozen?,hw1,heap_alloc_if',if_pos (by simp)];rfl
 have z1:w1.frozen? ⟨w.heap.size+1,1,none⟩=false:=by rw [World.frozen?,hw1,heap_alloc_if',if_pos (by simp)];rfl
 clear hw1 HB
 go_wp2_with fail
 refine bodyPost_ret (v:= .tuple #[.agg #[.slice a l.length cap, .int .i64 m], .bool false]) (by simp [results,Tryz.results118,go_sem,j0,j1]) rfl ?_
 have hf2:Fr (fun k=>w.heap.size≤k) w (((w1.drewN q).setCell ⟨w.heap.size+1,0,none⟩ (.slice a l.length cap)).setCell ⟨w.heap.size+1,1,none⟩ (.int .i64 m)):=(((F1.out.mono (T:=fun k=>w.heap.size≤k) (fun _ _ h=>h.elim)).drewN q).setCell (p:=⟨w.heap.size+1,0,none⟩) (.inl (by simp)) _).setCell (p:=⟨w.heap.size+1,1,none⟩) (.inl (by simp)) _
 have hgr:Gr w _:=hf2.mono (fun k hk h=>by omega)
 exact ⟨_,_,rfl,HS.out.keep hgr (fun _ _ h=>h),hgr,fun p hp=> .inl hp⟩
theorem setAdd_full (a:Option Addr) (cap:Nat) (l:List Int) (m n:Int) (w:World) (hs:SlA w a l.length cap (ints l)) (hg:Good l m) (h:has l n=false) (h1:1≤n) (h2:n≤65535) (h3:m≤(l.length:Int)):
  Calls Tryz.prog 118 #[setV a l.length cap m, .int .i64 n] w (SetOut2 a l m false w):=by
 obtain ⟨w1,hw1⟩:∃ w1,w1=(w.alloc (.cells #[.slice a l.length cap, .int .i64 m] 58)).alloc (.cells #[.slice none 0 0, .int .i64 0] 58):=⟨_,rfl⟩
 have hf1:Gr w w1:=by rw [hw1];exact ((Fr.refl _ _).alloc _).alloc _
 have hb:=bsearch_any a cap l n w1 (hs.keep hf1 (fun _ _ h=>h)) hg.le (by have:=hg.len;omega)
 rw [h] at hb
 have HB:=Lib.hid hb;clear hb
 have F1:=Lib.hid hf1;clear hf1
 have HS:=Lib.hid hs;clear hs hg h
 unfold setV
 go_enter Tryz.func118,Tryz.ntmps118
 go_wp2_with fail
 rw [←hw1]
 refine HB.out.mono ?_
 rintro e w2 ⟨rfl,q,rfl⟩
 have i0:w1.cell? ⟨w.heap.size,0,none⟩=some (.slice a l.length cap):=by rw [World.cell?,hw1,heap_alloc_if',if_neg (by simp),heap_alloc_if',if_pos rfl];rfl
 have i1:w1.cell? ⟨w.heap.size,1,none⟩=some (.int .i64 m):=by rw [World.cell?,hw1,heap_alloc_if',if_neg (by simp),heap_alloc_if',if_pos rfl];rfl
 have j0:w1.cell? ⟨w.heap.size+1,0,none⟩=some (.slice none 0 0):=by rw [World.cell?,hw1,heap_alloc_if',if_pos (by simp)];rfl
 have j1:w1.cell? ⟨w.heap.size+1,1,none⟩=some (.int .i64 0):=by rw [World.cell?,hw1,heap_alloc_if',if_pos (by simp)];rfl
 have z0:w1.frozen? ⟨w.heap.size+1,0,none⟩=false:=by rw [World.frozen?,hw1,heap_alloc_if',if_pos (by simp)];rfl
 have z1:w1.frozen? ⟨w.heap.size+1,1,none⟩=false:=by rw [World.frozen?,hw1,heap_alloc_if',if_pos (by simp)];rfl
 clear hw1 HB
 go_wp2_with fail
 refine (setFull_any a l.length cap m _).mono ?_
 rintro e w3 ⟨rfl,hf3⟩
 have hd:decide (m≤(l.length:Int))=true:=by simpa using h3
 rw [hd]
 clear hd
 have i0':=hf3.cell (p:=⟨w.heap.size,0,none⟩) i0 (fun h=>h)
 have i1':=hf3.cell (p:=⟨w.heap.size,1,none⟩) i1 (fun h=>h)
 have j0':=hf3.cell (p:=⟨w.heap.size+1,0,none⟩) j0 (fun h=>h)
 have j1':=hf3.cell (p:=⟨w.heap.size+1,1,none⟩) j1 (fun h=>h)
 have z0':=(hf3.frozen (p:=⟨w.heap.size+1,0,none⟩) j0 (fun h=>h)).trans z0
 have z1':=(hf3.frozen (p:=⟨w.heap.size+1,1,none⟩) j1 (fun h=>h)).trans z1
 have F3:=Lib.hid (Gr.trans (F1.out.drewN q) hf3);clear hf3
 clear i0 i1 j0 j1 z0 z1
 go_wp2_with fail
 refine bodyPost_ret (v:= .tuple #[.agg #[.slice a l.length cap, .int .i64 m], .bool false]) (by simp [results,Tryz.results118,go_sem,j0',j1']) rfl ?_
 have hf2:Fr (fun k=>w.heap.size≤k) w (((w3).setCell ⟨w.heap.size+1,0,none⟩ (.slice a l.length cap)).setCell ⟨w.heap.size+1,1,none⟩ (.int .i64 m)):=((F3.out.mono (T:=fun k=>w.heap.size≤k) (fun _ _ h=>h.elim)).setCell (p:=⟨w.heap.size+1,0,none⟩) (.inl (by simp)) _).setCell (p:=⟨w.heap.size+1,1,none⟩) (.inl (by simp)) _
 have hgr:Gr w _:=hf2.mono (fun k hk h=>by omega)
 exact ⟨_,_,rfl,HS.out.keep hgr (fun _ _ h=>h),hgr,fun p hp=> .inl hp⟩
theorem setAdd3_any (a:Option Addr) (cap:Nat) (l:List Int) (m n:Int) (w:World) (hs:SlA w a l.length cap (ints l)) (hg:Good l m):
  Calls Tryz.prog 118 #[setV a l.length cap m, .int .i64 n] w (SetOut3 a l (sAdd l m n) m (sAddOk l m n) w):=by
 unfold sAdd sAddOk
 by_cases h:has l n=true
 ·rw [if_pos h,h,Bool.true_or];exact (setAdd_in a cap l m n w hs hg h).mono (fun _ _ h=>h.same)
 ·rw [if_neg h]
  have h:=eq_false_of_ne_true h
  rw [h,Bool.false_or]
  by_cases h1:1≤n
  ·by_cases h2:n≤65535
   ·by_cases h3:(l.length:Int)<m
    ·rw [if_pos ⟨h1,h2,h3⟩,decide_eq_true h1,decide_eq_true h2,decide_eq_true h3];exact (setAdd_new a cap l m n w hs hg h h1 h2 h3).mono (fun _ _ h=>h.fresh)
    ·rw [if_neg (fun c=>h3 c.2.2),decide_eq_false h3,Bool.and_false];exact (setAdd_full a cap l m n w hs hg h h1 h2 (by omega)).mono (fun _ _ h=>h.same)
   ·rw [if_neg (fun c=>h2 c.2.1),decide_eq_false h2,Bool.and_false,Bool.false_and];exact (setAdd_hi a cap l m n w hs hg h h1 (by omega)).mono (fun _ _ h=>h.same)
  ·rw [if_neg (fun c=>h1 c.1),decide_eq_false h1,Bool.false_and,Bool.false_and];exact (setAdd_lo a cap l m n w hs hg h (by omega)).mono (fun _ _ h=>h.same)
end Go.Proofs.YtelepohdfcjnfaaGreat
