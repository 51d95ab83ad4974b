/-
  Package nodeset: Drop, But.
-/
import Derived.Test.YtelepohdfcjnfaaGreatZSetAdd
import Derived.Test.YtelepohdfcjnfaaGreatZRegionW
namespace Go.Proofs.YtelepohdfcjnfaaGreat
set_option maxHeartbeats 4000000
set_option maxRecDepth 100000
section
open Go.RowKit Go.Proofs
theorem delete_own (B:Nat) (v:Value) (l:List Int) (i:Nat) (z:Int) (hz:z=i) (w:World) (h:w.ownsRow B 3 1 v l.length (ints l)) (hi:i<l.length):
  Calls Tryz.prog 113 #[v, .int .i64 z, .int .i64 (z+1)] w fun e w'=>∃ a cap,e= .returned (.slice a (l.length-1) cap)∧SlA w' a (l.length-1) cap (ints (l.eraseIdx i))∧Fr (fun k=>v.ownBlock=some k) w w'∧(∀ p,a=some p→v.ownBlock=some p.block):=by
 subst hz
 obtain ⟨hl,h' | ⟨g,cap,cur,rfl,hB,hg,hnc,hcm,hcs,ht⟩⟩:=id h
 ·omega
 ·refine (delete_int B g cap i l w h hi).mono ?_
  rintro e w' ⟨rfl,hown,hf⟩
  have hlen:(l.eraseIdx i).length=l.length-1:=by rw [List.length_eraseIdx,if_pos hi]
  rw [hlen] at hown
  obtain ⟨a,c,hv,hs,_⟩:=SlA.of_own hown
  simp only [Value.slice.injEq,true_and] at hv
  obtain ⟨rfl,rfl⟩:=hv
  refine ⟨_,_,rfl,hs,hf.mono (fun k _ hk=>by simp [Value.ownBlock,show k=g from hk]),?_⟩
  intro p hp;cases hp;rfl
theorem setDrop_in (a:Option Addr) (cap:Nat) (l:List Int) (m n:Int) (w:World) (hs:SlA w a l.length cap (ints l)) (hg:Good l m) (h:has l n=true):
  Calls Tryz.prog 81 #[setV a l.length cap m, .int .i64 n] w (SetOut2 none (del l n) m true w):=by
 obtain ⟨w1,hw1⟩:∃ w1,w1=(w.alloc (.cells #[.slice a l.length cap, .int .i64 m] 58)).alloc (.cells #[.slice none 0 0, .int .i64 0] 58):=⟨_,rfl⟩
 have hf1:Gr w w1:=by rw [hw1];exact ((Fr.refl _ _).alloc _).alloc _
 have hb:=bsearch_any a cap l n w1 (hs.keep hf1 (fun _ _ h=>h)) hg.le (by have:=hg.len;omega)
 have hlen:=hg.len
 obtain ⟨hlt,_⟩:=cnt_at hg.up ((has_iff _ _).1 h)
 have HDL:=Lib.hid (del_length hg.up ((has_iff _ _).1 h))
 rw [h] at hb
 have HB:=Lib.hid hb;clear hb
 have F1:=Lib.hid hf1;clear hf1
 have HS:=Lib.hid hs;clear hs hg h
 unfold setV
 go_enter Tryz.func81,Tryz.ntmps81
 go_wp2_with fail
 rw [←hw1]
 refine HB.out.mono ?_
 rintro e w2 ⟨rfl,q,rfl⟩
 have i0:w1.cell? ⟨w.heap.size,0,none⟩=some (.slice a l.length cap):=by rw [World.cell?,hw1,heap_alloc_if',if_neg (by simp),heap_alloc_if',if_pos rfl];rfl
 have i1:w1.cell? ⟨w.heap.size,1,none⟩=some (.int .i64 m):=by rw [World.cell?,hw1,heap_alloc_if',if_neg (by simp),heap_alloc_if',if_pos rfl];rfl
 have j0:w1.cell? ⟨w.heap.size+1,0,none⟩=some (.slice none 0 0):=by rw [World.cell?,hw1,heap_alloc_if',if_pos (by simp)];rfl
 have j1:w1.cell? ⟨w.heap.size+1,1,none⟩=some (.int .i64 0):=by rw [World.cell?,hw1,heap_alloc_if',if_pos (by simp)];rfl
 have z0:w1.frozen? ⟨w.heap.size+1,0,none⟩=false:=by rw [World.frozen?,hw1,heap_alloc_if',if_pos (by simp)];rfl
 have z1:w1.frozen? ⟨w.heap.size+1,1,none⟩=false:=by rw [World.frozen?,hw1,heap_alloc_if',if_pos (by simp)];rfl
 clear hw1 HB
 obtain ⟨w3,hw3⟩:∃ w3,w3=w1.drewN q:=⟨_,rfl⟩
 rw [←hw3]
 have i0':w3.cell? ⟨w.heap.size,0,none⟩=some (.slice a l.length cap):=by rw [hw3];exact i0
 have i1':w3.cell? ⟨w.heap.size,1,none⟩=some (.int .i64 m):=by rw [hw3];exact i1
 have j0':w3.cell? ⟨w.heap.size+1,0,none⟩=some (.slice none 0 0):=by rw [hw3];exact j0
 have j1':w3.cell? ⟨w.heap.size+1,1,none⟩=some (.int .i64 0):=by rw [hw3];exact j1
 have z0':w3.frozen? ⟨w.heap.size+1,0,none⟩=false:=by rw [hw3];exact z0
 have z1':w3.frozen? ⟨w.heap.size+1,1,none⟩=false:=by rw [hw3];exact z1
 have F3:Hid (Gr w w3):=Lib.hid (by rw [hw3];exact F1.out.drewN q)
 have HS3:=Lib.hid (HS.out.keep F3.out (fun _ _ h=>h))
 clear i0 i1 j0 j1 z0 z1 hw3
 go_wp2_with fail
 haveI:Nonempty (WC (Fr (fun k=>k=w.heap.size+1) w3)):=⟨⟨w3,Fr.refl _ _⟩⟩
 have y0:∀ z:WC (Fr (fun k=>k=w.heap.size+1) w3),z.val.cell? ⟨w.heap.size,0,none⟩=some (.slice a l.length cap):=fun z=>z.ok.cell i0' (by simp)
 have y1:∀ z:WC (Fr (fun k=>k=w.heap.size+1) w3),z.val.cell? ⟨w.heap.size,1,none⟩=some (.int .i64 m):=fun z=>z.ok.cell i1' (by simp)
 refine wp_region_plan [2,6,10] (Plan.seq [0,1,3,4,5,7,8,2,6,9,10,11] .done) (fun w'=>∃ z:WC (Fr (fun k=>k=w.heap.size+1) w3),w'=z.val) (by kernel_rfl) (by kernel_rfl) (fun c a w d v h=>by cases d<;>exact h) (fun c a w d v h=>by cases d<;>exact h) ⟨⟨w3.drew,(Fr.refl _ _).drew⟩,rfl⟩ ?_
 simp only [Plan.seq,List.foldr]
 repeat (refine wpV_q (by simp only [gtA,gtS,gtZ]<;>rfl) (by rfl) (by rfl) ?_;go_big_quiet_step (fail);refine wpQuiet_nil ?_)
 have hlt3:=lt_of_cell j0'
 simp only at hlt3
 refine wpV_e (by simp only [gtA,gtS,gtZ]<;>rfl) (by rfl) ?_
 go_wp2_with fail
 refine (cloneG a cap l _ (HS3.out.drewN 1) (by omega)).mono ?_
 rintro e w4 ⟨v,rfl,hown,hf4⟩
 have F4:=Lib.hid hf4.undrew1
 go_wp2_with fail
 refine ⟨⟨⟨w4,F4.out.mono (fun _ _ h=>h.elim)⟩,rfl⟩,?_⟩
 refine wpV_e (by simp only [gtA,gtS,gtZ]<;>rfl) (by rfl) ?_
 go_wp2_with fail
 refine (delete_own _ v l (cnt l n) _ rfl _ hown hlt).mono ?_
 rintro e w6 ⟨ai,ci,rfl,hsi,hfi,hai⟩
 have hall:Gr w3 w6:=Fr.trans F4.out hfi (fun k hk=> .inr (hown.lt _ hk).1)
 have AI:Hid (∀ p,ai=some p→¬ p.block=w.heap.size+1):=Lib.hid (fun p hp hk=>by
  have:=(hown.lt _ (hai p hp)).1;simp at this;omega)
 have AJ:Hid (∀ p,ai=some p→w.heap.size≤p.block):=Lib.hid (fun p hp=>by
  have h3:=F3.out.size
  have:=(hown.lt _ (hai p hp)).1;simp at this;omega)
 clear hai
 have j0i:=hall.cell j0' (fun h=>h)
 have j1i:=hall.cell j1' (fun h=>h)
 have z0i:=(hall.frozen j0' (fun h=>h)).trans z0'
 have z1i:=(hall.frozen j1' (fun h=>h)).trans z1'
 have HALL:=Lib.hid hall
 have HSI:=Lib.hid hsi
 clear hall hsi hfi
 go_wp2_with fail
 refine ⟨⟨⟨w6,HALL.out.mono (fun _ _ h=>h.elim)⟩,rfl⟩,?_⟩
 repeat (refine wpV_q (by simp only [gtA,gtS,gtZ]<;>rfl) (by rfl) (by rfl) ?_;go_big_quiet_step (fail);refine wpQuiet_nil ?_)
 refine wpV_e (by simp only [gtA,gtS,gtZ]<;>rfl) (by rfl) ?_
 have FE:=Lib.hid (fr_two w3 w6 (w.heap.size+1) (.slice ai (l.length-1) ci) (.int .i64 m) HALL.out)
 go_wp2_with fail
 refine ⟨⟨⟨_,FE.out⟩,rfl⟩,?_⟩
 repeat (refine wpV_q (by simp only [gtA,gtS,gtZ]<;>rfl) (by rfl) (by rfl) ?_;go_big_quiet_step (fail);refine wpQuiet_nil ?_)
 refine wpV_done ?_
 clear y0 y1
 go_wp2_with fail
 refine bodyPost_ret (v:= .tuple #[.agg #[.slice ai (l.length-1) ci, .int .i64 m], .bool true]) (by simp [results,Tryz.results81,go_sem,j0i,j1i]) rfl ?_
 have hw:Fr (fun k=>w.heap.size≤k) w ((w6.setCell ⟨w.heap.size+1,0,none⟩ (.slice ai (l.length-1) ci)).setCell ⟨w.heap.size+1,1,none⟩ (.int .i64 m)):=(F3.out.mono (T:=fun k=>w.heap.size≤k) (fun _ _ h=>h.elim)).trans FE.out (fun k hk=> .inl (by have:k=w.heap.size+1:=hk;omega))
 refine ⟨ai,ci,by rw [HDL.out],?_,hw.mono (fun k hk h=>by omega),fun p hp=> .inr (AJ.out p hp)⟩
 rw [HDL.out]
 have hset:=fr_two w6 w6 (w.heap.size+1) (.slice ai (l.length-1) ci) (.int .i64 m) (Fr.refl _ _)
 exact HSI.out.keep hset (fun p hp=>AI.out p hp)
theorem setDrop_out (a:Option Addr) (cap:Nat) (l:List Int) (m n:Int) (w:World) (hs:SlA w a l.length cap (ints l)) (hg:Good l m) (h:has l n=false):
  Calls Tryz.prog 81 #[setV a l.length cap m, .int .i64 n] w (SetOut2 a l m false w):=by
 obtain ⟨w1,hw1⟩:∃ w1,w1=(w.alloc (.cells #[.slice a l.length cap, .int .i64 m] 58)).alloc (.cells #[.slice none 0 0, .int .i64 0] 58):=⟨_,rfl⟩
 have hf1:Gr w w1:=by rw [hw1];exact ((Fr.refl _ _).alloc _).alloc _
 have hb:=bsearch_any a cap l n w1 (hs.keep hf1 (fun _ _ h=>h)) hg.le (by have:=hg.len;omega)
 rw [h] at hb
 have HB:=Lib.hid hb;clear hb
 have F1:=Lib.hid hf1;clear hf1
 have HS:=Lib.hid hs;clear hs hg h
 unfold setV
 go_enter Tryz.func81,Tryz.ntmps81
 go_wp2_with fail
 rw [←hw1]
 refine HB.out.mono ?_
 rintro e w2 ⟨rfl,q,rfl⟩
 have i0:w1.cell? ⟨w.heap.size,0,none⟩=some (.slice a l.length cap):=by rw [World.cell?,hw1,heap_alloc_if',if_neg (by simp),heap_alloc_if',if_pos rfl];rfl
 have i1:w1.cell? ⟨w.heap.size,1,none⟩=some (.int .i64 m):=by rw [World.cell?,hw1,heap_alloc_if',if_neg (by simp),heap_alloc_if',if_pos rfl];rfl
 have j0:w1.cell? ⟨w.heap.size+1,0,none⟩=some (.slice none 0 0):=by rw [World.cell?,hw1,heap_alloc_if',if_pos (by simp)];rfl
 have j1:w1.cell? ⟨w.heap.size+1,1,none⟩=some (.int .i64 0):=by rw [World.cell?,hw1,heap_alloc_if',if_pos (by simp)];rfl
 have z0:w1.frozen? ⟨w.heap.size+1,0,none⟩=false:=by rw [World.frozen?,hw1,heap_alloc_if',if_pos (by simp)];rfl
 have z1:w1.frozen? ⟨w.heap.size+1,1,none⟩=false:=by rw [World.frozen?,hw1,heap_alloc_if',if_pos (by simp)];rfl
 clear hw1 HB
 go_wp2_with fail
 refine bodyPost_ret (v:= .tuple #[.agg #[.slice a l.length cap, .int .i64 m], .bool false]) (by simp [results,Tryz.results81,go_sem,j0,j1]) rfl ?_
 have hf2:Fr (fun k=>w.heap.size≤k) w (((w1.drewN q).setCell ⟨w.heap.size+1,0,none⟩ (.slice a l.length cap)).setCell ⟨w.heap.size+1,1,none⟩ (.int .i64 m)):=(((F1.out.mono (T:=fun k=>w.heap.size≤k) (fun _ _ h=>h.elim)).drewN q).setCell (p:=⟨w.heap.size+1,0,none⟩) (.inl (by simp)) _).setCell (p:=⟨w.heap.size+1,1,none⟩) (.inl (by simp)) _
 have hgr:Gr w _:=hf2.mono (fun k hk h=>by omega)
 exact ⟨_,_,rfl,HS.out.keep hgr (fun _ _ h=>h),hgr,fun p hp=> .inl hp⟩
theorem setDrop3_any (a:Option Addr) (cap:Nat) (l:List Int) (m n:Int) (w:World) (hs:SlA w a l.length cap (ints l)) (hg:Good l m):
  Calls Tryz.prog 81 #[setV a l.length cap m, .int .i64 n] w (SetOut3 a l (sDrop l n) m (has l n) w):=by
 unfold sDrop
 by_cases h:has l n=true
 ·rw [if_pos h,h];exact (setDrop_in a cap l m n w hs hg h).mono (fun _ _ h=>h.fresh)
 ·rw [if_neg h]
  have h:=eq_false_of_ne_true h
  rw [h];exact (setDrop_out a cap l m n w hs hg h).mono (fun _ _ h=>h.same)
end
section
open Go.RowKit Go.Proofs
def but (l ks:List Int):List Int:=kept (fun x=>has ks x) l
theorem setBut1_any (b:Nat) (a:Option Addr) (cap:Nat) (ks:List Int) (x:Int) (w:World) (hc:w.cell? ⟨b,0,none⟩=some (.slice a ks.length cap)) (hs:SlA w a ks.length cap (ints ks)):
  Calls Tryz.prog 114 #[.int .i64 x, .pointer (some ⟨b,0,none⟩)] w fun e w'=>e= .returned (.bool (has ks x))∧Gr w w':=by
 have HI:=Lib.hid (contains_any a cap ks x w hs);clear hs
 go_enter Tryz.func114,Tryz.ntmps114
 go_wp2_with fail
 refine HI.out.mono ?_
 rintro e w' ⟨rfl,rfl⟩
 go_wp2_with fail
 go_ret
 exact ⟨rfl,Fr.refl _ _⟩
theorem setButN_any (a:Option Addr) (cap:Nat) (l:List Int) (m:Int) (ka:Option Addr) (kcap:Nat) (ks:List Int) (w:World) (hs:SlA w a l.length cap (ints l)) (hk:SlA w ka ks.length kcap (ints ks)) (hg:Good l m):
  Calls Tryz.prog 84 #[setV a l.length cap m, .slice ka ks.length kcap] w (RowNew (but l ks) w):=by
 obtain ⟨w1,hw1⟩:∃ w1,w1=(w.alloc (.cells #[.slice a l.length cap, .int .i64 m] 58)).alloc (.cells #[.slice ka ks.length kcap] 42):=⟨_,rfl⟩
 have hf1:Gr w w1:=by rw [hw1];exact ((Fr.refl _ _).alloc _).alloc _
 have i1:w1.cell? ⟨w.heap.size+1,0,none⟩=some (.slice ka ks.length kcap):=by rw [World.cell?,hw1,heap_alloc_if',if_pos (by simp)];rfl
 have hlen:=hg.len
 have HA:=Lib.hid (setAll_any a cap l m w1 (hs.keep hf1 (fun _ _ h=>h)) hg)
 have HK:=Lib.hid (hk.keep hf1 (fun _ _ h=>h))
 have F1:=Lib.hid hf1
 have hsz:w1.heap.size=w.heap.size+2:=by rw [hw1];simp
 have HZ:=Lib.hid hsz
 clear hf1 hs hg hk hsz
 unfold setV
 go_enter Tryz.func84,Tryz.ntmps84
 go_wp2_with fail
 rw [←hw1]
 clear hw1
 refine HA.out.mono ?_
 rintro e w2 ⟨v,rfl,hown,hb⟩
 have F2:=Lib.hid (Gr.of_below hb)
 have HO:=Lib.hid hown
 have HP:Hid (PredI 114 #[.pointer (some ⟨w.heap.size+1,0,none⟩)] (fun x=>has ks x) (fun k=>v.ownBlock=some k) w2):=by
  refine Lib.hid ⟨fun args w=>by rfl,fun x w' hf=>?_⟩
  have F3:Gr w1 w':=Fr.trans F2.out hf (fun k hk=> .inr (hown.lt _ hk).1)
  exact setBut1_any _ ka kcap ks x w' (F3.cell i1 (fun h=>h)) (HK.out.keep F3 (fun _ _ h=>h))
 clear hown hb
 go_wp2_with fail
 refine (deleteFunc_any 114 _ _ _ v l _ HO.out HP.out (by omega)).mono ?_
 rintro e w3 ⟨a3,c3,rfl,hs3,hf3,hn3⟩
 have HN3:=Lib.hid (show ∀ q,a3=some q→w.heap.size≤q.block from fun q hq=>by have h1:=(HO.out.lt _ (hn3 q hq)).1;have h2:=HZ.out;omega)
 have hw:Gr w w3:=F1.out.trans (Fr.trans F2.out hf3 (fun k hk=> .inr (HO.out.lt _ hk).1))
 have HS3:=Lib.hid hs3
 have HW:=Lib.hid hw
 clear hs3 hf3 hw hn3
 go_wp2_with fail
 go_ret
 exact ⟨_,_,rfl,HS3.out,HN3.out,HW.out⟩
theorem setBut_any (a:Option Addr) (cap:Nat) (l:List Int) (m:Int) (ka:Option Addr) (kcap:Nat) (ks:List Int) (w:World) (hs:SlA w a l.length cap (ints l)) (hk:SlA w ka ks.length kcap (ints ks)) (hg:Good l m):
  Calls Tryz.prog 84 #[setV a l.length cap m, .slice ka ks.length kcap] w (RowOut (but l ks) w):=
 (setButN_any a cap l m ka kcap ks w hs hk hg).mono fun _ _ h=>h.row
end
end Go.Proofs.YtelepohdfcjnfaaGreat
