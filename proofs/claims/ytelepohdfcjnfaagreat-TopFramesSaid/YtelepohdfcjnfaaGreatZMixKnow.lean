/-
  mix.know: all nodes of a row are known; mix.OnMixed.
-/
import Derived.Test.YtelepohdfcjnfaaGreatZVarV
import Derived.Test.YtelepohdfcjnfaaGreatZMixStart
namespace Go.Proofs.YtelepohdfcjnfaaGreat
set_option maxHeartbeats 4000000
set_option maxRecDepth 100000
open Go.RowKit Go.Proofs
def kAll (v:Vw) (l ds:List Int):Vw×List Int:=l.foldl (fun s n=>vKnow s.1 n s.2) (v,ds)
theorem kAll_snoc (v:Vw) (l ds:List Int) (n:Int):kAll v (l++[n]) ds=vKnow (kAll v l ds).1 n (kAll v l ds).2:=by
 unfold kAll;rw [List.foldl_append];rfl
theorem kAll_good:∀ (l:List Int) (v:Vw) (ds:List Int),v.Good→(kAll v l ds).1.Good
 | [],_,_,h=>h
 | n::r,v,ds,h=>by
  have:kAll v (n::r) ds=kAll (vKnow v n ds).1 r (vKnow v n ds).2:=rfl
  rw [this];exact kAll_good r _ _ (vKnow_good h n ds)
theorem kAll_sane:∀ (l:List Int) (v:Vw) (ds:List Int),v.Good→v.Sane→(kAll v l ds).1.Sane
 | [],_,_,_,h=>h
 | n::r,v,ds,g,h=>by
  have:kAll v (n::r) ds=kAll (vKnow v n ds).1 r (vKnow v n ds).2:=rfl
  rw [this];exact kAll_sane r _ _ (vKnow_good g n ds) (vKnow_sane g h n ds)
theorem VwApart.sub' {S T:Nat→Prop} {v:Vw} {y:VwP} (h:VwApart S v y) (hT:∀ k,T k→S k):VwApart T v y:=⟨fun hl p hp ht=>h.1 hl p hp (hT _ ht),fun hl p hp ht=>h.2 hl p hp (hT _ ht)⟩
theorem DrawV.keepB' {w w':World} {b:Nat} {v:Vw} {y:VwP} {T:TypeId} {fz:Nat×Nat} {p:Value} {ds:List Int} (h:DrawV w p ds) (f:Fr (fun k=>k=b) w w') (hb:w.heap[b]?=some (.cells (v.arr y) T fz)):DrawV w' p ds:=(h.keepV f hb).1
structure KnSt (W:World) (q:Nat) (p:Value) (v0:Vw) (x0:VwP) (w:World) (v:Vw) (y:VwP) (ds:List Int):Prop where
 blk:w.heap[q]?=some (.cells (v.arr y) 60 (0,0))
 res:w.heap[q+1]?=some (.cells viewZ 60 (0,0))
 at_:VwAt w v y
 apart:VwApart (fun k=>k=q∨k=q+1) v y
 sep:VwSep p v y
 dr:DrawV w p ds
 from_:VwFrom W v0 x0 v y
 fr:Fr (pblk p) W w
theorem mixKnow_any (v:Vw) (x:VwP) (a:Option Addr) (c:Nat) (l:List Int) (p:Value) (ds:List Int) (W:World) (h:VwAt W v x) (hd:DrawV W p ds) (hsep:VwSep p v x) (hl:SlA W a l.length c (ints l)) (hlp:l≠[]→∀ q,a=some q→¬ pblk p q.block):
  Calls Tryz.prog 91 #[v.val x, .slice a l.length c,p] W (VEnd p v (kAll v l ds).1 (kAll v l ds).2 (fun l=> .agg l) W x):=by
 obtain ⟨w1,hw1⟩:∃ w1,w1=(W.alloc (.cells (v.arr x) 60)).alloc (.cells viewZ 60):=⟨_,rfl⟩
 have f1:Gr W w1:=by rw [hw1];exact ((Fr.refl _ _).alloc _).alloc _
 have hq0:W.heap.size≤W.heap.size:=Nat.le_refl _
 obtain ⟨q,hq⟩:∃ q,q=W.heap.size:=⟨_,rfl⟩
 have hpq:∀ k,pblk p k→k<q:=fun k hk=>by rw [hq];exact hd.lt k hk
 have K1:=Lib.hid (show KnSt W q p v x w1 v x ds from {
  blk:=by rw [hw1,hq,heap_alloc_if,if_neg (by simp),heap_alloc_if,if_pos rfl]
  res:=by rw [hw1,hq,heap_alloc_if,if_pos (by simp)]
  at_:=h.gr f1
  apart:=VwApart.new h (fun k hk=>by omega)
  sep:=hsep
  dr:=hd.keep f1
  from_:=VwFrom.refl _ _ _
  fr:=Fr.mono (T:=pblk p) f1 (fun _ _ h=>h.elim) })
 have hWq:W.heap.size≤q:=by omega
 have HW:=Lib.hid hw1
 have HQ:=Lib.hid hq
 have HP:=Lib.hid hpq
 have HL:=Lib.hid (fun w (f:Fr (pblk p) W w)=>show SlA w a l.length c (ints l) from hl.keepNE f hlp)
 have e1:=hl.le
 have e2:=hl.max
 clear hw1 f1 h hd hsep hl hlp hq hq0 hpq
 go_enter Tryz.func91,Tryz.ntmps91
 go_upto_region 1 with fail
 rw [←HW.out, ←HQ.out]
 clear HW HQ
 go_wp2_with fail
 go_loopw [11] (fun iv wr=>∃ (k:Nat) (y:VwP),iv= .int .i64 k∧k≤l.length∧KnSt W q p v x wr (kAll v (l.take k) ds).1 y (kAll v (l.take k) ds).2) (fun iv _=>l.length-(intOf iv).toNat)
 case atStart=>exact ⟨0,x,rfl,Nat.zero_le _,K1.out⟩
 case round=>
  clear K1
  obtain ⟨k,y,rfl,hk,hst⟩:=hrel
  have ST:=Lib.hid hst
  clear hst
  by_cases hlt:k<l.length
  ·obtain ⟨b,o,rfl,hcc⟩:=(HL.out _ ST.out.fr).int k hlt
   have hs:=kAll_snoc v (l.take k) ds l[k]
   rw [←List.take_succ_eq_append_getElem hlt] at hs
   have HS:=Lib.hid hs
   clear hs
   generalize (kAll v (l.take k) ds).1=vk at *
   generalize (kAll v (l.take k) ds).2=dk at *
   generalize l[k]=n at *
   have CK:=Lib.hid (fun w (h:KnSt W q p v x w vk y dk)=>viewKnow_any vk y n p dk w h.at_ h.dr h.sep)
   unfold VEnd at CK
   go_upto_region 4 with fail
   refine wp_region_lit ?_
   refine wpList_load_mid (by rfl) 60 _ (by rfl) q 0 (by rfl) (Array.toList (vk.arr y)) _ (blk_range ST.out.blk) Tryz.underlying60 rfl Tryz.infoView ?_
   go_wp2_with fail
   refine (CK.out _ ST.out).mono ?_
   rintro e w2 ⟨y',rfl,h2,d2,f2,k2⟩
   have B2:=Lib.hid (blk_keep f2 ST.out.blk (fun hk=>by have:=HP.out _ hk;omega))
   have R2:=Lib.hid (blk_keep f2 ST.out.res (fun hk=>by have:=HP.out _ hk;omega))
   have H2:=Lib.hid h2
   have D2:=Lib.hid d2
   have hq1:q+1<wr.heap.size:=(Array.getElem?_eq_some_iff.1 ST.out.res).1
   have AP2:=Lib.hid (ST.out.apart.next k2 (fun k h=>by omega))
   have SE2:=Lib.hid (ST.out.sep.of_from ST.out.dr k2)
   have FM2:=Lib.hid (ST.out.from_.trans ST.out.fr.size k2)
   have FR2:=Lib.hid (FrP.trans ST.out.fr f2)
   clear h2 d2 f2 k2 ST CK hcc
   go_wp2_with (refine wpList_storeW (vs:=(vKnow vk n dk).1.arr y') B2.out (by rfl) 60 _ _ (by rfl) (by rfl) (by rfl) rfl Tryz.infoView (by rw [←Array.all_toList];rfl) ?_)
   intro w3 f3 b3
   have K3:Hid (KnSt W q p v x w3 (vKnow vk n dk).1 y' (vKnow vk n dk).2):=Lib.hid {
    blk:=b3
    res:=blk_keep f3 R2.out (by omega)
    at_:=H2.out.keepA f3 (AP2.out.sub' (fun k h=> .inl h))
    apart:=AP2.out
    sep:=SE2.out
    dr:=D2.out.keepB' f3 B2.out
    from_:=FM2.out
    fr:=Fr.trans FR2.out f3 (fun k hk=> .inr (by omega)) }
   clear f3 b3 B2 R2 H2 D2 AP2 SE2 FM2 FR2
   go_wp2_with fail
   go_roundw
   case rel=>exact ⟨k+1,y',by go_num,hlt,by rw [HS.out];exact K3.out⟩
   case measure=>simp [intOf];omega
  ·have hkl:l.take k=l:=List.take_of_length_le (by omega)
   rw [hkl] at ST
   obtain ⟨vk,hvk⟩:∃ vk,vk=(kAll v l ds).1:=⟨_,rfl⟩
   obtain ⟨dk,hdk⟩:∃ dk,dk=(kAll v l ds).2:=⟨_,rfl⟩
   rw [←hvk, ←hdk] at ST
   have HVK:=Lib.hid hvk
   have HDK:=Lib.hid hdk
   clear hkl hvk hdk
   go_upto_region 6 with fail
   refine wp_region_lit ?_
   refine wpList_load_mid (by rfl) 60 _ (by rfl) q 0 (by rfl) (Array.toList (vk.arr y)) _ (blk_range ST.out.blk) Tryz.underlying60 rfl Tryz.infoView ?_
   go_wp2_with (refine wpList_storeW (vs:=vk.arr y) ST.out.res (by rfl) 60 _ _ (by rfl) (by rfl) (by rfl) rfl Tryz.infoView (by rw [←Array.all_toList];rfl) ?_)
   intro w8 f8 b8
   have L8:Hid ((loadVar 60 ⟨q+1,0,none⟩).run Tryz.prog w8= .ok (.agg (vk.arr y)) w8):=Lib.hid (run_loadVar_mid w8 (q+1) 0 60 (Array.toList (vk.arr y)) _ (blk_range b8) Tryz.underlying60 rfl Tryz.infoView)
   have A8:Hid ((asAddr (.pointer (some ⟨q+1,0,none⟩))).run Tryz.prog w8= .ok ⟨q+1,0,none⟩ w8):=Lib.hid (by simp [go_sem])
   have H8:=Lib.hid (ST.out.at_.keepA f8 (ST.out.apart.sub' (fun k h=> .inr h)))
   have D8:=Lib.hid (ST.out.dr.keepB' f8 (v:=⟨0,[],0,[],0⟩) (y:=vwNone) ST.out.res)
   have F8:=Lib.hid (Fr.trans ST.out.fr f8 (fun k hk=> .inr (by omega)):Fr (pblk p) W w8)
   clear f8 b8
   go_wp2_with fail
   refine bodyPost_ret (v:= .agg (vk.arr y)) (by simp [results,Tryz.results91,Sem.run_bind,Result.andThen_ok,L8.out,A8.out]) rfl ?_
   rw [←HVK.out, ←HDK.out]
   exact ⟨y,rfl,H8.out,D8.out,F8.out,ST.out.from_⟩
theorem onMixed_any (v:Vw) (x:VwP) (m:Mq) (a:Option Addr) (c:Nat) (p:Value) (ds:List Int) (W:World) (h:VwAt W v x) (hd:DrawV W p ds) (hsep:VwSep p v x) (hl:SlA W a m.nodes.length c (ints m.nodes)) (hlp:m.nodes≠[]→∀ q,a=some q→¬ pblk p q.block):
  Calls Tryz.prog 54 #[v.val x, .agg (m.arr a c),p] W (VEnd p v (kAll v m.nodes ds).1 (kAll v m.nodes ds).2 (fun l=> .agg l) W x):=by
 obtain ⟨w1,hw1⟩:∃ w1,w1=((W.alloc (.cells (v.arr x) 60)).alloc (.cells (m.arr a c) 76)).alloc (.cells viewZ 60):=⟨_,rfl⟩
 have f1:Gr W w1:=by rw [hw1];exact (((Fr.refl _ _).alloc _).alloc _).alloc _
 have B1:=Lib.hid (show w1.heap[W.heap.size]?=some (.cells (v.arr x) 60 (0,0)) by rw [hw1,heap_alloc_if,if_neg (by simp<;>omega),heap_alloc_if,if_neg (by simp),heap_alloc_if,if_pos rfl])
 have M1:=Lib.hid (show w1.heap[W.heap.size+1]?=some (.cells (m.arr a c) 76 (0,0)) by rw [hw1,heap_alloc_if,if_neg (by simp),heap_alloc_if,if_pos (by simp)])
 have R1:=Lib.hid (show w1.heap[W.heap.size+2]?=some (.cells viewZ 60 (0,0)) by rw [hw1,heap_alloc_if,if_pos (by simp)])
 have s1:W.heap.size+2<w1.heap.size:=(Array.getElem?_eq_some_iff.1 R1.out).1
 have CK:=Lib.hid (mixKnow_any v x a c m.nodes p ds w1 (h.gr f1) (hd.keep f1) hsep (hl.keep f1 (fun _ _ h=>h)) hlp)
 have HP:=Lib.hid hd.lt
 have AP:=Lib.hid (VwApart.new (S:=fun k=>k=W.heap.size+2) h (fun k hk=>by omega))
 have F1:=Lib.hid f1
 have HW:=Lib.hid hw1
 unfold VEnd at CK
 unfold VEnd
 generalize (kAll v m.nodes ds).1=v' at *
 generalize (kAll v m.nodes ds).2=ds' at *
 clear hw1 f1 h hd hsep hl hlp
 go_enter Tryz.func54,Tryz.ntmps54
 go_upto_region 1 with fail
 rw [←HW.out]
 clear HW
 have y4:=(Bx.of_block M1.out) 4 _ rfl
 refine wp_region_lit ?_
 refine wpList_load_mid (by rfl) 60 _ (by rfl) W.heap.size 0 (by rfl) (Array.toList (v.arr x)) _ (blk_range B1.out) Tryz.underlying60 rfl Tryz.infoView ?_
 go_wp2_with fail
 refine CK.out.mono ?_
 rintro e w2 ⟨y',rfl,h2,d2,f2,k2⟩
 have R2:=Lib.hid (blk_keep f2 R1.out (fun hk=>by have:=HP.out _ hk;omega))
 have H2:=Lib.hid h2
 have D2:=Lib.hid d2
 have AP2:=Lib.hid (AP.out.next (k2.mono (a:=w1) (Nat.le_refl _)) (fun k h=>by omega))
 have FM:=Lib.hid (k2.mono (a:=W) (by omega))
 have F2:=Lib.hid (Fr.trans (Fr.mono (T:=pblk p) F1.out (fun _ _ h=>h.elim)) f2 (fun k hk=> .inl hk))
 clear h2 d2 f2 k2 CK R1 M1 B1 F1 y4 AP
 go_wp2_with (refine wpList_storeW (vs:=v'.arr y') R2.out (by rfl) 60 _ _ (by rfl) (by rfl) (by rfl) rfl Tryz.infoView (by rw [←Array.all_toList];rfl) ?_)
 intro w8 f8 b8
 have L8:Hid ((loadVar 60 ⟨W.heap.size+2,0,none⟩).run Tryz.prog w8= .ok (.agg (v'.arr y')) w8):=Lib.hid (run_loadVar_mid w8 (W.heap.size+2) 0 60 (Array.toList (v'.arr y')) _ (blk_range b8) Tryz.underlying60 rfl Tryz.infoView)
 have A8:Hid ((asAddr (.pointer (some ⟨W.heap.size+2,0,none⟩))).run Tryz.prog w8= .ok ⟨W.heap.size+2,0,none⟩ w8):=Lib.hid (by simp [go_sem])
 have H8:=Lib.hid (H2.out.keepA f8 AP2.out)
 have D8:=Lib.hid (D2.out.keepB' f8 (v:=⟨0,[],0,[],0⟩) (y:=vwNone) R2.out)
 have F8:=Lib.hid (Fr.trans F2.out f8 (fun k hk=> .inr (by omega)):Fr (pblk p) W w8)
 clear f8 b8
 go_wp2_with fail
 refine bodyPost_ret (v:= .agg (v'.arr y')) (by simp [results,Tryz.results54,Sem.run_bind,Result.andThen_ok,L8.out,A8.out]) rfl ?_
 exact ⟨y',rfl,H8.out,D8.out,F8.out,FM.out⟩
end Go.Proofs.YtelepohdfcjnfaaGreat
