/-
  slices.BinarySearch, Insert, Index, Contains, IndexFunc, DeleteFunc at []int.
-/
import Derived.Test.YtelepohdfcjnfaaGreatZOwn
namespace Go.Proofs.YtelepohdfcjnfaaGreat
set_option maxHeartbeats 2000000
set_option maxRecDepth 100000
section
open Go.RowKit Go.Proofs
abbrev ints (l:List Int):List Value:=l.map (Value.int .i64)
theorem SlA.int {w:World} {a:Option Addr} {cap:Nat} {l:List Int} (h:SlA w a l.length cap (ints l)) (i:Nat) (hi:i<l.length):∃ b o,a=some ⟨b,o,none⟩∧w.cell? ⟨b,o+i,none⟩=some (.int .i64 l[i]):=
 h.cell i _ (by simp [ints,hi])
def cnt (l:List Int) (x:Int):Nat:=l.countP (· <x)
def has (l:List Int) (x:Int):Bool:=l.contains x
theorem has_iff (l:List Int) (x:Int):has l x=true↔x∈l:=List.contains_iff_mem
theorem has_no (l:List Int) (x:Int):has l x=false↔x∉l:=by rw [←has_iff];cases has l x<;>simp
theorem bsearch_any (a:Option Addr) (cap:Nat) (l:List Int) (x:Int) (w:World) (h:SlA w a l.length cap (ints l)) (hs:l.Pairwise (· ≤·)) (hn:l.length≤4611686018427387903):
  Calls Tryz.prog 44 #[.slice a l.length cap, .int .i64 x] w fun e w'=>e= .returned (.tuple #[.int .i64 (cnt l x:Nat), .bool (has l x)])∧∃ q,w'=w.drewN q:=by
 unfold cnt has
 cases l with
 | nil=>
  refine (Tryz.slices_BinarySearch_int_empty a cap x w).mono ?_
  rintro e w' ⟨rfl,rfl⟩
  exact ⟨rfl,0,rfl⟩
 | cons y r=>
  obtain ⟨b,o,rfl,_⟩:=h.int 0 (by simp)
  have hc:∀ j,j<(y::r).length→w.cell? ⟨b,o+j,none⟩=some (.int .i64 ((y::r).getD j 0)):=fun j hj=>by
   obtain ⟨b',o',he,hc⟩:=h.int j hj
   cases he
   rw [hc];simp [List.getD,List.getElem?_eq_getElem hj]
  refine (Tryz.slices_BinarySearch_int b o _ cap (y::r) x w (Nat.le_refl _) (by omega) hc (by rw [List.take_length];exact hs)).mono ?_
  rw [List.take_length]
  exact fun e w' h=>h
theorem sla_blk {w:World} {g m cap:Nat} {c:Array Value} {e:TypeId} {fr:Nat×Nat} {l:List Int} (h:w.heap[g]?=some (.cells c e fr)) (hc:∀ (j:Nat) (x:Int),l[j]?=some x→c[j]?=some (Value.int .i64 x)) (hm:m≤cap) (hcap:cap≤maxLen):SlA w (some ⟨g,0,none⟩) m cap (ints l):=by
 refine ⟨hm,hcap,fun j u hj=>⟨_,_,rfl,?_⟩⟩
 rw [Lib.cell_of_heap h,Nat.zero_add]
 simp only [ints,List.getElem?_map,Option.map_eq_some_iff] at hj
 obtain ⟨x,hx,rfl⟩:=hj
 exact hc j x hx
def insAt (l:List Int) (i:Nat) (x:Int):List Int:=l.take i++x::l.drop i
theorem insAt_length (l:List Int) (i:Nat) (x:Int) (hi:i≤l.length):(insAt l i x).length=l.length+1:=by simp [insAt];omega
theorem insAt_get (l:List Int) (i:Nat) (x:Int) (hi:i≤l.length) (j:Nat):(insAt l i x)[j]?=if j<i then l[j]? else if j=i then some x else l[j-1]?:=by
 unfold insAt
 rcases Nat.lt_trichotomy j i with h | h | h
 ·rw [if_pos h,List.getElem?_append_left (by simp;omega),List.getElem?_take,if_pos h]
 ·subst h
  rw [if_neg (by omega),if_pos rfl,List.getElem?_append_right (by simp;omega)]
  simp [Nat.min_eq_left hi]
 ·rw [if_neg (by omega),if_neg (by omega),List.getElem?_append_right (by simp;omega)]
  simp only [List.length_take,Nat.min_eq_left hi]
  obtain ⟨d,hd⟩:∃ d,j-i=d+1:=⟨j-i-1,by omega⟩
  rw [hd,List.getElem?_cons_succ,List.getElem?_drop,show i+d=j-1 by omega]
theorem heap_alloc_last (w:World) (o:Obj):(w.drew.alloc o).heap[w.heap.size]?=some o:=by
 show (w.heap.push o)[w.heap.size]?=some o
 simp
theorem insert_own (B:Nat) (v:Value) (l:List Int) (i vb:Nat) (x:Int) (z:Int) (hz:z=i) (w:World) (h:w.ownsRow B 3 1 v l.length (ints l)) (hv:w.heap[vb]?=some (.cells #[.int .i64 x] 3 (0,0))) (hne:v.ownBlock≠some vb) (hi:i≤l.length) (hn:l.length≤4294967296):
  Calls Tryz.prog 130 #[v, .int .i64 z, .slice (some ⟨vb,0,none⟩) 1 1] w fun e w'=>∃ a cap,e= .returned (.slice a (l.length+1) cap)∧SlA w' a (l.length+1) cap (ints (insAt l i x))∧Fr (fun k=>v.ownBlock=some k) w w'∧(∀ p,a=some p→v.ownBlock=some p.block∨w.heap.size≤p.block):=by
 subst hz
 have hins:=insAt_get l i x hi
 have hvs:∀ (j:Nat) (u:Value),[Value.int .i64 x][j]?=some u→w.cell? ⟨vb,0+j,none⟩=some u:=by
  intro j u hj
  match j,hj with
  | 0,hj=>rw [Lib.cell_of_heap hv];simpa using hj
 have h1v:∀ u∈[Value.int .i64 x],u.oneCell'=true:=one_one _ rfl
 have h1c:∀ u∈ints l,u.oneCell'=true:=one_map _ l (fun _=>rfl)
 obtain ⟨hl,h' | ⟨g,cap,cur,rfl,hB,hg,hnc,hcm,hcs,ht⟩⟩:=id h
 ·obtain ⟨rfl,hl0⟩:=h'
  have hl0':l=[]:=List.eq_nil_of_length_eq_zero hl0
  subst hl0'
  obtain rfl:i=0:=by simpa using hi
  refine (Any2.slices_Insert_int_end_grow Tryz.laysNm221 none 0 0 vb 0 1 1 [] [.int .i64 x] w (by omega) (by omega) (by omega) (by omega) rfl rfl (fun _=>rfl) (by intro a ha;cases ha) hvs h1v).mono ?_
  rintro e w' ⟨rfl,rfl⟩
  have hge:=grownCap_ge w (0+1) 0 3
  have hle:=grownCap_le_maxLen w (0+1) 0 3 (by unfold maxLen;omega)
  refine ⟨_,_,rfl,sla_blk (heap_alloc_last w _) (fun j y hj=>?_) hge hle,(Fr.refl _ _).drew.alloc _,by intro p hp;cases hp;first | exact .inl rfl | exact .inr (Nat.le_refl _)⟩
  rw [hins,if_neg (by omega)] at hj
  by_cases h0:j=0
  ·subst h0
   simp at hj;subst hj
   rw [Array.getElem?_append_left (by simp)];rfl
  ·rw [if_neg h0] at hj;simp at hj
 ·have hcur:∀ (j:Nat) (y:Int),l[j]?=some y→cur[j]?=some (.int .i64 y):=by
   intro j y hj
   have hj':j<l.length:=(List.getElem?_eq_some_iff.1 hj).1
   have h1:(cur.toList.take (l.length * 1))[j]?=(ints l)[j]?:=by rw [ht]
   rw [List.getElem?_take,if_pos (by omega)] at h1
   simp only [ints,List.getElem?_map,hj,Option.map_some] at h1
   simpa using h1
  have hcells:∀ (j:Nat) (u:Value),(ints l)[j]?=some u→w.cell? ⟨g,0+j,none⟩=some u:=by
   intro j u hj
   simp only [ints,List.getElem?_map,Option.map_eq_some_iff] at hj
   obtain ⟨y,hy,rfl⟩:=hj
   rw [Lib.cell_of_heap hg,Nat.zero_add,hcur j y hy]
  have hne':vb≠g:=fun e=>hne (by simp [Value.ownBlock,e])
  by_cases hroom:l.length+1≤cap
  ·by_cases hil:i=l.length
   ·subst hil
    refine (Any2.slices_Insert_int_end_room Tryz.laysNm221 g 0 l.length cap vb 0 1 1 [.int .i64 x] w (by omega) hroom hcm rfl
     (fun j hj=>by rw [Lib.cell_of_heap hg];simp;omega) (fun j hj=>Lib.frozen_of_heap hg _) hvs h1v).mono ?_
    rintro e w' ⟨rfl,rfl⟩
    obtain ⟨c',g1,g2,g3,g4,g5⟩:=heap_setCells g [.int .i64 x] (0+l.length) w cur 3 (0,0) hg (by simp;omega)
    refine ⟨_,_,rfl,sla_blk g1 (fun j y hj=>?_) hroom hcm,(fr_setCells g _ _ w).mono (fun k _ hk=>by simp [Value.ownBlock,show k=g from hk]),by intro p hp;cases hp;first | exact .inl rfl | exact .inr (Nat.le_refl _)⟩
    rw [hins] at hj
    by_cases hjl:j<l.length
    ·rw [if_pos hjl] at hj
     rw [g3 j (by omega)];exact hcur j y hj
    ·rw [if_neg hjl] at hj
     by_cases hje:j=l.length
     ·rw [if_pos hje] at hj
      have:=g4 0 _ rfl
      subst hje
      simp at hj this
      rw [this,hj]
     ·rw [if_neg hje,List.getElem?_eq_none (by omega)] at hj;cases hj
   ·have hil':i<l.length:=by omega
    refine (Any2.slices_Insert_int_shift Tryz.laysNm221 g 0 l.length cap i vb 0 1 1 (ints l) [.int .i64 x] w hil' (by omega) hroom hcm hne' (by simp) rfl hcells
     (fun j hj=>by rw [Lib.cell_of_heap hg];simp;omega) (fun j hj=>Lib.frozen_of_heap hg _) hvs h1c h1v 3 3 1 cap (by simp [World.shape?,hv]) (by simp [World.shape?,hg];omega) (by omega) (Lib.frozen_of_heap hv _) (Lib.frozen_of_heap hv _)).mono ?_
    rintro e w' ⟨rfl,rfl⟩
    obtain ⟨c',g1,g2,g3,g4,g5⟩:=heap_setCells g ((ints l).drop i) (0+(i+1)) w.drew cur 3 (0,0) hg (by simp;omega)
    obtain ⟨c2,k1,k2,k3,k4,k5⟩:=heap_setCells g [.int .i64 x] (0+i) _ c' 3 (0,0) g1 (by simp;omega)
    refine ⟨_,_,rfl,sla_blk k1 (fun j y hj=>?_) hroom hcm,(((Fr.refl _ w).drew.trans (fr_setCells g _ _ w.drew) (fun _ h=> .inl h)).trans (fr_setCells g _ _ _) (fun _ h=> .inl h)).mono (fun k _ hk=>by simp [Value.ownBlock,show k=g from hk]),by intro p hp;cases hp;first | exact .inl rfl | exact .inr (Nat.le_refl _)⟩
    rw [hins] at hj
    rcases Nat.lt_trichotomy j i with h1 | h1 | h1
    ·rw [if_pos h1] at hj
     rw [k3 j (by omega),g3 j (by omega)];exact hcur j y hj
    ·subst h1
     rw [if_neg (by omega),if_pos rfl] at hj
     have:=k4 0 _ rfl
     simp at this hj
     rw [this,hj]
    ·rw [if_neg (by omega),if_neg (by omega)] at hj
     rw [k5 j (by simp;omega)]
     have h2:=g4 (j-(i+1)) (.int .i64 y) (by
      rw [List.getElem?_drop,show i+(j-(i+1))=j-1 by omega]
      simp [ints,hj])
     rwa [show 0+(i+1)+(j-(i+1))=j by omega] at h2
  ·have hge:=grownCap_ge w (l.length+1) cap 3
   have hle:=grownCap_le_maxLen w (l.length+1) cap 3 (by unfold maxLen;omega)
   by_cases hil:i=l.length
   ·subst hil
    refine (Any2.slices_Insert_int_end_grow Tryz.laysNm221 (some ⟨g,0,none⟩) l.length cap vb 0 1 1 (ints l) [.int .i64 x] w (by omega) hnc (by omega) (by omega) (by simp) rfl (by intro h;cases h)
     (by intro a ha j u hj;cases ha;rw [Addr.add_lit];exact hcells j u hj) hvs h1v).mono ?_
    rintro e w' ⟨rfl,rfl⟩
    refine ⟨_,_,rfl,sla_blk (heap_alloc_last w _) (fun j y hj=>?_) hge hle,(Fr.refl _ _).drew.alloc _,by intro p hp;cases hp;first | exact .inl rfl | exact .inr (Nat.le_refl _)⟩
    have hj':=(List.getElem?_eq_some_iff.1 hj).1
    rw [insAt_length _ _ _ hi] at hj'
    rw [Array.getElem?_append_left (by simp;omega)]
    rw [hins] at hj
    by_cases hjl:j<l.length
    ·rw [if_pos hjl] at hj
     simp [ints,List.getElem?_append_left,hjl]
     simpa [hjl] using hj
    ·obtain rfl:j=l.length:=by omega
     rw [if_neg hjl,if_pos rfl] at hj
     simp at hj;subst hj
     simp [ints]
   ·have hil':i<l.length:=by omega
    refine (Any2.slices_Insert_int_grow Tryz.laysNm221 g 0 l.length cap i vb 0 1 1 (ints l) [.int .i64 x] w hil' (by omega) hnc (by omega) (by omega) (by simp) rfl hcells hvs h1c h1v).mono ?_
    rintro e w' ⟨rfl,hw'⟩
    obtain ⟨cur0,hc0,h00⟩:∃ cur0:Array Value,cur0=((ints l).take i).toArray++Builtin.zeroCells (Value.int .i64 0).cells (l.length+1-i)++Builtin.zeroCells (Value.int .i64 0).cells (grownCap w (l.length+1) cap (Tryz.laysNm221_ren.t 3)-(l.length+1))∧l.length+1≤cur0.size:=⟨_,rfl,by simp [Builtin.zeroCells,show (Value.int .i64 0).cells.size=1 from rfl];omega⟩
    rw [←hc0] at hw'
    have hpre:∀ j,j<i→cur0[j]?=(ints l)[j]?:=by
     intro j hj
     rw [hc0,Array.append_assoc,Array.getElem?_append_left (by simp;omega)]
     simp [hj]
    clear hc0
    have hg0:((w.alloc (.cells cur0 (Tryz.laysNm221_ren.t 3))).drew).heap[w.heap.size]?=some (.cells cur0 3 (0,0)):=by
     show (w.heap.push (.cells cur0 3))[w.heap.size]?=_
     simp
    obtain ⟨c1,g1,g2,g3,g4,g5⟩:=heap_setCells w.heap.size [.int .i64 x] i _ cur0 3 (0,0) hg0 (by simp;omega)
    obtain ⟨c2,k1,k2,k3,k4,k5⟩:=heap_setCells w.heap.size ((ints l).drop i) (i+1) (((w.alloc (.cells cur0 (Tryz.laysNm221_ren.t 3))).drew.setCells w.heap.size i [.int .i64 x]).drew) c1 3 (0,0) g1 (by simp;omega)
    have hf0:Fr (fun k=>k=w.heap.size) w ((w.alloc (.cells cur0 (Tryz.laysNm221_ren.t 3))).drew):=((Fr.refl _ w).alloc _).drew
    have hf1:=((hf0.trans (fr_setCells w.heap.size [.int .i64 x] i _) (fun _ h=> .inl h)).drew).trans (fr_setCells w.heap.size ((ints l).drop i) (i+1) _) (fun _ h=> .inl h)
    subst hw'
    refine ⟨_,_,rfl,sla_blk k1 (fun j y hj=>?_) hge hle,hf1.mono (fun k hk h=>by have:k=w.heap.size:=h;omega),by intro p hp;cases hp;first | exact .inl rfl | exact .inr (Nat.le_refl _)⟩
    rw [hins] at hj
    rcases Nat.lt_trichotomy j i with h1 | h1 | h1
    ·rw [if_pos h1] at hj
     rw [k3 j (by omega),g3 j h1,hpre j h1];simp [ints,hj]
    ·subst h1
     rw [if_neg (by omega),if_pos rfl] at hj
     have:=g4 0 _ rfl
     simp at this hj
     rw [k3 j (by omega),this,hj]
    ·rw [if_neg (by omega),if_neg (by omega)] at hj
     have h2:=k4 (j-(i+1)) (.int .i64 y) (by
      rw [List.getElem?_drop,show i+(j-(i+1))=j-1 by omega]
      simp [ints,hj])
     rwa [show i+1+(j-(i+1))=j by omega] at h2
end
section
open Go.RowKit Go.Proofs
def IndexSays (l:List Int) (x:Int) (e:Ending):Prop:=∃ n:Int,e= .returned (.int .i64 n)∧(l.contains x=true→0≤n)∧(l.contains x=false→n= -1)
theorem index_any (a:Option Addr) (cap:Nat) (l:List Int) (x:Int) (w:World) (h:SlA w a l.length cap (ints l)):
  Calls Tryz.prog 129 #[.slice a l.length cap, .int .i64 x] w fun e w'=>IndexSays l x e∧w=w':=by
 have hle:=h.le
 have hmx:=h.max
 have H:=Lib.hid h;clear h
 go_enter Tryz.func129,Tryz.ntmps129
 go_wp2_with fail
 go_loopw [5,8] (fun jv iv wr=>∃ k:Nat,iv= .int .i64 k∧k≤l.length∧(l.take k).contains x=false∧w=wr) (fun _ iv _=>l.length-(intOf iv).toNat)
 case atStart=>exact ⟨0,rfl,Nat.zero_le _,rfl,rfl⟩
 case round=>
  obtain ⟨k,rfl,hk,hno,rfl⟩:=hrel
  have HN:=Lib.hid hno;clear hno
  by_cases hlt:k<l.length
  ·obtain ⟨b,o,rfl,hc⟩:=H.out.int k hlt
   have hts:l.take (k+1)=l.take k++[l[k]]:=by rw [List.take_succ_eq_append_getElem hlt]
   by_cases he:x=l[k]
   ·have hcon:l.contains x=true:=by rw [List.contains_iff_mem,he];exact List.getElem_mem hlt
    have HC:=Lib.hid hcon;clear hcon hts
    have hbeq:(x==l[k])=true:=by simpa using he
    clear he
    go_wp2_with fail
    go_ret
    exact ⟨⟨_,rfl,(fun _=>by omega),(fun h=>by rw [HC.out] at h;cases h)⟩,rfl⟩
   ·have hno2:(l.take (k+1)).contains x=false:=by
     rw [hts,Bool.eq_false_iff]
     intro h
     rw [List.contains_iff_mem,List.mem_append] at h
     rcases h with h | h
     ·have:=HN.out
      rw [Bool.eq_false_iff] at this
      exact this (List.contains_iff_mem.2 h)
     ·exact he (by simpa using h)
    have HN2:=Lib.hid hno2;clear hno2 hts
    have hbeq:(x==l[k])=false:=by simpa using he
    clear he
    go_wp2_with fail
    go_roundw
    case rel=>exact ⟨k+1,by go_num,by omega,HN2.out,trivial⟩
    case measure=>simp [intOf];omega
  ·have hcon:l.contains x=false:=by
    have:=HN.out
    rwa [List.take_of_length_le (by omega)] at this
   have HC:=Lib.hid hcon;clear hcon
   go_wp2_with fail
   go_ret
   exact ⟨⟨_,rfl,(fun h=>by rw [HC.out] at h;cases h),fun _=>rfl⟩,rfl⟩
theorem contains_any (a:Option Addr) (cap:Nat) (l:List Int) (x:Int) (w:World) (h:SlA w a l.length cap (ints l)):
  Calls Tryz.prog 115 #[.slice a l.length cap, .int .i64 x] w fun e w'=>e= .returned (.bool (has l x))∧w=w':=by
 have HI:=Lib.hid (index_any a cap l x w h);clear h
 unfold has
 generalize hc:l.contains x=c
 have HC:=Lib.hid hc;clear hc
 cases c
 ·go_enter Tryz.func115,Tryz.ntmps115
  go_wp2_with fail
  refine HI.out.mono ?_
  rintro e w' ⟨⟨n,rfl,_,h2⟩,rfl⟩
  obtain rfl:=h2 HC.out
  clear h2
  go_wp2_with fail
  go_ret
  exact ⟨rfl,rfl⟩
 ·go_enter Tryz.func115,Tryz.ntmps115
  go_wp2_with fail
  refine HI.out.mono ?_
  rintro e w' ⟨⟨n,rfl,h1,_⟩,rfl⟩
  have h1':=h1 HC.out
  have hd:decide ((0:Int)≤n)=true:=by simpa using h1'
  clear h1
  go_wp2_with fail
  go_ret
  exact ⟨rfl,rfl⟩
def PredI (F:FuncId) (cap:Array Value) (p:Int→Bool) (S:Nat→Prop) (w:World):Prop:=
 (∀ args w,(callFunc F args).run Tryz.prog w= .ok (.enter F args) w)∧
 ∀ (x:Int) (w':World),Fr S w w'→Calls Tryz.prog F (#[.int .i64 x]++cap) w' fun e w''=>e= .returned (.bool (p x))∧Fr (fun _=>False) w' w''
def ahead (p:Int→Bool):List Int→Nat
 | []=>0
 | x::r=>if p x=true then 0 else ahead p r+1
theorem ahead_at {p:Int→Bool}:∀ {l:List Int} {k:Nat} (hk:k<l.length),(∀ x∈l.take k,p x=false)→p l[k]=true→ahead p l=k
 | x::r,0,_,_,h=>by simp at h;simp [ahead,h]
 | x::r,k+1,hk,hno,h=>by
  have h0:=hno x (by simp)
  have ih:=ahead_at (l:=r) (k:=k) (by simpa using hk) (fun y hy=>hno y (by simp [hy])) (by simpa using h)
  simp [ahead,h0,ih]
theorem ahead_all {p:Int→Bool}:∀ {l:List Int},(∀ x∈l,p x=false)→ahead p l=l.length
 | [],_=>rfl
 | x::r,h=>by simp [ahead,h x (by simp),ahead_all (l:=r) (fun y hy=>h y (by simp [hy]))]
theorem ahead_none {p:Int→Bool}:∀ {l:List Int},¬ ahead p l<l.length→∀ x∈l,p x=false
 | [],_,x,hx=>by cases hx
 | y::r,h,x,hx=>by
  cases hp:p y
  ·rw [ahead,if_neg (by simp [hp])] at h
   have ih:=ahead_none (l:=r) (by simp at h ⊢;omega)
   rcases List.mem_cons.1 hx with rfl | hx
   ·exact hp
   ·exact ih x hx
  ·rw [ahead,if_pos hp] at h;simp at h
theorem ahead_some {p:Int→Bool}:∀ {l:List Int} (h:ahead p l<l.length),(∀ x∈l.take (ahead p l),p x=false)∧p l[ahead p l]=true
 | [],h=>by simp at h
 | y::r,h=>by
  cases hp:p y
  ·have e:ahead p (y::r)=ahead p r+1:=by rw [ahead,if_neg (by simp [hp])]
   have ih:=ahead_some (l:=r) (by rw [e] at h;simpa using h)
   simp only [e]
   refine ⟨fun x hx=>?_,by simpa using ih.2⟩
   rw [List.take_succ_cons] at hx
   rcases List.mem_cons.1 hx with rfl | hx
   ·exact hp
   ·exact ih.1 x hx
  ·have e:ahead p (y::r)=0:=by rw [ahead,if_pos hp]
   simp only [e]
   exact ⟨by simp,by simpa using hp⟩
def idxF (p:Int→Bool) (l:List Int):Int:=if ahead p l<l.length then (ahead p l:Int) else -1
theorem indexFunc_any (F:FuncId) (fc:Array Value) (p:Int→Bool) (S:Nat→Prop) (a:Option Addr) (cap:Nat) (l:List Int) (w:World) (h:SlA w a l.length cap (ints l)) (hp:PredI F fc p S w):
  Calls Tryz.prog 65 #[.slice a l.length cap, .func (.func F) #[] fc] w fun e w'=>e= .returned (.int .i64 (idxF p l))∧Fr (fun _=>False) w w':=by
 obtain ⟨hent,hcl⟩:=hp
 have hle:=h.le
 have hmx:=h.max
 have H:=Lib.hid h;clear h
 have HP:=Lib.hid hcl;clear hcl
 go_enter Tryz.func65,Tryz.ntmps65
 go_wp2_with fail
 go_loopw [5,8] (fun jv iv wr=>∃ k:Nat,iv= .int .i64 k∧k≤l.length∧(∀ x∈l.take k,p x=false)∧Fr (fun _=>False) w wr) (fun _ iv _=>l.length-(intOf iv).toNat)
 case atStart=>exact ⟨0,rfl,Nat.zero_le _,by simp,Fr.refl _ _⟩
 case round=>
  obtain ⟨k,rfl,hk,hno,hwr⟩:=hrel
  have HN:=Lib.hid hno;clear hno
  have HW:=Lib.hid hwr;clear hwr
  by_cases hlt:k<l.length
  ·obtain ⟨b,o,rfl,hc⟩:=(H.out.keep HW.out (fun _ _ h=>h)).int k hlt
   have hts:l.take (k+1)=l.take k++[l[k]]:=by rw [List.take_succ_eq_append_getElem hlt]
   have HTS:=Lib.hid hts;clear hts
   have hcall:=HP.out l[k] wr (HW.out.mono (fun _ _ h=>h.elim))
   have HCALL:=Lib.hid hcall;clear hcall
   cases hpk:p l[k]
   ·have hno2:∀ x∈l.take (k+1),p x=false:=by
     intro x hx
     rw [HTS.out,List.mem_append] at hx
     rcases hx with hx | hx
     ·exact HN.out x hx
     ·have:x=l[k]:=by simpa using hx
      rw [this];exact hpk
    have HN2:=Lib.hid hno2;clear hno2
    rw [hpk] at HCALL
    clear hpk
    go_wp2_with fail
    refine HCALL.out.mono ?_
    rintro e w2 ⟨rfl,hf2⟩
    have HW2:=Lib.hid (HW.out.trans hf2 (fun _ h=>h.elim));clear hf2
    go_wp2_with fail
    go_roundw
    case rel=>exact ⟨k+1,by go_num,by omega,HN2.out,HW2.out⟩
    case measure=>simp [intOf];omega
   ·have hah:=ahead_at hlt HN.out hpk
    have HAH:=Lib.hid hah;clear hah
    rw [hpk] at HCALL
    clear hpk
    go_wp2_with fail
    refine HCALL.out.mono ?_
    rintro e w2 ⟨rfl,hf2⟩
    have HW2:=Lib.hid (HW.out.trans hf2 (fun _ h=>h.elim));clear hf2
    go_wp2_with fail
    go_ret
    exact ⟨by unfold idxF;rw [HAH.out,if_pos hlt];rfl,HW2.out⟩
  ·have hall:ahead p l=l.length:=by
    have:=HN.out
    rw [List.take_of_length_le (by omega)] at this
    exact ahead_all this
   have HAH:=Lib.hid hall;clear hall
   go_wp2_with fail
   go_ret
   exact ⟨by unfold idxF;rw [HAH.out,if_neg (Nat.lt_irrefl _)];rfl,HW.out⟩
end
section
open Go.RowKit Go.Proofs
def kept (p:Int→Bool) (l:List Int):List Int:=l.filter (fun x=> !p x)
def DelOut (l':List Int) (S:Nat→Prop) (w:World) (e:Ending) (w':World):Prop:=∃ a cap,e= .returned (.slice a l'.length cap)∧SlA w' a l'.length cap (ints l')∧Fr S w w'∧∀ q,a=some q→S q.block
theorem kept_snoc (p:Int→Bool) (l:List Int) (j:Nat) (h:j<l.length):kept p (l.take (j+1))=if p l[j]=true then kept p (l.take j) else kept p (l.take j)++[l[j]]:=by
 rw [List.take_succ_eq_append_getElem h]
 unfold kept
 rw [List.filter_append]
 cases hp:p l[j]<;>simp [hp]
theorem kept_all {p:Int→Bool} {l:List Int} (h:∀ x∈l,p x=false):kept p l=l:=by
 unfold kept
 rw [List.filter_eq_self]
 intro x hx;simp [h x hx]
theorem blk_set1 {w:World} {q:Nat} {cs:Array Value} {e:TypeId} {fr:Nat×Nat} (h:w.heap[q]?=some (.cells cs e fr)) (j:Nat) (v:Value):(w.setCell ⟨q,j,none⟩ v).heap[q]?=some (.cells (cs.setIfInBounds j v) e fr):=by
 simp [World.setCell,Array.getElem?_modify,h]
theorem deleteFunc_any (F:FuncId) (fc:Array Value) (p:Int→Bool) (B:Nat) (v:Value) (l:List Int) (w:World) (hown:w.ownsRow B 3 1 v l.length (ints l)) (hp:PredI F fc p (fun k=>v.ownBlock=some k) w) (hn:l.length≤4294967296):
  Calls Tryz.prog 30 #[v, .func (.func F) #[] fc] w fun e w'=>DelOut (kept p l) (fun k=>v.ownBlock=some k) w e w':=by
 obtain ⟨a,cap,hv,hs,hb,_⟩:=SlA.of_own hown
 have hidx:=indexFunc_any F fc p _ a cap l w hs hp
 by_cases hah:ahead p l<l.length
 ·have hir:idxF p l=(ahead p l:Int):=by unfold idxF;rw [if_pos hah]
  rw [hir] at hidx
  obtain ⟨hno,hpi⟩:=ahead_some hah
  obtain ⟨b,o,rfl,hx0⟩:=hs.int 0 (by omega)
  clear hx0
  have ho:=(hb _ rfl).2.2
  simp only at ho
  subst ho
  obtain ⟨hent,hcl⟩:=hp
  obtain ⟨i0,hi0⟩:∃ i0,ahead p l=i0:=⟨_,rfl⟩
  rw [hi0] at hidx
  simp only [hi0] at hah hno hpi
  obtain ⟨cur,hg,hcs,hnc,hcm⟩:∃ cur:Array Value,w.heap[b]?=some (.cells cur 3 (0,0))∧cur.size=cap∧l.length≤cap∧cap≤maxLen:=by
   rcases hown.2 with ⟨h1,_⟩ | ⟨g,c,cur,h1,_,h2,h3,h4,h5,_⟩
   ·rw [hv] at h1;cases h1
   ·rw [hv] at h1;cases h1;exact ⟨cur,h2,by omega,h3,h4⟩
  subst hv
  have hcells:∀ j (hj:j<l.length),cur[j]?=some (.int .i64 l[j]):=by
   intro j hj
   obtain ⟨b',o',he,hc⟩:=hs.int j hj
   cases he
   rw [Lib.cell_of_heap hg,Nat.zero_add] at hc
   exact hc
  have hS:∀ k,(Value.slice (some ⟨b,0,none⟩) l.length cap).ownBlock=some k↔k=b:=by intro k;simp [Value.ownBlock];exact eq_comm
  simp only [hS] at hcl
  have HI:=Lib.hid hidx;clear hidx hir
  have HCL:=Lib.hid hcl;clear hcl
  have HC:=Lib.hid hcells;clear hcells
  have HS:=Lib.hid hS;clear hS
  have HG:=Lib.hid hg;clear hg
  have hk0:kept p (l.take (i0+1))=l.take i0:=by
   rw [kept_snoc p l i0 hah,if_pos hpi,kept_all hno]
  have HK0:=Lib.hid hk0;clear hk0 hno hpi hi0
  clear hown hs hb
  go_enter Tryz.func30,Tryz.ntmps30
  go_wp2_with fail
  refine HI.out.mono ?_
  rintro e w1 ⟨rfl,hf1⟩
  have F1:=Lib.hid hf1;clear hf1 HI
  have hne1:((i0:Int)== -1)=false:=by simp
  go_wp2_with fail
  clear hne1
  have hlt:=lt_of_cell (show w.cell? ⟨b,0,none⟩=some (.int .i64 (l[0]'(by omega))) by rw [Lib.cell_of_heap HG.out];exact HC.out 0 (by omega))
  simp only at hlt
  have hg1:w1.heap[b]?=some (.cells cur 3 (0,0)):=by rw [F1.out.block b hlt (fun h=>h)];exact HG.out
  have HG1:=Lib.hid hg1;clear hg1
  go_loopw [5,6,7] (fun iv jv vv wr=>∃ (i j:Nat) (c:Array Value),iv= .int .i64 i∧jv= .int .i64 j∧j≤l.length∧i<j∧i=(kept p (l.take j)).length∧Fr (fun k=>k=b) w wr∧wr.heap[b]?=some (.cells c 3 (0,0))∧c.size=cap∧
    (∀ (t:Nat) (y:Int),(kept p (l.take j))[t]?=some y→c[t]?=some (.int .i64 y))∧(∀ t (ht:t<l.length),j≤t→c[t]?=some (.int .i64 l[t]))) (fun _ jv _ _=>l.length-(intOf jv).toNat)
  case atStart=>
   refine ⟨i0,i0+1,cur,rfl,by go_num,by omega,by omega,by rw [HK0.out];simp;omega,F1.out.mono (fun _ _ h=>h.elim),HG1.out,hcs,?_,fun t ht _=>HC.out t ht⟩
   intro t y hy
   rw [HK0.out,List.getElem?_take] at hy
   split at hy
   ·have ht:=(List.getElem?_eq_some_iff.1 hy).1
    have:=HC.out t ht
    rw [List.getElem?_eq_getElem ht] at hy
    rw [this];cases hy;rfl
   ·cases hy
  case round=>
   obtain ⟨i,j,c,rfl,rfl,hj,hij,hik,hfr,hblk,hcz,hpre,hsuf⟩:=hrel
   have FR:=Lib.hid hfr;clear hfr
   have HP:=Lib.hid hpre;clear hpre
   have HX:=Lib.hid hsuf;clear hsuf
   have HBK:=Lib.hid hblk;clear hblk
   have HIK:=Lib.hid hik;clear hik
   have HCZ:=Lib.hid hcz;clear hcz
   by_cases hjl:j<l.length
   ·have hcell:wr.cell? ⟨b,0+j,none⟩=some (.int .i64 l[j]):=by rw [Lib.cell_of_heap HBK.out,Nat.zero_add];exact HX.out j hjl (Nat.le_refl _)
    rw [Nat.zero_add] at hcell
    have hcall:=HCL.out l[j] wr FR.out
    have hks:=kept_snoc p l j hjl
    have HKS:=Lib.hid hks;clear hks
    have HCALL:=Lib.hid hcall;clear hcall
    generalize hy:l[j]=y at *
    cases hpy:p y
    ·rw [hpy] at HCALL HKS
     go_wp2_with fail
     refine HCALL.out.mono ?_
     rintro e w2 ⟨rfl,hf2⟩
     have hb2:w2.heap[b]?=some (.cells c 3 (0,0)):=by rw [hf2.block b (lt_of_cell hcell) (fun h=>h)];exact HBK.out
     have hci:w2.cell? ⟨b,i,none⟩=some ((c[i]?).getD default):=by
      rw [Lib.cell_of_heap hb2]
      rw [Array.getElem?_eq_getElem (by rw [HCZ.out];omega)];rfl
     have hzi:w2.frozen? ⟨b,i,none⟩=false:=Lib.frozen_of_heap hb2 i
     have hset:=blk_set1 hb2 i (.int .i64 y)
     have FR2:=Lib.hid ((FR.out.trans hf2 (fun _ h=>h.elim)).setCell (p:=⟨b,i,none⟩) (.inl rfl) (.int .i64 y));clear hf2
     have HSET:=Lib.hid hset;clear hset hb2
     generalize (c[i]?).getD default=old at hci
     go_wp2_with fail
     go_roundw
     case rel=>
      have hk1:kept p (l.take (j+1))=kept p (l.take j)++[y]:=by rw [HKS.out];rfl
      refine ⟨i+1,j+1,_,by go_num,by go_num,by omega,by omega,by rw [hk1,List.length_append, ←HIK.out];rfl,FR2.out,HSET.out,by rw [Array.size_setIfInBounds];exact HCZ.out,?_,?_⟩
      ·intro t z hz
       rw [hk1] at hz
       rcases Nat.lt_trichotomy t i with h1 | h1 | h1
       ·rw [List.getElem?_append_left (by rw [←HIK.out];exact h1)] at hz
        rw [Array.getElem?_setIfInBounds_ne (by omega)];exact HP.out t z hz
       ·subst h1
        rw [HIK.out,List.getElem?_append_right (Nat.le_refl _),Nat.sub_self] at hz
        simp at hz;subst hz
        have:t<c.size:=by rw [HCZ.out];omega
        simp [this]
       ·rw [List.getElem?_eq_none (by rw [List.length_append, ←HIK.out];simp;omega)] at hz;cases hz
      ·intro t ht hjt
       rw [Array.getElem?_setIfInBounds_ne (by omega)];exact HX.out t ht (by omega)
     case measure=>simp [intOf];omega
    ·rw [hpy] at HCALL HKS
     go_wp2_with fail
     refine HCALL.out.mono ?_
     rintro e w2 ⟨rfl,hf2⟩
     have hb2:w2.heap[b]?=some (.cells c 3 (0,0)):=by rw [hf2.block b (lt_of_cell hcell) (fun h=>h)];exact HBK.out
     have HB2:=Lib.hid hb2;clear hb2
     have FR2:=Lib.hid (FR.out.trans hf2 (fun _ h=>h.elim));clear hf2
     go_wp2_with fail
     go_roundw
     case rel=>
      have hk1:kept p (l.take (j+1))=kept p (l.take j):=by rw [HKS.out];rfl
      exact ⟨i,j+1,c,rfl,by go_num,by omega,by omega,by rw [hk1];exact HIK.out,FR2.out,HB2.out,HCZ.out,by rw [hk1];exact HP.out,fun t ht hjt=>HX.out t ht (by omega)⟩
     case measure=>simp [intOf];omega
   ·obtain rfl:j=l.length:=by omega
    have hkl:kept p (l.take l.length)=kept p l:=by rw [List.take_length]
    have hil:i=(kept p l).length:=by rw [←hkl];exact HIK.out
    have hcap1:c.size=cap:=HCZ.out
    have hrun:∀ ty,(Builtin.clear_ #[42] ty #[.slice (some ⟨b,i,none⟩) (l.length-i) (cap-i)]).run Tryz.prog wr= .ok (.tuple #[]) (wr.setCells b i (List.replicate (l.length-i) (.int .i64 0))):=
     fun ty=>Lib.run_clear_slice wr _ _ ty (.int .i64 0) Tryz.underlying42 (fun w=>Tryz.zeroValue3 w) rfl rfl b i _ _ (by omega)
      (fun t ht=>by rw [Lib.cell_of_heap HBK.out];simp;omega) (fun t ht=>Lib.frozen_of_heap HBK.out _)
    obtain ⟨c2,g1,g2,g3,g4,g5⟩:=heap_setCells b (List.replicate (l.length-i) (.int .i64 0)) i wr c 3 (0,0) HBK.out (by simp;omega)
    have FR2:=Lib.hid (FR.out.trans (fr_setCells b (List.replicate (l.length-i) (Value.int .i64 0)) i wr) (fun _ h=> .inl h))
    have hs2:SlA (wr.setCells b i (List.replicate (l.length-i) (.int .i64 0))) (some ⟨b,0,none⟩) (kept p l).length cap (ints (kept p l)):=by
     refine sla_blk g1 (fun t y hy=>?_) (by omega) hcm
     have ht:=(List.getElem?_eq_some_iff.1 hy).1
     rw [g3 t (by omega)]
     exact HP.out t y (by rw [hkl];exact hy)
    have HS2:=Lib.hid hs2;clear hs2 g1 g2 g3 g4 g5
    have HIL:=Lib.hid hil;clear hil hkl hcap1
    have hci:¬ cap=i:=by omega
    have hcz:¬ (l.length:Int)<i:=by omega
    go_wp2_with fail
    go_ret
    exact ⟨_,_,by rw [HIL.out];rfl,HS2.out,FR2.out.mono (fun k _ hk=>(HS.out k).2 hk),fun q hq=>by cases hq;exact (HS.out _).2 rfl⟩
 ·have hir:idxF p l= -1:=by unfold idxF;rw [if_neg hah]
  rw [hir] at hidx
  have hk:=kept_all (ahead_none hah)
  rw [hk]
  have HI:=Lib.hid hidx;clear hidx hir hk
  have HS:=Lib.hid hs;clear hs hp hown hb
  subst hv
  go_enter Tryz.func30,Tryz.ntmps30
  go_wp2_with fail
  refine HI.out.mono ?_
  rintro e w1 ⟨rfl,hf1⟩
  have HS1:=Lib.hid (HS.out.keep hf1 (fun _ _ h=>h))
  have F1:=Lib.hid (hf1.mono (T:=fun k=>(Value.slice a l.length cap).ownBlock=some k) (fun _ _ h=>h.elim));clear hf1
  go_wp2_with fail
  go_ret
  exact ⟨_,_,rfl,HS1.out,F1.out,fun q hq=>by rw [hq];rfl⟩
end
section
open Go.RowKit Go.Proofs
def ins (l:List Int) (x:Int):List Int:=insAt l (cnt l x) x
def del (l:List Int) (x:Int):List Int:=l.eraseIdx (cnt l x)
def sAddOk (l:List Int) (m n:Int):Bool:=has l n||(decide (1≤n)&&decide (n≤65535)&&decide ((l.length:Int)<m))
def sAdd (l:List Int) (m n:Int):List Int:=if has l n=true then l else if 1≤n∧n≤65535∧(l.length:Int)<m then ins l n else l
def sDrop (l:List Int) (n:Int):List Int:=if has l n=true then del l n else l
structure Good (l:List Int) (m:Int):Prop where
 up:l.Pairwise (· <·)
 node:∀ x∈l,1≤x∧x≤65535
 fit:(l.length:Int)≤m
 most:m≤64
 least:0≤m
theorem Good.le {l:List Int} {m:Int} (h:Good l m):l.Pairwise (· ≤·):=h.up.imp (fun h=>Int.le_of_lt h)
theorem Good.len {l:List Int} {m:Int} (h:Good l m):l.length≤64:=by have:=h.fit;have:=h.most;omega
theorem cnt_le (l:List Int) (x:Int):cnt l x≤l.length:=List.countP_le_length
theorem ins_length (l:List Int) (x:Int):(ins l x).length=l.length+1:=insAt_length _ _ _ (cnt_le l x)
theorem cnt_split:∀ {l:List Int},l.Pairwise (· <·)→∀ (x:Int),(∀ y∈l.take (cnt l x),y<x)∧∀ y∈l.drop (cnt l x),x≤y
 | [],_,_=>by simp [cnt]
 | a::r,h,x=>by
  have hr:=(List.pairwise_cons.1 h)
  by_cases ha:a<x
  ·have e:cnt (a::r) x=cnt r x+1:=by simp [cnt,ha]
   have ih:=cnt_split hr.2 x
   rw [e]
   refine ⟨fun y hy=>?_,fun y hy=>ih.2 y (by simpa using hy)⟩
   rw [List.take_succ_cons] at hy
   rcases List.mem_cons.1 hy with rfl | hy
   ·exact ha
   ·exact ih.1 y hy
  ·have e0:r.countP (· <x)=0:=by
    rw [List.countP_eq_zero]
    intro y hy
    have:=hr.1 y hy
    simp;omega
   have e:cnt (a::r) x=0:=by simp only [cnt,List.countP_cons,e0];simp;omega
   rw [e]
   refine ⟨by simp,fun y hy=>?_⟩
   rcases List.mem_cons.1 (by simpa using hy) with rfl | hy
   ·omega
   ·have:=hr.1 y hy;omega
theorem ins_mem (l:List Int) (x y:Int):y∈ins l x↔y=x∨y∈l:=by
 unfold ins insAt
 rw [List.mem_append,List.mem_cons]
 have:y∈l↔y∈l.take (cnt l x)∨y∈l.drop (cnt l x):=by rw [←List.mem_append,List.take_append_drop]
 rw [this]
 constructor
 ·rintro (h | h | h)
  ·exact .inr (.inl h)
  ·exact .inl h
  ·exact .inr (.inr h)
 ·rintro (h | h | h)
  ·exact .inr (.inl h)
  ·exact .inl h
  ·exact .inr (.inr h)
theorem ins_perm (l:List Int) (x:Int):(ins l x).Perm (x::l):=by
 unfold ins insAt
 refine (List.perm_middle).trans ?_
 rw [List.take_append_drop]
theorem ins_up {l:List Int} (h:l.Pairwise (· <·)) {x:Int} (hx:x∉l):(ins l x).Pairwise (· <·):=by
 obtain ⟨h1,h2⟩:=cnt_split h x
 unfold ins insAt
 have e:=h
 rw [←List.take_append_drop (cnt l x) l] at e
 rw [List.pairwise_append] at e ⊢
 obtain ⟨e1,e2,e3⟩:=e
 refine ⟨e1,?_,?_⟩
 ·rw [List.pairwise_cons]
  refine ⟨fun y hy=>?_,e2⟩
  have:=h2 y hy
  have hne:y≠x:=fun e=>hx (e▸List.mem_of_mem_drop hy)
  omega
 ·intro a ha b hb
  have hax:=h1 a ha
  rcases List.mem_cons.1 hb with rfl | hb
  ·exact hax
  ·exact e3 a ha b hb
theorem cnt_at {l:List Int} (h:l.Pairwise (· <·)) {x:Int} (hx:x∈l):∃ hlt:cnt l x<l.length,l[cnt l x]=x:=by
 obtain ⟨h1,h2⟩:=cnt_split h x
 have hd:x∈l.drop (cnt l x):=by
  rw [←List.take_append_drop (cnt l x) l] at hx
  rcases List.mem_append.1 hx with h3 | h3
  ·have:=h1 x h3;omega
  ·exact h3
 have hlt:cnt l x<l.length:=by
  apply Classical.byContradiction
  intro h3
  rw [List.drop_eq_nil_of_le (by omega)] at hd;cases hd
 refine ⟨hlt,?_⟩
 have hp:=h
 rw [←List.take_append_drop (cnt l x) l,List.pairwise_append] at hp
 have hp2:=hp.2.1
 rw [List.drop_eq_getElem_cons hlt] at hd hp2 h2
 rcases List.mem_cons.1 hd with h3 | h3
 ·exact h3.symm
 ·have h4:=(List.pairwise_cons.1 hp2).1 x h3
  have h5:=h2 l[cnt l x] (List.mem_cons_self)
  omega
theorem del_eq {l:List Int} (h:l.Pairwise (· <·)) {x:Int} (hx:x∈l):del l x=l.filter (fun y=>y != x):=by
 obtain ⟨hlt,he⟩:=cnt_at h hx
 unfold del
 rw [List.eraseIdx_eq_take_drop_succ]
 have hp:=h
 have e:l=l.take (cnt l x)++l[cnt l x]::l.drop (cnt l x+1):=by rw [←List.drop_eq_getElem_cons hlt,List.take_append_drop]
 rw [he] at e
 generalize l.take (cnt l x)=a at *
 generalize l.drop (cnt l x+1)=b at *
 clear he hlt
 rw [e] at hp ⊢
 rw [List.filter_append,List.filter_cons]
 simp only [bne_self_eq_false,Bool.false_eq_true,if_false]
 rw [List.pairwise_append] at hp
 congr 1
 ·symm;rw [List.filter_eq_self]
  intro y hy
  have:=hp.2.2 y hy x (by simp)
  simp;omega
 ·symm;rw [List.filter_eq_self]
  intro y hy
  have:=(List.pairwise_cons.1 hp.2.1).1 y hy
  simp;omega
theorem del_length {l:List Int} (h:l.Pairwise (· <·)) {x:Int} (hx:x∈l):(del l x).length=l.length-1:=by
 obtain ⟨hlt,_⟩:=cnt_at h hx
 unfold del;rw [List.length_eraseIdx,if_pos hlt]
theorem sDrop_eq {l:List Int} (h:l.Pairwise (· <·)) (x:Int):sDrop l x=l.filter (fun y=>y != x):=by
 unfold sDrop
 split
 ·rename_i hc
  exact del_eq h ((has_iff _ _).1 hc)
 ·rename_i hc
  symm;rw [List.filter_eq_self]
  intro y hy
  have:y≠x:=fun e=>hc ((has_iff _ _).2 (e▸hy))
  simpa using this
theorem Good.drop {l:List Int} {m:Int} (h:Good l m) (x:Int):Good (sDrop l x) m:=by
 rw [sDrop_eq h.up]
 exact ⟨h.up.filter _,fun y hy=>h.node y (List.mem_filter.1 hy).1,by have:=List.length_filter_le (fun y=>y != x) l;have:=h.fit;omega,h.most,h.least⟩
theorem Good.add {l:List Int} {m:Int} (h:Good l m) (x:Int):Good (sAdd l m x) m:=by
 unfold sAdd
 split
 ·exact h
 ·rename_i hc
  split
  ·rename_i hx
   refine ⟨ins_up h.up (fun hm=>hc ((has_iff _ _).2 hm)),fun y hy=>?_,by rw [ins_length];omega,h.most,h.least⟩
   rcases (ins_mem l x y).1 hy with rfl | hy
   ·exact ⟨hx.1,hx.2.1⟩
   ·exact h.node y hy
  ·exact h
theorem Good.nil {m:Int} (h0:0≤m) (h1:m≤64):Good [] m:=⟨List.Pairwise.nil,(fun x h=>by cases h),by simpa using h0,h1,h0⟩
end
end Go.Proofs.YtelepohdfcjnfaaGreat
