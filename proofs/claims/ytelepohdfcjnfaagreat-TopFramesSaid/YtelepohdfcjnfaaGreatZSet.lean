/-
  Package nodeset: New, Has, All, Len, Full.
-/
import Derived.Test.YtelepohdfcjnfaaGreatZSetSpec
import Derived.Test.YtelepohdfcjnfaaGreatZRegionW
import Derived.Test.YtelepohdfcjnfaaGreatZOwn
namespace Go.Proofs.YtelepohdfcjnfaaGreat
set_option maxHeartbeats 1000000
set_option maxRecDepth 100000
open Go.RowKit Go.Proofs
theorem heap_alloc_if' (w:World) (o:Obj) (k:Nat):(w.alloc o).heap[k]?=if k=w.heap.size then some o else w.heap[k]?:=by
 by_cases h:k=w.heap.size
 ·subst h;rw [if_pos rfl];exact by simp [World.alloc, -World.alloc_eq]
 ·rw [if_neg h]
  rcases Nat.lt_or_ge k w.heap.size with h1 | h1
  ·exact Lib.alloc_old w o k h1
  ·rw [Array.getElem?_eq_none (by simp;omega),Array.getElem?_eq_none h1]
abbrev setV (a:Option Addr) (n cap:Nat) (m:Int):Value:= .agg #[.slice a n cap, .int .i64 m]
def SetOut2 (a0:Option Addr) (l:List Int) (m:Int) (b:Bool) (w:World) (e:Ending) (w':World):Prop:=∃ a cap,e= .returned (.tuple #[setV a l.length cap m, .bool b])∧SlA w' a l.length cap (ints l)∧Gr w w'∧∀ p,a=some p→a0=some p∨w.heap.size≤p.block
def SetOut3 (a0:Option Addr) (l0 l:List Int) (m:Int) (b:Bool) (w:World) (e:Ending) (w':World):Prop:=∃ a cap,e= .returned (.tuple #[setV a l.length cap m, .bool b])∧SlA w' a l.length cap (ints l)∧Gr w w'∧∀ p,a=some p→(a0=some p∧l=l0)∨w.heap.size≤p.block
theorem SetOut2.same {a:Option Addr} {l:List Int} {m:Int} {b:Bool} {w w':World} {e:Ending} (h:SetOut2 a l m b w e w'):SetOut3 a l l m b w e w':=by
 obtain ⟨x,c,h1,h2,h3,h4⟩:=h
 refine ⟨x,c,h1,h2,h3,fun p hp=>?_⟩
 rcases h4 p hp with h | h
 ·exact .inl ⟨h,rfl⟩
 ·exact .inr h
theorem SetOut2.fresh {a:Option Addr} {l l0:List Int} {m:Int} {b:Bool} {w w':World} {e:Ending} (h:SetOut2 none l m b w e w'):SetOut3 a l0 l m b w e w':=by
 obtain ⟨x,c,h1,h2,h3,h4⟩:=h
 refine ⟨x,c,h1,h2,h3,fun p hp=>?_⟩
 rcases h4 p hp with h | h
 ·cases h
 ·exact .inr h
def RowOut (l:List Int) (w:World) (e:Ending) (w':World):Prop:=∃ a cap,e= .returned (.slice a l.length cap)∧SlA w' a l.length cap (ints l)∧Gr w w'
def RowNew (l:List Int) (w:World) (e:Ending) (w':World):Prop:=∃ a cap,e= .returned (.slice a l.length cap)∧SlA w' a l.length cap (ints l)∧(∀ q,a=some q→w.heap.size≤q.block)∧Gr w w'
theorem RowNew.row {l:List Int} {w w':World} {e:Ending} (h:RowNew l w e w'):RowOut l w e w':=by
 obtain ⟨a,c,h1,h2, -, h3⟩:=h
 exact ⟨a,c,h1,h2,h3⟩
def OwnOut (l:List Int) (w:World) (e:Ending) (w':World):Prop:=∃ v,e= .returned v∧w'.ownsRow w.heap.size 3 1 v l.length (ints l)∧Below w.heap.size w w'
theorem setNew_any (m:Int) (w:World):Calls Tryz.prog 67 #[.int .i64 m] w fun e w'=>e= .returned (setV none 0 0 (min (max m 0) 64))∧Gr w w':=by
 obtain ⟨q,hq⟩:∃ q,min (max m 0) 64=q:=⟨_,rfl⟩
 rw [hq]
 have HQ:=Lib.hid hq;clear hq
 go_enter Tryz.func67,Tryz.ntmps67
 go_wp2_with fail
 exact bodyPost_ret (v:=setV none 0 0 q) (by simp [results,Tryz.results67,go_sem,HQ.out]) rfl ⟨rfl,(Fr.refl _ _).alloc _⟩
theorem setHas_any (a:Option Addr) (cap:Nat) (l:List Int) (m n:Int) (w:World) (hs:SlA w a l.length cap (ints l)) (hg:Good l m):
  Calls Tryz.prog 16 #[setV a l.length cap m, .int .i64 n] w fun e w'=>e= .returned (.bool (has l n))∧Gr w w':=by
 obtain ⟨w1,hw1⟩:∃ w1,w1=w.alloc (.cells #[.slice a l.length cap, .int .i64 m] 58):=⟨_,rfl⟩
 have hf1:Gr w w1:=by rw [hw1];exact (Fr.refl _ _).alloc _
 have hb:=bsearch_any a cap l n w1 (hs.keep hf1 (fun _ _ h=>h)) hg.le (by have:=hg.len;omega)
 have HB:=Lib.hid hb;clear hb
 have F1:=Lib.hid hf1;clear hf1 hs hg
 unfold setV
 go_enter Tryz.func16,Tryz.ntmps16
 go_wp2_with fail
 rw [←hw1]
 clear hw1
 refine HB.out.mono ?_
 rintro e w2 ⟨rfl,q,rfl⟩
 go_wp2_with fail
 go_ret
 exact ⟨rfl,F1.out.drewN q⟩
theorem setAll_any (a:Option Addr) (cap:Nat) (l:List Int) (m:Int) (w:World) (hs:SlA w a l.length cap (ints l)) (hg:Good l m):
  Calls Tryz.prog 43 #[setV a l.length cap m] w (OwnOut l w):=by
 obtain ⟨w1,hw1⟩:∃ w1,w1=w.alloc (.cells #[.slice a l.length cap, .int .i64 m] 58):=⟨_,rfl⟩
 have hb1:Below w.heap.size w w1:=by rw [hw1];exact (Below.refl _ _).alloc (Nat.le_refl _) _
 have hs1:w.heap.size≤w1.heap.size:=hb1.size
 have hc:=clone_int a l.length cap (ints l) w1 (hs.below hb1 (Nat.le_refl _)) (by simp) (one_map _ _ (fun _=>rfl)) (by have:=hg.len;omega)
 have HC:=Lib.hid hc;clear hc
 have B1:=Lib.hid hb1;clear hb1 hs hg
 unfold setV
 go_enter Tryz.func43,Tryz.ntmps43
 go_wp2_with fail
 rw [←hw1]
 clear hw1
 refine HC.out.mono ?_
 rintro e w2 ⟨v,rfl,hown,_,hb2⟩
 have HO:=Lib.hid (own_base hown hs1)
 have B2:=Lib.hid (B1.out.trans (hb2.mono hs1));clear hown hb2
 go_wp2_with fail
 go_ret
 exact ⟨v,rfl,HO.out,B2.out⟩
theorem setLen_any (a:Option Addr) (n cap:Nat) (m:Int) (w:World):Calls Tryz.prog 23 #[setV a n cap m] w fun e w'=>e= .returned (.int .i64 n)∧Gr w w':=by
 unfold setV
 go_enter Tryz.func23,Tryz.ntmps23
 go_wp2_with fail
 go_ret
 exact ⟨rfl,(Fr.refl _ _).alloc _⟩
theorem setFull_any (a:Option Addr) (n cap:Nat) (m:Int) (w:World):Calls Tryz.prog 68 #[setV a n cap m] w fun e w'=>e= .returned (.bool (decide (m≤(n:Int))))∧Gr w w':=by
 unfold setV
 go_enter Tryz.func68,Tryz.ntmps68
 go_wp2_with fail
 go_ret
 exact ⟨rfl,(Fr.refl _ _).alloc _⟩
end Go.Proofs.YtelepohdfcjnfaaGreat
