/-
  Package pipe: a bounded way of items over a channel that one goroutine uses.
-/
import Derived.Test.YtelepohdfcjnfaaGreatZSta
import Derived.Test.YtelepohdfcjnfaaGreatZMsgDec
import Derived.Conc.LoneCalls
import Derived.Conc.LoneSelect
import Derived.Conc.LoneSelectN
import Derived.KernelRfl
import Derived.MapKept
namespace Go.Proofs.YtelepohdfcjnfaaGreat
set_option maxRecDepth 100000
section
open Go.RowKit Go.Proofs Go.Conc
structure PIt where
 brk:Bool
 txt:List UInt8
deriving DecidableEq
abbrev PIt.cs (x:PIt):List Value:=[.bool x.brk, .string ⟨x.txt.toArray⟩]
abbrev PIt.val (x:PIt):Value:= .agg #[.bool x.brk, .string ⟨x.txt.toArray⟩]
def ChAt (w:World) (c:Nat) (l:List PIt):Prop:=∃ s r,w.heap[c]?=some (.chan 64 (l.map PIt.val).toArray false s r false)
def PipeAt (w:World) (pb c:Nat) (l:List PIt):Prop:=w.heap[pb]?=some (.cells #[.chan (some c)] 162 (0,0))∧ChAt w c l
theorem setCh_fr (w:World) (c cap:Nat) (buf:Array Value) (cl:Bool) (s r:Nat) (tm:Bool):Fr (fun k=>k=c) w (w.setChan c cap buf cl s r tm):=
 ⟨rfl,rfl,rfl,by simp [World.setChan],fun k hk hS=>by simp only [World.setChan];rw [Array.getElem?_setIfInBounds_ne (fun e=>hS e.symm)]⟩
theorem setCh_at (w:World) {c:Nat} (hc:c<w.heap.size) (l:List PIt) (s r:Nat):ChAt (w.setChan c 64 (l.map PIt.val).toArray false s r false) c l:=
 ⟨s,r,heap_setChan w c 64 _ false s r false hc⟩
theorem pipePut_any (pb c:Nat) (l:List PIt) (x:PIt) (W:World) (h:PipeAt W pb c l):
  Calls Tryz.prog 75 #[.pointer (some ⟨pb,0,none⟩),x.val] W fun e w'=>e= .returned (.bool (decide (l.length<64)))∧Fr (fun k=>k=c) W w'∧ChAt w' c (if l.length<64 then l++[x] else l):=by
 obtain ⟨h1,s,r,h2⟩:=h
 refine calls_of_loneTo fun cs=>?_
 have e:Frame.enter Tryz.prog 75 #[.pointer (some ⟨pb,0,none⟩),x.val] .normal=(base 75).at ⟨#[.pointer (some ⟨pb,0,none⟩),x.val,undef,undef,undef,undef,undef,undef,undef,undef,undef,undef,undef],[]⟩ [.code (Tryz.f75.body.getD .skip)]:=by
  simp [Frame.enter,Frame.at,Tryz.func75,base,Tryz.f75]
 rw [e]
 have hb:pb<W.heap.size:=(Array.getElem?_eq_some_iff.1 h1).1
 have hw1:(W.alloc (.cells #[.bool x.brk, .string ⟨x.txt.toArray⟩] 88)).cell? ⟨pb,0,none⟩=some (.chan (some c)):=by
  have h3:(W.alloc (.cells #[.bool x.brk, .string ⟨x.txt.toArray⟩] 88)).heap[pb]?=some (.cells #[.chan (some c)] 162 (0,0)):=by rw [heap_alloc_if,if_neg (by omega)];exact h1
  rw [Lib.cell_of_heap h3]
  rfl
 have hw2:(W.alloc (.cells #[.bool x.brk, .string ⟨x.txt.toArray⟩] 88)).heap[c]?=some (.chan 64 (l.map PIt.val).toArray false s r false):=by
  have hc:c<W.heap.size:=(Array.getElem?_eq_some_iff.1 h2).1
  rw [heap_alloc_if,if_neg (by omega)];exact h2
 have hcs:c<(W.alloc (.cells #[.bool x.brk, .string ⟨x.txt.toArray⟩] 88)).heap.size:=(Array.getElem?_eq_some_iff.1 hw2).1
 refine LoneTo.goes (n:=18) ?_
 simp only [Tryz.f75,Option.getD_some]
 s_c stepG_seq
 s_reg
 s_op
 s_op
 s_c stepG_region_end
 s_c stepG_seq
 s_c stepG_seq
 s_reg
 s_op
 s_op
 s_op
 s_op
 s_c stepG_region_end
 s_reg
 s_op
 s_c stepG_region_end
 s_c stepG_seq
 s_reg
 s_stop
 by_cases hl:l.length<64
 ·refine LoneTo.step (step_lone_select_send_room (c:=c) (v:= .agg #[.bool x.brk, .string ⟨x.txt.toArray⟩]) (z':= .agg #[.bool false, .string ⟨#[]⟩]) (stepG_comm (cases:= #[scase c (.agg #[.bool x.brk, .string ⟨x.txt.toArray⟩]) (.agg #[.bool false, .string ⟨#[]⟩])]) (blocking:=false) (shape:= .select) (w':=W.alloc (.cells #[.bool x.brk, .string ⟨x.txt.toArray⟩] 88)) rfl rfl (by decide) (by simp [go_sem,execOp,scase,Act.eval])) hw2 (by simpa using hl)) ?_
  rw [Frame.finish_at]
  walk_nrm
  refine LoneTo.goes (n:=10) ?_
  s_op
  s_op
  s_c stepG_region_end
  s_c stepG_block
  s_cond true
  s_c stepG_seq
  s_reg
  s_op
  s_c stepG_region_end
  s_c stepG_ret'
  s_stop
  refine LoneTo.done ⟨.returned (.bool true),_,rfl,⟨by rw [decide_eq_true hl],?_,?_⟩,rfl,rfl,rfl,rfl,_,Tryz.func75,by simp [results,Tryz.f75,Frame.at]⟩
  ·exact ((Fr.refl _ _).alloc _).trans (setCh_fr _ c _ _ _ _ _ _) (fun _ h=> .inl h)
  ·rw [if_pos hl]
   have h4:=setCh_at _ hcs (l++[x]) (s+1) r
   simpa using h4
 ·refine LoneTo.step (step_lone_select_send_full (c:=c) (v:= .agg #[.bool x.brk, .string ⟨x.txt.toArray⟩]) (z':= .agg #[.bool false, .string ⟨#[]⟩]) (stepG_comm (cases:= #[scase c (.agg #[.bool x.brk, .string ⟨x.txt.toArray⟩]) (.agg #[.bool false, .string ⟨#[]⟩])]) (blocking:=false) (shape:= .select) (w':=W.alloc (.cells #[.bool x.brk, .string ⟨x.txt.toArray⟩] 88)) rfl rfl (by decide) (by simp [go_sem,execOp,scase,Act.eval])) hw2 (by simpa using hl)) ?_
  rw [Frame.finish_at]
  walk_nrm
  refine LoneTo.goes (n:=10) ?_
  s_op
  s_op
  s_c stepG_region_end
  s_c stepG_block
  s_cond false
  s_c stepG_seq
  s_reg
  s_op
  s_c stepG_region_end
  s_c stepG_ret'
  s_stop
  refine LoneTo.done ⟨.returned (.bool false),_,rfl,⟨by rw [decide_eq_false hl],?_,?_⟩,rfl,rfl,rfl,rfl,_,Tryz.func75,by simp [results,Tryz.f75,Frame.at]⟩
  ·exact (Fr.refl _ _).alloc _
  ·rw [if_neg hl]
   exact ⟨s,r,hw2⟩
abbrev PIt.zero:PIt:=⟨false,[]⟩
theorem pipeTake_nil (W:World):Calls Tryz.prog 62 #[.pointer none] W fun e w'=>e= .returned (.tuple #[PIt.zero.val, .bool false])∧Gr W w':=by
 go_enter Tryz.func62,Tryz.ntmps62
 go_wp2_with fail
 exact bodyPost_ret (v:= .tuple #[PIt.zero.val, .bool false]) (by simp [results,Tryz.results62,go_sem]) rfl ⟨rfl,(Fr.refl _ _).alloc _⟩
theorem pipeTake_some (pb c:Nat) (x:PIt) (l:List PIt) (W:World) (h:PipeAt W pb c (x::l)):
  Calls Tryz.prog 62 #[.pointer (some ⟨pb,0,none⟩)] W fun e w'=>e= .returned (.tuple #[x.val, .bool true])∧Fr (fun k=>k=c) W w'∧ChAt w' c l:=by
 obtain ⟨h1,s,r,h2⟩:=h
 refine calls_of_loneTo fun cs=>?_
 have e:Frame.enter Tryz.prog 62 #[.pointer (some ⟨pb,0,none⟩)] .normal=(base 62).at ⟨#[.pointer (some ⟨pb,0,none⟩),undef,undef,undef,undef,undef,undef,undef,undef,undef,undef,undef,undef,undef,undef,undef,undef,undef],[]⟩ [.code (Tryz.f62.body.getD .skip)]:=by
  simp [Frame.enter,Frame.at,Tryz.func62,base,Tryz.f62]
 rw [e]
 have hb:pb<W.heap.size:=(Array.getElem?_eq_some_iff.1 h1).1
 have hc:c<W.heap.size:=(Array.getElem?_eq_some_iff.1 h2).1
 have hw1:(W.alloc (.cells #[.bool false, .string ⟨#[]⟩] 88)).cell? ⟨pb,0,none⟩=some (.chan (some c)):=by
  have h3:(W.alloc (.cells #[.bool false, .string ⟨#[]⟩] 88)).heap[pb]?=some (.cells #[.chan (some c)] 162 (0,0)):=by rw [heap_alloc_if,if_neg (by omega)];exact h1
  rw [Lib.cell_of_heap h3]
  rfl
 obtain ⟨buf,hbuf⟩:∃ buf,buf=((x::l).map PIt.val).toArray:=⟨_,rfl⟩
 have hw2:(W.alloc (.cells #[.bool false, .string ⟨#[]⟩] 88)).heap[c]?=some (.chan 64 buf false s r false):=by
  rw [heap_alloc_if,if_neg (by omega),hbuf];exact h2
 have hbs:0<buf.size:=by rw [hbuf];simp
 have hbf:buf.getD 0 undef= .agg #[.bool x.brk, .string ⟨x.txt.toArray⟩]:=by rw [hbuf];simp
 have hbe:buf.extract 1 buf.size=(l.map PIt.val).toArray:=by
  rw [hbuf]
  simp [List.take_of_length_le]
 clear hbuf
 refine LoneTo.goes (n:=22) ?_
 simp only [Tryz.f62,Option.getD_some]
 s_c stepG_seq
 s_reg
 s_op
 s_op
 s_c stepG_region_end
 s_c stepG_seq
 s_c stepG_seq
 s_reg
 s_op
 s_op
 s_c stepG_region_end
 s_cond false
 s_c stepG_skip
 s_c stepG_seq
 s_reg
 s_op
 s_op
 s_op
 s_op
 s_c stepG_region_end
 s_c stepG_seq
 s_reg
 s_stop
 refine LoneTo.step (step_lone_select_recv_buf (c:=c) (z:= .agg #[.bool false, .string ⟨#[]⟩]) (stepG_comm (cases:= #[rcase c (.agg #[.bool false, .string ⟨#[]⟩])]) (blocking:=false) (shape:= .select) (w':=W.alloc (.cells #[.bool false, .string ⟨#[]⟩] 88)) rfl rfl (by decide) (by simp [go_sem,execOp,rcase,Act.eval])) hw2 hbs) ?_
 rw [Frame.finish_at,hbf,hbe]
 walk_nrm
 obtain ⟨w2,hw⟩:∃ w2,w2=(W.alloc (.cells #[.bool false, .string ⟨#[]⟩] 88)).setChan c 64 (l.map PIt.val).toArray false s (r+1) false:=⟨_,rfl⟩
 rw [←hw]
 have hF:Fr (fun k=>k=c) W w2:=by rw [hw];exact ((Fr.refl _ _).alloc _).trans (setCh_fr _ c _ _ _ _ _ _) (fun _ h=> .inl h)
 have hC:ChAt w2 c l:=by rw [hw];exact setCh_at _ (by simp;omega) l s (r+1)
 have hZ:w2.heap[W.heap.size]?=some (.cells #[.bool false, .string ⟨#[]⟩] 88 (0,0)):=by
  rw [hw,(setCh_fr _ c _ _ _ _ _ _).block _ (by simp) (by omega),heap_alloc_if,if_pos rfl]
 clear hw hw1 hw2
 obtain ⟨w3,hw3⟩:∃ w3,w3=w2.alloc (.cells #[.bool x.brk, .string ⟨x.txt.toArray⟩] 88):=⟨_,rfl⟩
 have hlt:W.heap.size<w2.heap.size:=(Array.getElem?_eq_some_iff.1 hZ).1
 have hZ3:w3.heap[W.heap.size]?=some (.cells #[.bool false, .string ⟨#[]⟩] 88 (0,0)):=by rw [hw3,heap_alloc_if,if_neg (by omega)];exact hZ
 have g0:w3.cell? ⟨W.heap.size,0,none⟩=some (.bool false):=by rw [Lib.cell_of_heap hZ3];rfl
 have f0:w3.frozen? ⟨W.heap.size,0,none⟩=false:=Lib.frozen_of_heap hZ3 0
 have hZ4:(w3.setCell ⟨W.heap.size,0,none⟩ (.bool x.brk)).heap[W.heap.size]?=some (.cells #[.bool x.brk, .string ⟨#[]⟩] 88 (0,0)):=heap_set1 hZ3 0 (.bool x.brk)
 have g1:(w3.setCell ⟨W.heap.size,0,none⟩ (.bool x.brk)).cell? ⟨W.heap.size,1,none⟩=some (.string ⟨#[]⟩):=by rw [Lib.cell_of_heap hZ4];rfl
 have f1:(w3.setCell ⟨W.heap.size,0,none⟩ (.bool x.brk)).frozen? ⟨W.heap.size,1,none⟩=false:=Lib.frozen_of_heap hZ4 1
 obtain ⟨w5,hw5⟩:∃ w5,w5=(w3.setCell ⟨W.heap.size,0,none⟩ (.bool x.brk)).setCell ⟨W.heap.size,1,none⟩ (.string ⟨x.txt.toArray⟩):=⟨_,rfl⟩
 have hZ5:w5.heap[W.heap.size]?=some (.cells #[.bool x.brk, .string ⟨x.txt.toArray⟩] 88 (0,0)):=by rw [hw5];exact heap_set1 hZ4 1 (.string ⟨x.txt.toArray⟩)
 have g2:w5.cell? ⟨W.heap.size,0,none⟩=some (.bool x.brk):=by rw [Lib.cell_of_heap hZ5];rfl
 have g3:w5.cell? ⟨W.heap.size,1,none⟩=some (.string ⟨x.txt.toArray⟩):=by rw [Lib.cell_of_heap hZ5];rfl
 have hF5:Fr (fun k=>k=c∨k=W.heap.size) W w5:=by
  rw [hw5,hw3]
  exact (((hF.mono (fun _ _ h=> .inl h)).alloc _).setCell (.inl (.inr rfl)) _).setCell (.inl (.inr rfl)) _
 have hC5:ChAt w5 c l:=by
  obtain ⟨s',r',h⟩:=hC
  refine ⟨s',r',?_⟩
  have hcl:c<w2.heap.size:=(Array.getElem?_eq_some_iff.1 h).1
  have f:Fr (fun k=>k=W.heap.size) w2 w5:=by
   rw [hw5,hw3]
   exact (((Fr.refl (fun k=>k=W.heap.size) w2).alloc _).setCell (p:=⟨W.heap.size,0,none⟩) (.inl rfl) _).setCell (p:=⟨W.heap.size,1,none⟩) (.inl rfl) _
  rw [f.block c hcl (by omega)]
  exact h
 have H5:=Lib.hid hw5
 clear hw5
 refine LoneTo.goes (n:=18) ?_
 s_op
 s_op
 s_c stepG_region_end
 s_c stepG_block
 s_cond true
 s_c stepG_seq
 s_reg
 s_op
 s_op
 s_op
 s_c stepG_region_end
 s_c stepG_seq
 s_reg
 s_op
 rw [←hw3]
 clear hw3 hlt
 s_op
 rw [←H5.out]
 s_op
 s_c stepG_region_end
 s_c stepG_ret'
 s_stop
 refine LoneTo.done ⟨.returned (.tuple #[x.val, .bool true]),_,rfl,⟨rfl,?_,hC5⟩,rfl,rfl,rfl,rfl,_,Tryz.func62,by simp [results,Tryz.f62,Frame.at,go_sem,g2,g3]⟩
 exact hF5.mono (fun k hk h=>h.elim id (fun e=>absurd e (by omega)))
theorem pipeTake_none (pb c:Nat) (W:World) (h:PipeAt W pb c []):
  Calls Tryz.prog 62 #[.pointer (some ⟨pb,0,none⟩)] W fun e w'=>e= .returned (.tuple #[PIt.zero.val, .bool false])∧Fr (fun k=>k=c) W w'∧ChAt w' c []:=by
 obtain ⟨h1,s,r,h2⟩:=h
 refine calls_of_loneTo fun cs=>?_
 have e:Frame.enter Tryz.prog 62 #[.pointer (some ⟨pb,0,none⟩)] .normal=(base 62).at ⟨#[.pointer (some ⟨pb,0,none⟩),undef,undef,undef,undef,undef,undef,undef,undef,undef,undef,undef,undef,undef,undef,undef,undef,undef],[]⟩ [.code (Tryz.f62.body.getD .skip)]:=by
  simp [Frame.enter,Frame.at,Tryz.func62,base,Tryz.f62]
 rw [e]
 have hb:pb<W.heap.size:=(Array.getElem?_eq_some_iff.1 h1).1
 have hc:c<W.heap.size:=(Array.getElem?_eq_some_iff.1 h2).1
 have hw1:(W.alloc (.cells #[.bool false, .string ⟨#[]⟩] 88)).cell? ⟨pb,0,none⟩=some (.chan (some c)):=by
  have h3:(W.alloc (.cells #[.bool false, .string ⟨#[]⟩] 88)).heap[pb]?=some (.cells #[.chan (some c)] 162 (0,0)):=by rw [heap_alloc_if,if_neg (by omega)];exact h1
  rw [Lib.cell_of_heap h3]
  rfl
 have hw2:(W.alloc (.cells #[.bool false, .string ⟨#[]⟩] 88)).heap[c]?=some (.chan 64 #[] false s r false):=by
  rw [heap_alloc_if,if_neg (by omega)];exact h2
 refine LoneTo.goes (n:=22) ?_
 simp only [Tryz.f62,Option.getD_some]
 s_c stepG_seq
 s_reg
 s_op
 s_op
 s_c stepG_region_end
 s_c stepG_seq
 s_c stepG_seq
 s_reg
 s_op
 s_op
 s_c stepG_region_end
 s_cond false
 s_c stepG_skip
 s_c stepG_seq
 s_reg
 s_op
 s_op
 s_op
 s_op
 s_c stepG_region_end
 s_c stepG_seq
 s_reg
 s_stop
 refine LoneTo.step (step_lone_select_default (c:=c) (z:= .agg #[.bool false, .string ⟨#[]⟩]) (stepG_comm (cases:= #[rcase c (.agg #[.bool false, .string ⟨#[]⟩])]) (blocking:=false) (shape:= .select) (w':=W.alloc (.cells #[.bool false, .string ⟨#[]⟩] 88)) rfl rfl (by decide) (by simp [go_sem,execOp,rcase,Act.eval])) hw2) ?_
 rw [Frame.finish_at]
 walk_nrm
 obtain ⟨w3,hw3⟩:∃ w3,w3=W.alloc (.cells #[.bool false, .string ⟨#[]⟩] 88):=⟨_,rfl⟩
 have hZ3:w3.heap[W.heap.size]?=some (.cells #[.bool false, .string ⟨#[]⟩] 88 (0,0)):=by rw [hw3,heap_alloc_if,if_pos rfl]
 have hF3:Fr (fun k=>k=c) W w3:=by rw [hw3];exact (Fr.refl _ _).alloc _
 have hC3:ChAt w3 c []:=by rw [hw3];exact ⟨s,r,hw2⟩
 have g0:w3.cell? ⟨W.heap.size,0,none⟩=some (.bool false):=by rw [Lib.cell_of_heap hZ3];rfl
 have f0:w3.frozen? ⟨W.heap.size,0,none⟩=false:=Lib.frozen_of_heap hZ3 0
 have hZ4:(w3.setCell ⟨W.heap.size,0,none⟩ (.bool false)).heap[W.heap.size]?=some (.cells #[.bool false, .string ⟨#[]⟩] 88 (0,0)):=heap_set1 hZ3 0 (.bool false)
 have g1:(w3.setCell ⟨W.heap.size,0,none⟩ (.bool false)).cell? ⟨W.heap.size,1,none⟩=some (.string ⟨#[]⟩):=by rw [Lib.cell_of_heap hZ4];rfl
 have f1:(w3.setCell ⟨W.heap.size,0,none⟩ (.bool false)).frozen? ⟨W.heap.size,1,none⟩=false:=Lib.frozen_of_heap hZ4 1
 obtain ⟨w5,hw5⟩:∃ w5,w5=(w3.setCell ⟨W.heap.size,0,none⟩ (.bool false)).setCell ⟨W.heap.size,1,none⟩ (.string ⟨#[]⟩):=⟨_,rfl⟩
 have hZ5:w5.heap[W.heap.size]?=some (.cells #[.bool false, .string ⟨#[]⟩] 88 (0,0)):=by rw [hw5];exact heap_set1 hZ4 1 (.string ⟨#[]⟩)
 have g2:w5.cell? ⟨W.heap.size,0,none⟩=some (.bool false):=by rw [Lib.cell_of_heap hZ5];rfl
 have g3:w5.cell? ⟨W.heap.size,1,none⟩=some (.string ⟨#[]⟩):=by rw [Lib.cell_of_heap hZ5];rfl
 have hF5:Fr (fun k=>k=W.heap.size) w3 w5:=by
  rw [hw5]
  exact ((Fr.refl (fun k=>k=W.heap.size) w3).setCell (p:=⟨W.heap.size,0,none⟩) (.inl rfl) _).setCell (p:=⟨W.heap.size,1,none⟩) (.inl rfl) _
 have hC5:ChAt w5 c []:=by
  obtain ⟨s',r',h⟩:=hC3
  refine ⟨s',r',?_⟩
  rw [hF5.block c (Array.getElem?_eq_some_iff.1 h).1 (by omega)]
  exact h
 have hF6:Fr (fun k=>k=c) W w5:=hF3.trans hF5 (fun k e=> .inr (by omega))
 have H5:=Lib.hid hw5
 clear hw5
 rw [←hw3]
 clear hw3 hw1 hw2
 refine LoneTo.goes (n:=12) ?_
 s_op
 s_op
 s_c stepG_region_end
 s_c stepG_block
 s_cond false
 s_c stepG_seq
 s_reg
 s_op
 s_op
 rw [←H5.out]
 s_op
 s_c stepG_region_end
 s_c stepG_ret'
 s_stop
 exact LoneTo.done ⟨.returned (.tuple #[PIt.zero.val, .bool false]),_,rfl,⟨rfl,hF6,hC5⟩,rfl,rfl,rfl,rfl,_,Tryz.func62,by simp [results,Tryz.f62,Frame.at,go_sem,g2,g3]⟩
theorem pipeTake_any (pb c:Nat) (l:List PIt) (W:World) (h:PipeAt W pb c l):
  Calls Tryz.prog 62 #[.pointer (some ⟨pb,0,none⟩)] W fun e w'=>e= .returned (.tuple #[(l.headD PIt.zero).val, .bool (!l.isEmpty)])∧Fr (fun k=>k=c) W w'∧ChAt w' c l.tail:=by
 cases l with
 | nil=>exact pipeTake_none pb c W h
 | cons x l=>exact pipeTake_some pb c x l W h
theorem ChAt.lt {w:World} {c:Nat} {l:List PIt} (h:ChAt w c l):c<w.heap.size:=by
 obtain ⟨s,r,h⟩:=h
 exact (Array.getElem?_eq_some_iff.1 h).1
theorem PipeAt.lt {w:World} {pb c:Nat} {l:List PIt} (h:PipeAt w pb c l):pb<w.heap.size:=(Array.getElem?_eq_some_iff.1 h.1).1
theorem PipeAt.ne {w:World} {pb c:Nat} {l:List PIt} (h:PipeAt w pb c l):pb≠c:=by
 rintro rfl
 obtain ⟨h1,s,r,h2⟩:=h
 rw [h1] at h2
 cases h2
theorem ChAt.keep {S:Nat→Prop} {w w':World} {c:Nat} {l:List PIt} (h:ChAt w c l) (f:Fr S w w') (hS:¬ S c):ChAt w' c l:=by
 obtain ⟨s,r,h⟩:=h
 exact ⟨s,r,by rw [f.block c (Array.getElem?_eq_some_iff.1 h).1 hS];exact h⟩
theorem PipeAt.next {w w':World} {pb c:Nat} {l l':List PIt} (h:PipeAt w pb c l) (f:Fr (fun k=>k=c) w w') (k:ChAt w' c l'):PipeAt w' pb c l':=
 ⟨by rw [f.block pb h.lt h.ne];exact h.1,k⟩
def chLen (w:World) (c:Nat):Nat:=match w.heap[c]? with
 | some (.chan _ buf _ _ _ _)=>buf.size
 | _=>0
theorem ChAt.len {w:World} {c:Nat} {l:List PIt} (h:ChAt w c l):chLen w c=l.length:=by
 obtain ⟨s,r,h⟩:=h
 simp [chLen,h]
def okP:Value→Nat
 | .bool true=>1
 | _=>0
theorem pipeClear_any (pb c:Nat) (l:List PIt) (W:World) (h:PipeAt W pb c l):
  Calls Tryz.prog 74 #[.pointer (some ⟨pb,0,none⟩)] W fun e w'=>e= .returned (.tuple #[])∧Fr (fun k=>k=c) W w'∧ChAt w' c []:=by
 go_enter Tryz.func74,Tryz.ntmps74
 go_wp2_with fail
 refine (pipeTake_any pb c l W h).mono ?_
 rintro e w1 ⟨rfl,f1,c1⟩
 go_wp2_with fail
 obtain ⟨x0,hx0⟩:∃ x,x=l.head?.getD PIt.zero:=⟨_,rfl⟩
 rw [←hx0]
 clear hx0
 obtain ⟨w2,hw2⟩:∃ w2,w2=w1.alloc (.cells #[.bool x0.brk, .string ⟨x0.txt.toArray⟩] 88):=⟨_,rfl⟩
 have f2:Gr w1 w2:=by rw [hw2];exact (Fr.refl _ _).alloc _
 have ST:Hid (Fr (fun k=>k=c) W w2∧W.heap.size≤w1.heap.size∧w2.heap[w1.heap.size]?=some (.cells #[.bool x0.brk, .string ⟨x0.txt.toArray⟩] 88 (0,0))∧PipeAt w2 pb c l.tail):=by
  refine Lib.hid ⟨f1.trans f2 (fun _ h=>h.elim),f1.size,by rw [hw2,heap_alloc_if,if_pos rfl],?_⟩
  have h2:=h.next f1 c1
  exact ⟨by rw [f2.block _ h2.lt (fun h=>h)];exact h2.1,h2.2.keep f2 (fun h=>h)⟩
 have HC:Hid (c<W.heap.size):=Lib.hid h.2.lt
 have HB:Hid ((!l.isEmpty)=false→l.tail=[]):=Lib.hid (fun h=>by cases l<;>simp_all)
 rw [←hw2]
 clear hw2 f2 f1 c1 h
 generalize (!l.isEmpty)=b at *
 generalize l.tail=l' at *
 generalize w1.heap.size=g at *
 go_loopw [2,3] (fun bx okv wr=>∃ (x:PIt) (b:Bool) (l':List PIt) (g:Nat),bx= .pointer (some ⟨g,0,none⟩)∧okv= .bool b∧(Fr (fun k=>k=c) W wr∧W.heap.size≤g∧wr.heap[g]?=some (.cells #[.bool x.brk, .string ⟨x.txt.toArray⟩] 88 (0,0))∧PipeAt wr pb c l')∧(b=false→l'=[])) (fun _ okv wr=>chLen wr c+okP okv)
 case atStart=>exact ⟨x0,b,l',g,rfl,rfl,ST.out,HB.out⟩
 case round=>
  clear ST HB
  obtain ⟨x,b,l',g,rfl,rfl,hst,hbb⟩:=hrel
  have ST:=Lib.hid hst
  have HB:=Lib.hid hbb
  clear hst hbb
  cases b with
  | false=>
   have h5:=ST.out.2.2.2.2
   rw [HB.out rfl] at h5
   go_wp2_with fail
   exact bodyPost_end (v:= .tuple #[]) (by simp [results,Tryz.results74,go_sem]) rfl ⟨rfl,ST.out.1,h5⟩
  | true=>
   have y0:wr.cell? ⟨g,0,none⟩=some (.bool x.brk):=by rw [Lib.cell_of_heap ST.out.2.2.1];rfl
   have y1:wr.cell? ⟨g,1,none⟩=some (.string ⟨x.txt.toArray⟩):=by rw [Lib.cell_of_heap ST.out.2.2.1];rfl
   go_wp2_with fail
   obtain ⟨w4,hw4⟩:∃ w4,w4=wr.alloc (.cells #[.bool x.brk, .string ⟨x.txt.toArray⟩] 88):=⟨_,rfl⟩
   have f4:Gr wr w4:=by rw [hw4];exact (Fr.refl _ _).alloc _
   have h4:w4.heap[wr.heap.size]?=some (.cells #[.bool x.brk, .string ⟨x.txt.toArray⟩] 88 (0,0)):=by rw [hw4,heap_alloc_if,if_pos rfl]
   rw [←hw4]
   clear hw4 y0 y1
   have P4:PipeAt w4 pb c l':=⟨by rw [f4.block _ ST.out.2.2.2.lt (fun h=>h)];exact ST.out.2.2.2.1,ST.out.2.2.2.2.keep f4 (fun h=>h)⟩
   refine (pipeTake_any pb c l' w4 P4).mono ?_
   rintro e w5 ⟨rfl,f5,c5⟩
   have ST5:=Lib.hid (show Fr (fun k=>k=c) W w5∧W.heap.size≤wr.heap.size∧w5.heap[wr.heap.size]?=some (.cells #[.bool x.brk, .string ⟨x.txt.toArray⟩] 88 (0,0))∧PipeAt w5 pb c l'.tail from
    ⟨(ST.out.1.trans f4 (fun _ h=>h.elim)).trans f5 (fun _ h=> .inl h),ST.out.1.size,by rw [f5.block _ (by have:=(Array.getElem?_eq_some_iff.1 h4).1;exact this) (by have:=HC.out;have:=ST.out.1.size;omega)];exact h4,P4.next f5 c5⟩)
   have HL:=Lib.hid (show chLen wr c=l'.length from ST.out.2.2.2.2.len)
   have HL5:=Lib.hid (show chLen w5 c=l'.tail.length from c5.len)
   clear f4 h4 P4 f5 c5
   go_wp2_with fail
   refine ⟨⟨x, !l'.isEmpty,l'.tail,_,rfl,rfl,ST5.out,fun h=>by cases l'<;>simp_all⟩,?_⟩
   rw [HL.out,HL5.out]
   cases l'<;>simp [okP]
theorem pipeBreak_any (pb c:Nat) (l:List PIt) (W:World) (h:PipeAt W pb c l):
  Calls Tryz.prog 39 #[.pointer (some ⟨pb,0,none⟩)] W fun e w'=>e= .returned (.tuple #[])∧Fr (fun k=>k=c) W w'∧ChAt w' c [⟨true,[]⟩]:=by
 go_enter Tryz.func39,Tryz.ntmps39
 go_wp2_with fail
 refine (pipeClear_any pb c l W h).mono ?_
 rintro e w1 ⟨rfl,f1,c1⟩
 go_wp2_with fail
 refine (pipePut_any pb c [] ⟨true,[]⟩ w1 (h.next f1 c1)).mono ?_
 rintro e w2 ⟨rfl,f2,c2⟩
 go_wp2_with fail
 exact bodyPost_end (v:= .tuple #[]) (by simp [results,Tryz.results39,go_sem]) rfl ⟨rfl,f1.trans f2 (fun _ h=> .inl h),by simpa using c2⟩
theorem pipeSend_any (pb c:Nat) (l:List PIt) (s:List UInt8) (W:World) (h:PipeAt W pb c l):
  Calls Tryz.prog 61 #[.pointer (some ⟨pb,0,none⟩), .string ⟨s.toArray⟩] W fun e w'=>e= .returned (.bool (decide (l.length<64)))∧Fr (fun k=>k=c) W w'∧ChAt w' c (if l.length<64 then l++[⟨false,s⟩] else l):=by
 have CP:=Lib.hid (pipePut_any pb c l ⟨false,s⟩ W h)
 generalize decide (l.length<64)=b at *
 generalize (if l.length<64 then l++[⟨false,s⟩] else l)=l' at *
 go_enter Tryz.func61,Tryz.ntmps61
 go_wp2_with fail
 refine CP.out.mono ?_
 rintro e w2 ⟨rfl,f2,c2⟩
 go_wp2_with fail
 go_ret
 exact ⟨rfl,f2,c2⟩
theorem pipeLen_nil (W:World):Calls Tryz.prog 45 #[.pointer none] W fun e w'=>e= .returned (.int .i64 0)∧W=w':=by
 go_enter Tryz.func45,Tryz.ntmps45
 go_wp2_with fail
 go_ret
 exact ⟨rfl,rfl⟩
theorem pipeLen_any (pb c:Nat) (l:List PIt) (W:World) (h:PipeAt W pb c l):Calls Tryz.prog 45 #[.pointer (some ⟨pb,0,none⟩)] W fun e w'=>e= .returned (.int .i64 l.length)∧W=w':=by
 obtain ⟨h1,s,r,h2⟩:=h
 have y0:W.cell? ⟨pb,0,none⟩=some (.chan (some c)):=by rw [Lib.cell_of_heap h1];rfl
 have hl:=run_len_chan (P:=Tryz.prog) 160 3 Tryz.underlying160 h2
 go_enter Tryz.func45,Tryz.ntmps45
 go_wp2_with fail
 go_ret
 exact ⟨rfl,rfl⟩
theorem pipe_mk (w:World):(Instr.makeChan 160 (.int .i64 64)).run Tryz.prog w= .ok (.chan (some w.heap.size)) (w.alloc (.chan 64 #[] false 0 0 false)):=by
 have h:(Tryz.prog.info? 88).map (·.bytes)=some 24:=by kernel_rfl
 obtain ⟨i,hi,hb⟩:=Option.map_eq_some_iff.1 h
 simpa using run_makeChan (P:=Tryz.prog) (w:=w) Tryz.underlying160 hi .i64 64 (by omega) (by rw [hb];omega)
theorem pipeNew_any (W:World):Calls Tryz.prog 73 #[] W fun e w'=>∃ pb c,e= .returned (.pointer (some ⟨pb,0,none⟩))∧Gr W w'∧PipeAt w' pb c []∧W.heap.size≤pb∧W.heap.size≤c:=by
 have hmc:=pipe_mk
 go_enter Tryz.func73,Tryz.ntmps73
 go_wp2_with fail
 go_ret
 refine ⟨_,W.heap.size,rfl,((Fr.refl _ _).alloc _).alloc _,⟨by rw [heap_alloc_if,if_pos (by simp)],0,0,?_⟩,by omega,by omega⟩
 rw [heap_alloc_if,if_neg (by simp),heap_alloc_if,if_pos rfl]
 rfl
end
section
open Go.RowKit Go.Proofs Go.Conc
def MpAt (w:World) (r:Nat) (l:List (Value×Value)):Prop:=∃ es clock,w.heap[r]?=some (.map es clock)∧es.toList.map (fun e=>(e.key,e.val))=l
open Classical in
noncomputable def fk (key:Value):List (Value×Value)→Nat→Option (Nat×Value)
 | [],_=>none
 | e::r,i=>if e.1=key then some (i,e.2) else fk key r (i+1)
noncomputable def mpGet (key:Value) (l:List (Value×Value)):Option Value:=(fk key l 0).map Prod.snd
theorem fk_snd (key:Value):∀ (l:List (Value×Value)) (i j:Nat),(fk key l i).map Prod.snd=(fk key l j).map Prod.snd
 | [],_,_=>rfl
 | e::r,i,j=>by
  unfold fk
  split
  ·rfl
  ·exact fk_snd key r (i+1) (j+1)
theorem mpGet_nil (key:Value):mpGet key []=none:=rfl
open Classical in
theorem mpGet_cons (key:Value) (e:Value×Value) (l:List (Value×Value)):mpGet key (e::l)=if e.1=key then some e.2 else mpGet key l:=by
 unfold mpGet
 rw [show fk key (e::l) 0=if e.1=key then some (0,e.2) else fk key l (0+1) from rfl]
 split
 ·rfl
 ·exact fk_snd key l 1 0
structure KeyOk (kt:TypeId) (K:Value→Prop):Prop where
 check:∀ (em:Bool) (w:World) (v:Value),K v→(Instr.checkKey em 10000 kt v).run Tryz.prog w= .ok () w
 find:∀ (w:World) (v:Value) (es:List MapEntry),K v→(∀ e∈es,K e.key)→(Instr.findKey kt v es).run Tryz.prog w= .ok (fk v (es.map (fun e=>(e.key,e.val))) 0) w
def KI (v:Value):Prop:=∃ n,v= .int .i64 n
def KW (v:Value):Prop:=∃ a b,v= .agg #[.int .i64 a, .int .i64 b]
theorem findNow_int (n:Int):∀ (es:List MapEntry) (i:Nat),(∀ e∈es,KI e.key)→Instr.findNow (.int .i64) (.int .i64 n) es i=some (fk (.int .i64 n) (es.map (fun e=>(e.key,e.val))) i)
 | [],_,_=>rfl
 | e::r,i,h=>by
  obtain ⟨m,hm⟩:=h e (List.mem_cons_self ..)
  rw [List.map_cons]
  unfold Instr.findNow fk
  rw [hm]
  simp only [Instr.sameNow,if_true]
  by_cases hnm:n=m
  ·subst hnm
   simp
  ·have h1:(n==m)=false:=by simpa using hnm
   have h2:¬ (Value.int IntKind.i64 m=Value.int IntKind.i64 n):=fun h=>hnm (by injection h with _ h;exact h.symm)
   rw [h1,if_neg h2]
   exact findNow_int n r (i+1) (fun e he=>h e (List.mem_cons_of_mem _ he))
theorem keyI:KeyOk 3 KI where
 check:=fun em w v ⟨n,hn⟩=>by
  subst hn
  unfold Instr.checkKey
  simp [run_underlying Tryz.underlying3,Result.andThen]
 find:=fun w v es ⟨n,hn⟩ h=>by
  subst hn
  exact MapKept.run_findKey Tryz.underlying3 (findNow_int n es 0 h)
theorem eql_way (w:World) (a b c d:Int):(Op.equal 121 (.agg #[.int .i64 a, .int .i64 b]) (.agg #[.int .i64 c, .int .i64 d])).run Tryz.prog w= .ok (decide (a=c∧b=d)) w:=by
 show (Op.equalIn 10000 121 _ _).run Tryz.prog w=_
 simp [go_sem]
 by_cases h1:a=c<;>by_cases h2:b=d<;>simp [h1,h2]
theorem findAsk_way (w:World) (a b:Int):∀ (es:List MapEntry) (i:Nat),(∀ e∈es,KW e.key)→(Instr.findAsking 121 (.agg #[.int .i64 a, .int .i64 b]) es i).run Tryz.prog w= .ok (fk (.agg #[.int .i64 a, .int .i64 b]) (es.map (fun e=>(e.key,e.val))) i) w
 | [],_,_=>rfl
 | e::r,i,h=>by
  obtain ⟨c,d,hm⟩:=h e (List.mem_cons_self ..)
  have ih:=findAsk_way w a b r (i+1) (fun e he=>h e (List.mem_cons_of_mem _ he))
  rw [List.map_cons]
  unfold Instr.findAsking fk
  simp only [hm,Sem.run_bind,eql_way,Result.andThen_ok]
  by_cases hnm:a=c∧b=d
  ·obtain ⟨rfl,rfl⟩:=hnm
   simp [hm]
  ·have h2:¬ (Value.agg #[.int IntKind.i64 c, .int IntKind.i64 d]=Value.agg #[.int IntKind.i64 a, .int IntKind.i64 b]):=fun h=>hnm (by simp at h;exact ⟨h.1.symm,h.2.symm⟩)
   rw [decide_eq_false hnm,hm,if_neg h2]
   simpa using ih
theorem keyW:KeyOk 121 KW where
 check:=fun em w v ⟨a,b,hn⟩=>by
  subst hn
  unfold Instr.checkKey
  have hi:∀ n,(Instr.checkKey em 9999 3 (.int .i64 n)).run Tryz.prog w= .ok () w:=fun n=>by
   unfold Instr.checkKey
   simp [run_underlying Tryz.underlying3,Result.andThen]
  simp [go_sem,hi]
 find:=fun w v es ⟨a,b,hn⟩ h=>by
  subst hn
  cases es with
  | nil=>simp [Instr.findKey,Instr.findNow,fk,go_sem]
  | cons e r=>
   have h1:=findAsk_way w a b (e::r) 0 h
   unfold Instr.findKey
   simp [run_underlying Tryz.underlying121,Instr.findNow,Instr.sameNow,Result.andThen]
   simpa using h1
theorem MpAt.keep {S:Nat→Prop} {w w':World} {r:Nat} {l:List (Value×Value)} (h:MpAt w r l) (f:Fr S w w') (hS:¬ S r):MpAt w' r l:=by
 obtain ⟨es,c,h1,h2⟩:=h
 exact ⟨es,c,by rw [f.block r (Array.getElem?_eq_some_iff.1 h1).1 hS];exact h1,h2⟩
theorem MpAt.lt {w:World} {r:Nat} {l:List (Value×Value)} (h:MpAt w r l):r<w.heap.size:=by
 obtain ⟨es,c,h1,h2⟩:=h
 exact (Array.getElem?_eq_some_iff.1 h1).1
theorem run_lookup_mp {kt t et:TypeId} {K:Value→Prop} (k:KeyOk kt K) (ht:Tryz.prog.underlying t=some (.map kt et)) {w:World} {r:Nat} {l:List (Value×Value)} (h:MpAt w r l) (hl:∀ e∈l,K e.1) {key:Value} (hk:K key)
  {z:Value} (hz:(zeroValue et).run Tryz.prog w= .ok z w) (ok:Bool):(Instr.lookup t (.map (some r)) key ok).run Tryz.prog w= .ok (if ok then .tuple #[(mpGet key l).getD z, .bool (mpGet key l).isSome] else (mpGet key l).getD z) w:=by
 obtain ⟨es,c,h1,h2⟩:=h
 have hf:=k.find w key es.toList hk (fun e he=>hl (e.key,e.val) (by rw [←h2];exact List.mem_map_of_mem he))
 rw [h2] at hf
 unfold mpGet
 have hc:=k.check es.isEmpty w key hk
 cases hfk:fk key l 0 with
 | none=>
  rw [hfk] at hf
  cases ok<;>simp [Instr.lookup,run_underlying ht,Result.andThen,MapKept.run_getObj_map h1,hc,hf,hz]
 | some x=>
  rw [hfk] at hf
  cases ok<;>simp [Instr.lookup,run_underlying ht,Result.andThen,MapKept.run_getObj_map h1,hc,hf]
theorem run_update_mp {kt t et:TypeId} {K:Value→Prop} (k:KeyOk kt K) (ht:Tryz.prog.underlying t=some (.map kt et)) {w:World} {r:Nat} {l:List (Value×Value)} (h:MpAt w r l) (hl:∀ e∈l,K e.1) {key:Value} (hk:K key)
  (hn:mpGet key l=none) (v:Value):∃ w',(Instr.mapUpdate t (.map (some r)) key v).run Tryz.prog w= .ok () w'∧Fr (fun k=>k=r) w w'∧MpAt w' r (l++[(key,v)]):=by
 obtain ⟨es,c,h1,h2⟩:=h
 have hf:=k.find w key es.toList hk (fun e he=>hl (e.key,e.val) (by rw [←h2];exact List.mem_map_of_mem he))
 rw [h2] at hf
 have hn':fk key l 0=none:=by unfold mpGet at hn;simpa using hn
 rw [hn'] at hf
 refine ⟨{ w with heap:=w.heap.setIfInBounds r (.map (es.push ⟨key,v,c⟩) (c+1)) },?_,?_,?_⟩
 ·simp [Instr.mapUpdate,run_underlying ht,MapKept.run_getObj_map h1,k.check _ w key hk,hf,MapKept.run_setObj_map _ h1,Result.andThen]
 ·exact ⟨rfl,rfl,rfl,by simp,fun k hk hS=>(MapKept.heap_set h1).2 k hS⟩
 ·exact ⟨_,_,(MapKept.heap_set h1).1,by simp [h2]⟩
structure Pp where
 a:Int
 b:Int
 pb:Nat
 c:Nat
abbrev wayV (a b:Int):Value:= .agg #[.int .i64 a, .int .i64 b]
abbrev liveL (live:List Int):List (Value×Value):=live.map fun n=>(.int .i64 n, .bool true)
abbrev pipeL (ps:List Pp):List (Value×Value):=ps.map fun x=>(wayV x.a x.b, .pointer (some ⟨x.pb,0,none⟩))
structure MeshR (w:World) (mb lb qb:Nat) (live:List Int) (ps:List Pp) (q:Int→Int→List PIt):Prop where
 blk:w.heap[mb]?=some (.cells #[.map (some lb), .map (some qb)] 95 (0,0))
 lm:MpAt w lb (liveL live)
 pm:MpAt w qb (pipeL ps)
 lq:lb≠qb
 pp:∀ x∈ps,PipeAt w x.pb x.c (q x.a x.b)
 no:∀ a b,(∀ x∈ps,x.a=a→x.b≠b)→q a b=[]
 nd:ps.Pairwise (fun x y=>x.c≠y.c)
 nk:ps.Pairwise (fun x y=>¬ (x.a=y.a∧x.b=y.b))
 lo:lb≤qb∧∀ x∈ps,lb≤x.c
theorem wayV_inj {a b c d:Int}:wayV a b=wayV c d↔a=c∧b=d:=by simp
theorem mpGet_live (n:Int) (l:List Int):mpGet (.int .i64 n) (liveL l)=if n∈l then some (.bool true) else none:=by
 induction l with
 | nil=>simp [mpGet_nil]
 | cons a r ih=>
  rw [liveL,List.map_cons,mpGet_cons]
  by_cases h:a=n
  ·subst h;simp
  ·have h2:¬ (Value.int IntKind.i64 a=Value.int IntKind.i64 n):=fun e=>h (by simpa using e)
   rw [if_neg h2,ih]
   simp [Ne.symm h]
theorem mpGet_pipes (a b:Int) (l:List Pp):(mpGet (wayV a b) (pipeL l)=none∧∀ x∈l,x.a=a→x.b≠b)∨∃ x∈l,x.a=a∧x.b=b∧mpGet (wayV a b) (pipeL l)=some (.pointer (some ⟨x.pb,0,none⟩)):=by
 induction l with
 | nil=>exact .inl ⟨mpGet_nil _,fun x hx=>nomatch hx⟩
 | cons y r ih=>
  rw [pipeL,List.map_cons,mpGet_cons]
  by_cases h:y.a=a∧y.b=b
  ·rw [if_pos (wayV_inj.2 h)]
   exact .inr ⟨y,List.mem_cons_self .., h.1,h.2,rfl⟩
  ·rw [if_neg (fun e=>h (wayV_inj.1 e))]
   rcases ih with ⟨h1,h2⟩ | ⟨x,hx,h1,h2,h3⟩
   ·refine .inl ⟨h1,fun x hx=>?_⟩
    rcases List.mem_cons.1 hx with rfl | hx
    ·exact fun h3 h4=>h ⟨h3,h4⟩
    ·exact h2 x hx
   ·exact .inr ⟨x,List.mem_cons_of_mem _ hx,h1,h2,h3⟩
theorem zBool (w:World):(zeroValue 4).run Tryz.prog w= .ok (.bool false) w:=by
 have h:(Tryz.prog.info? 4).map (·.zero)=some (some (.bool false)):=by kernel_rfl
 obtain ⟨i,hi,hz⟩:=Option.map_eq_some_iff.1 h
 simp [zeroValue,typeInfo,hi,hz]
theorem zPipe (w:World):(zeroValue 112).run Tryz.prog w= .ok (.pointer none) w:=by
 have h:(Tryz.prog.info? 112).map (·.zero)=some (some (.pointer none)):=by kernel_rfl
 obtain ⟨i,hi,hz⟩:=Option.map_eq_some_iff.1 h
 simp [zeroValue,typeInfo,hi,hz]
section
variable {W w:World} {mb lb qb:Nat} {live:List Int} {ps:List Pp} {q:Int→Int→List PIt}
theorem MeshR.c0 (h:MeshR W mb lb qb live ps q):W.cell? ⟨mb,0,none⟩=some (.map (some lb)):=by rw [Lib.cell_of_heap h.blk];rfl
theorem MeshR.c1 (h:MeshR W mb lb qb live ps q):W.cell? ⟨mb,1,none⟩=some (.map (some qb)):=by rw [Lib.cell_of_heap h.blk];rfl
theorem MeshR.liveOf (h:MeshR W mb lb qb live ps q) (n:Int):(Instr.lookup 92 (.map (some lb)) (.int .i64 n) false).run Tryz.prog W= .ok (.bool (decide (n∈live))) W:=by
 rw [run_lookup_mp keyI Tryz.underlying92 h.lm (fun e he=>by obtain ⟨m,_,rfl⟩:=List.mem_map.1 he;exact ⟨m,rfl⟩) ⟨n,rfl⟩ (zBool W),mpGet_live]
 by_cases hn:n∈live<;>simp [hn]
theorem MeshR.pipeOf (h:MeshR W mb lb qb live ps q) (a b:Int) (ok:Bool):(Instr.lookup 93 (.map (some qb)) (wayV a b) ok).run Tryz.prog W= .ok (if ok then .tuple #[(mpGet (wayV a b) (pipeL ps)).getD (.pointer none), .bool (mpGet (wayV a b) (pipeL ps)).isSome] else (mpGet (wayV a b) (pipeL ps)).getD (.pointer none)) W:=
 run_lookup_mp keyW Tryz.underlying93 h.pm (fun e he=>by obtain ⟨m,_,rfl⟩:=List.mem_map.1 he;exact ⟨m.a,m.b,rfl⟩) ⟨a,b,rfl⟩ (zPipe W) ok
end
theorem meshLive_any {W:World} {mb lb qb:Nat} {live:List Int} {ps:List Pp} {q:Int→Int→List PIt} (h:MeshR W mb lb qb live ps q) (n:Int):
  Calls Tryz.prog 37 #[.pointer (some ⟨mb,0,none⟩), .int .i64 n] W fun e w'=>e= .returned (.bool (decide (n∈live)))∧W=w':=by
 have y0:=h.c0
 have hl:=h.liveOf n
 clear h
 go_enter Tryz.func37,Tryz.ntmps37
 go_wp2_with fail
 go_ret
 exact ⟨rfl,rfl⟩
def Nc (w:World) (k:Nat):Prop:=∀ cs T z,w.heap[k]?≠some (.cells cs T z)
def Mc (lb:Nat) (w:World) (k:Nat):Prop:=Nc w k∧lb≤k
theorem Mc.back {lb:Nat} {W w:World} (f:Fr (Mc lb W) W w) {k:Nat} (h:Mc lb w k):Mc lb W k∨W.heap.size≤k:=by
 rcases Nat.lt_or_ge k W.heap.size with h1 | h1
 ·by_cases h2:Mc lb W k
  ·exact .inl h2
  ·refine .inl ⟨fun cs T z e=>?_,h.2⟩
   exact h.1 cs T z (by rw [f.block k h1 h2];exact e)
 ·exact .inr h1
theorem Fr.nc {lb:Nat} {a b c:World} (h:Fr (Mc lb a) a b) (k:Fr (Mc lb b) b c):Fr (Mc lb a) a c:=h.trans k (fun _ hk=>hk.back h)
theorem nc_ch {w:World} {c:Nat} {l:List PIt} (h:ChAt w c l):Nc w c:=by
 obtain ⟨s,r,h⟩:=h
 intro cs T z e
 rw [h] at e
 cases e
theorem nc_mp {w:World} {r:Nat} {l:List (Value×Value)} (h:MpAt w r l):Nc w r:=by
 obtain ⟨s,c,h,_⟩:=h
 intro cs T z e
 rw [h] at e
 cases e
theorem frNc_of {lb:Nat} {w w':World} {c:Nat} (f:Fr (fun k=>k=c) w w') (h:Nc w c) (hl:lb≤c):Fr (Mc lb w) w w':=f.mono (fun k _ e=>by subst e;exact ⟨h,hl⟩)
theorem frNc_gr {lb:Nat} {w w':World} (f:Gr w w'):Fr (Mc lb w) w w':=f.mono (fun _ _ h=>h.elim)
def upq (q:Int→Int→List PIt) (a b:Int) (l:List PIt):Int→Int→List PIt:=fun i j=>if i=a∧j=b then l else q i j
section
variable {W w':World} {mb lb qb:Nat} {live:List Int} {ps:List Pp} {q:Int→Int→List PIt}
theorem MeshR.gr (h:MeshR W mb lb qb live ps q) (f:Gr W w'):MeshR w' mb lb qb live ps q:=
 ⟨by rw [f.block _ (Array.getElem?_eq_some_iff.1 h.blk).1 (fun h=>h)];exact h.blk,h.lm.keep f (fun h=>h),h.pm.keep f (fun h=>h),h.lq,
  fun x hx=>⟨by rw [f.block _ (h.pp x hx).lt (fun h=>h)];exact (h.pp x hx).1,(h.pp x hx).2.keep f (fun h=>h)⟩,h.no,h.nd,h.nk,h.lo⟩
theorem MeshR.keep (h:MeshR W mb lb qb live ps q) {b:Nat} {T:TypeId} (f:Fr (fun k=>k=b) W w') (ht:Ty W b T) (hn:¬ KpT T):MeshR w' mb lb qb live ps q:=by
 obtain ⟨cs,z,hb⟩:=ht
 have n1:∀ {k:Nat} {cs':Array Value} {T':TypeId} {z':Nat×Nat},W.heap[k]?=some (.cells cs' T' z')→KpT T'→k≠b:=by
  intro k cs' T' z' e hk e2
  subst e2
  rw [e] at hb
  cases hb
  exact hn hk
 have n2:∀ {k:Nat},Nc W k→k≠b:=fun h e=>h cs T z (by rw [e];exact hb)
 exact ⟨by rw [f.block _ (Array.getElem?_eq_some_iff.1 h.blk).1 (n1 h.blk (.inl rfl))];exact h.blk,h.lm.keep f (n2 (nc_mp h.lm)),h.pm.keep f (n2 (nc_mp h.pm)),h.lq,
  fun x hx=>⟨by rw [f.block _ (h.pp x hx).lt (n1 (h.pp x hx).1 (.inr rfl))];exact (h.pp x hx).1,(h.pp x hx).2.keep f (n2 (nc_ch (h.pp x hx).2))⟩,h.no,h.nd,h.nk,h.lo⟩
theorem MeshR.pipe (h:MeshR W mb lb qb live ps q) {x:Pp} (hx:x∈ps) (f:Fr (fun k=>k=x.c) W w') {l:List PIt} (k:ChAt w' x.c l):MeshR w' mb lb qb live ps (upq q x.a x.b l):=by
 have nx:=nc_ch (h.pp x hx).2
 refine ⟨?_,h.lm.keep f ?_,h.pm.keep f ?_,h.lq,fun y hy=>?_,fun a b hab=>?_,h.nd,h.nk,h.lo⟩
 ·rw [f.block _ (Array.getElem?_eq_some_iff.1 h.blk).1 (fun e=>nx _ _ _ (by rw [←e];exact h.blk))];exact h.blk
 ·rintro rfl
  obtain ⟨es,cl,h1,_⟩:=h.lm
  obtain ⟨s,r,h2⟩:=(h.pp x hx).2
  rw [h1] at h2;cases h2
 ·rintro rfl
  obtain ⟨es,cl,h1,_⟩:=h.pm
  obtain ⟨s,r,h2⟩:=(h.pp x hx).2
  rw [h1] at h2;cases h2
 ·have hp:w'.heap[y.pb]?=some (.cells #[.chan (some y.c)] 162 (0,0)):=by
   rw [f.block _ (h.pp y hy).lt (fun e=>nx _ _ _ (by rw [←e];exact (h.pp y hy).1))];exact (h.pp y hy).1
  by_cases e:y=x
  ·subst e
   refine ⟨hp,?_⟩
   simpa [upq] using k
  ·have hne:∀ {l:List Pp},l.Pairwise (fun x y=>x.c≠y.c)→l.Pairwise (fun x y=>¬ (x.a=y.a∧x.b=y.b))→x∈l→y∈l→y.c≠x.c∧¬ (y.a=x.a∧y.b=x.b):=by
    intro l
    induction l with
    | nil=>intro _ _ hx;cases hx
    | cons z r ih=>
     intro h1 h2 hx hy
     rw [List.pairwise_cons] at h1 h2
     rcases List.mem_cons.1 hx with e1 | hx
     ·rcases List.mem_cons.1 hy with e2 | hy
      ·exact absurd (e2.trans e1.symm) e
      ·rw [e1]
       exact ⟨fun e=>h1.1 y hy e.symm,fun e=>h2.1 y hy ⟨e.1.symm,e.2.symm⟩⟩
     ·rcases List.mem_cons.1 hy with e2 | hy
      ·rw [e2]
       exact ⟨h1.1 x hx,h2.1 x hx⟩
      ·exact ih h1.2 h2.2 hx hy
   obtain ⟨h1,h2⟩:=hne h.nd h.nk hx hy
   refine ⟨hp,?_⟩
   unfold upq
   rw [if_neg h2]
   exact (h.pp y hy).2.keep f h1
 ·unfold upq
  rw [if_neg (fun e=>hab x hx e.1.symm e.2.symm)]
  exact h.no a b hab
end
theorem upq_same (q:Int→Int→List PIt) (a b:Int):upq q a b (q a b)=q:=by
 funext i j
 unfold upq
 split
 ·rename_i h;rw [h.1,h.2]
 ·rfl
theorem takeOf {W:World} {mb lb qb:Nat} {live:List Int} {ps:List Pp} {q:Int→Int→List PIt} (h:MeshR W mb lb qb live ps q) (a b:Int):
  Calls Tryz.prog 62 #[(mpGet (wayV a b) (pipeL ps)).getD (.pointer none)] W fun e w'=>e= .returned (.tuple #[((q a b).headD PIt.zero).val, .bool (!(q a b).isEmpty)])∧Fr (Mc lb W) W w'∧MeshR w' mb lb qb live ps (upq q a b (q a b).tail):=by
 rcases mpGet_pipes a b ps with ⟨h1,h2⟩ | ⟨x,hx,rfl,rfl,h3⟩
 ·rw [h1]
  have h0:=h.no a b h2
  refine (pipeTake_nil W).mono ?_
  rintro e w' ⟨rfl,f⟩
  refine ⟨by rw [h0];rfl,frNc_gr f,?_⟩
  have:=h.gr f
  rw [show (q a b).tail=q a b by rw [h0];rfl,upq_same]
  exact this
 ·rw [h3]
  refine (pipeTake_any x.pb x.c (q x.a x.b) W (h.pp x hx)).mono ?_
  rintro e w' ⟨rfl,f,k⟩
  exact ⟨rfl,frNc_of f (nc_ch (h.pp x hx).2) (h.lo.2 x hx),h.pipe hx f k⟩
theorem lenOf {W:World} {mb lb qb:Nat} {live:List Int} {ps:List Pp} {q:Int→Int→List PIt} (h:MeshR W mb lb qb live ps q) (a b:Int):
  Calls Tryz.prog 45 #[(mpGet (wayV a b) (pipeL ps)).getD (.pointer none)] W fun e w'=>e= .returned (.int .i64 (q a b).length)∧W=w':=by
 rcases mpGet_pipes a b ps with ⟨h1,h2⟩ | ⟨x,hx,rfl,rfl,h3⟩
 ·rw [h1,h.no a b h2]
  exact pipeLen_nil W
 ·rw [h3]
  exact pipeLen_any x.pb x.c (q x.a x.b) W (h.pp x hx)
theorem meshLen_any {W:World} {mb lb qb:Nat} {live:List Int} {ps:List Pp} {q:Int→Int→List PIt} (h:MeshR W mb lb qb live ps q) (a b:Int):
  Calls Tryz.prog 17 #[.pointer (some ⟨mb,0,none⟩), .int .i64 a, .int .i64 b] W fun e w'=>e= .returned (.int .i64 (q a b).length)∧W=w':=by
 have H:=Lib.hid h
 have y1:=h.c1
 have hl:=h.pipeOf a b false
 clear h
 go_enter Tryz.func17,Tryz.ntmps17
 go_wp2_with fail
 refine (lenOf H.out a b).mono ?_
 rintro e w' ⟨rfl,rfl⟩
 go_wp2_with fail
 go_ret
 exact ⟨rfl,rfl⟩
theorem meshTake_any {W:World} {mb lb qb:Nat} {live:List Int} {ps:List Pp} {q:Int→Int→List PIt} (h:MeshR W mb lb qb live ps q) (a b:Int):
  Calls Tryz.prog 26 #[.pointer (some ⟨mb,0,none⟩), .int .i64 a, .int .i64 b] W fun e w'=>e= .returned (.tuple #[((q a b).headD PIt.zero).val, .bool (!(q a b).isEmpty)])∧Fr (Mc lb W) W w'∧MeshR w' mb lb qb live ps (upq q a b (q a b).tail):=by
 have HH:=Lib.hid h
 obtain ⟨w1,hw1⟩:∃ w1,w1=W.alloc (.cells #[.bool false, .string ⟨#[]⟩] 88):=⟨_,rfl⟩
 have f1:Gr W w1:=by rw [hw1];exact (Fr.refl _ _).alloc _
 have H1:=Lib.hid (h.gr f1)
 have y1:=(h.gr f1).c1
 have hl:=(h.gr f1).pipeOf a b false
 have HW:=Lib.hid hw1
 have F1:=Lib.hid f1
 have CT:=Lib.hid (takeOf H1.out a b)
 generalize (q a b).headD PIt.zero=x at *
 clear h hw1 f1
 go_enter Tryz.func26,Tryz.ntmps26
 go_wp2_with (rw [←HW.out])
 have hB:w1.heap[W.heap.size]?=some (.cells #[.bool false, .string ⟨#[]⟩] 88 (0,0)):=by rw [HW.out,heap_alloc_if,if_pos rfl]
 refine CT.out.mono ?_
 rintro e w2 ⟨rfl,f2,h2⟩
 have hZ3:w2.heap[W.heap.size]?=some (.cells #[.bool false, .string ⟨#[]⟩] 88 (0,0)):=by rw [f2.block _ (Array.getElem?_eq_some_iff.1 hB).1 (fun h=>h.1 _ _ _ hB)];exact hB
 have g0:w2.cell? ⟨W.heap.size,0,none⟩=some (.bool false):=by rw [Lib.cell_of_heap hZ3];rfl
 have f0:w2.frozen? ⟨W.heap.size,0,none⟩=false:=Lib.frozen_of_heap hZ3 0
 have hZ4:(w2.setCell ⟨W.heap.size,0,none⟩ (.bool x.brk)).heap[W.heap.size]?=some (.cells #[.bool x.brk, .string ⟨#[]⟩] 88 (0,0)):=heap_set1 hZ3 0 (.bool x.brk)
 have g1:(w2.setCell ⟨W.heap.size,0,none⟩ (.bool x.brk)).cell? ⟨W.heap.size,1,none⟩=some (.string ⟨#[]⟩):=by rw [Lib.cell_of_heap hZ4];rfl
 have f1:(w2.setCell ⟨W.heap.size,0,none⟩ (.bool x.brk)).frozen? ⟨W.heap.size,1,none⟩=false:=Lib.frozen_of_heap hZ4 1
 obtain ⟨w5,hw5⟩:∃ w5,w5=(w2.setCell ⟨W.heap.size,0,none⟩ (.bool x.brk)).setCell ⟨W.heap.size,1,none⟩ (.string ⟨x.txt.toArray⟩):=⟨_,rfl⟩
 have hZ5:w5.heap[W.heap.size]?=some (.cells #[.bool x.brk, .string ⟨x.txt.toArray⟩] 88 (0,0)):=by rw [hw5];exact heap_set1 hZ4 1 (.string ⟨x.txt.toArray⟩)
 have g2:w5.cell? ⟨W.heap.size,0,none⟩=some (.bool x.brk):=by rw [Lib.cell_of_heap hZ5];rfl
 have g3:w5.cell? ⟨W.heap.size,1,none⟩=some (.string ⟨x.txt.toArray⟩):=by rw [Lib.cell_of_heap hZ5];rfl
 have f5:Fr (fun k=>k=W.heap.size) w2 w5:=by
  rw [hw5]
  exact ((Fr.refl (fun k=>k=W.heap.size) w2).setCell (p:=⟨W.heap.size,0,none⟩) (.inl rfl) _).setCell (p:=⟨W.heap.size,1,none⟩) (.inl rfl) _
 have F5:Hid (Fr (Mc lb W) W w5):=Lib.hid (((frNc_gr F1.out).nc f2).trans f5 (fun k e=> .inr (by omega)))
 have M5:Hid (MeshR w5 mb lb qb live ps (upq q a b (q a b).tail)):=Lib.hid (h2.keep f5 (T:=88) ⟨_,_,hZ3⟩ (by decide))
 have H5:=Lib.hid hw5
 clear hw5 f5 h2 f2 hB H1 y1 hl F1
 go_wp2_with fail
 rw [←H5.out]
 clear g0 g1 f0 f1 hZ3 hZ4
 exact bodyPost_ret (v:= .tuple #[x.val, .bool (!(q a b).isEmpty)]) (by simp [results,Tryz.results26,go_sem,g2,g3]) rfl ⟨rfl,F5.out,M5.out⟩
theorem MeshR.add {wd w4:World} {mb lb qb:Nat} {live:List Int} {ps:List Pp} {q:Int→Int→List PIt} (h:MeshR wd mb lb qb live ps q) {pb c:Nat} (hp:PipeAt wd pb c []) (hn:∀ x∈ps,x.pb≠pb∧x.c≠c) (hlc:lb≤c) {a b:Int} (h0:q a b=[])
  (hno:∀ x∈ps,x.a=a→x.b≠b) (f:Fr (fun k=>k=qb) wd w4) (m:MpAt w4 qb (pipeL ps++[(wayV a b, .pointer (some ⟨pb,0,none⟩))])):MeshR w4 mb lb qb live (ps++[⟨a,b,pb,c⟩]) q:=by
 have nq:=nc_mp h.pm
 have hcell:∀ {k:Nat} {cs:Array Value} {T:TypeId} {z:Nat×Nat},wd.heap[k]?=some (.cells cs T z)→w4.heap[k]?=some (.cells cs T z):=fun {k cs T z} e=>by
  rw [f.block k (Array.getElem?_eq_some_iff.1 e).1 (fun e2=>nq cs T z (by rw [←e2];exact e))];exact e
 have hch:∀ {k:Nat} {l:List PIt},ChAt wd k l→ChAt w4 k l:=fun {k l} e=>e.keep f (fun e2=>by
  subst e2
  obtain ⟨es,cl,h1,_⟩:=h.pm
  obtain ⟨s,r,h2⟩:=e
  rw [h1] at h2;cases h2)
 refine ⟨hcell h.blk,h.lm.keep f h.lq,by simpa using m,h.lq,fun x hx=>?_,fun i j hij=>h.no i j (fun x hx=>hij x (List.mem_append_left _ hx)),?_,?_,h.lo.1,fun x hx=>?_⟩
 ·rcases List.mem_append.1 hx with hx | hx
  ·exact ⟨hcell (h.pp x hx).1,hch (h.pp x hx).2⟩
  ·rw [List.mem_singleton.1 hx,show q (Pp.a ⟨a,b,pb,c⟩) (Pp.b ⟨a,b,pb,c⟩)=[] from h0]
   exact ⟨hcell hp.1,hch hp.2⟩
 ·refine List.pairwise_append.2 ⟨h.nd,List.pairwise_singleton _ _,fun x hx y hy=>?_⟩
  rw [List.mem_singleton.1 hy]
  exact (hn x hx).2
 ·refine List.pairwise_append.2 ⟨h.nk,List.pairwise_singleton _ _,fun x hx y hy e=>?_⟩
  rw [List.mem_singleton.1 hy] at e
  exact hno x hx e.1 e.2
 ·rcases List.mem_append.1 hx with hx | hx
  ·exact h.lo.2 x hx
  ·rw [List.mem_singleton.1 hx];exact hlc
theorem gr_drewN (w:World) (n:Nat):Gr w (w.drewN n):=⟨rfl,rfl,rfl,Nat.le_refl _,fun _ _ _=>rfl⟩
theorem meshPipe_any {W:World} {mb lb qb:Nat} {live:List Int} {ps:List Pp} {q:Int→Int→List PIt} (h:MeshR W mb lb qb live ps q) (a b:Int):
  Calls Tryz.prog 38 #[.pointer (some ⟨mb,0,none⟩), .int .i64 a, .int .i64 b] W fun e w'=>∃ (x:Pp) (ps':List Pp),e= .returned (.pointer (some ⟨x.pb,0,none⟩))∧x∈ps'∧x.a=a∧x.b=b∧Fr (Mc lb W) W w'∧MeshR w' mb lb qb live ps' q:=by
 obtain ⟨w1,hw1⟩:∃ w1,w1=W.alloc (.cells #[.int .i64 a, .int .i64 b] 121):=⟨_,rfl⟩
 have f1:Gr W w1:=by rw [hw1];exact (Fr.refl _ _).alloc _
 have H1:=Lib.hid (h.gr f1)
 have HB:Hid (w1.heap[W.heap.size]?=some (.cells #[.int .i64 a, .int .i64 b] 121 (0,0))):=Lib.hid (by rw [hw1,heap_alloc_if,if_pos rfl])
 have HW:=Lib.hid hw1
 have F1:=Lib.hid f1
 clear h hw1 f1
 go_enter Tryz.func38,Tryz.ntmps38
 go_wp2_with (rw [←HW.out])
 have y1:=H1.out.c1
 have y2:w1.cell? ⟨W.heap.size,0,none⟩=some (.int .i64 a):=by rw [Lib.cell_of_heap HB.out];rfl
 have y3:w1.cell? ⟨W.heap.size,1,none⟩=some (.int .i64 b):=by rw [Lib.cell_of_heap HB.out];rfl
 have hl:=fun n=>(H1.out.gr (gr_drewN w1 n)).pipeOf a b true
 rcases mpGet_pipes a b ps with ⟨h1,h2⟩ | ⟨x,hx,hxa,hxb,h3⟩
 ·rw [h1] at hl
  simp only [if_true,Option.getD_none,Option.isSome_none] at hl
  go_quiet (fail)
  have H2:=Lib.hid (H1.out.gr (gr_drewN w1 nq))
  have F2:Hid (Fr (Mc lb W) W (w1.drewN nq)):=Lib.hid (frNc_gr (F1.out.drewN nq))
  have B2:Hid ((w1.drewN nq).heap[W.heap.size]?=some (.cells #[.int .i64 a, .int .i64 b] 121 (0,0))):=HB
  clear H1 F1 HB y1 y2 y3 hl HW
  generalize w1.drewN nq=w2 at *
  go_wp2_with fail
  refine (pipeNew_any w2).mono ?_
  rintro e w3 ⟨pb,c,rfl,f3,p3,hpb,hc⟩
  obtain ⟨wd,hwd⟩:∃ x,x=w3.drew:=⟨_,rfl⟩
  have HWD:=Lib.hid hwd
  have fd:Gr w2 wd:=by rw [hwd];exact f3.drew
  have HD:=Lib.hid (H2.out.gr fd)
  have PD:Hid (PipeAt wd pb c []):=Lib.hid (by rw [hwd];exact p3)
  have FD:=Lib.hid (F2.out.trans fd (fun _ h=>h.elim))
  have hBd:wd.heap[W.heap.size]?=some (.cells #[.int .i64 a, .int .i64 b] 121 (0,0)):=by rw [fd.block _ (Array.getElem?_eq_some_iff.1 B2.out).1 (fun h=>h)];exact B2.out
  have y1:=HD.out.c1
  have y2:wd.cell? ⟨W.heap.size,0,none⟩=some (.int .i64 a):=by rw [Lib.cell_of_heap hBd];rfl
  have y3:wd.cell? ⟨W.heap.size,1,none⟩=some (.int .i64 b):=by rw [Lib.cell_of_heap hBd];rfl
  have HN:=Lib.hid (show (∀ x∈ps,x.pb≠pb∧x.c≠c) from fun x hx=>⟨by have:=(H2.out.pp x hx).lt;omega,by have:=(H2.out.pp x hx).2.lt;omega⟩)
  have HQ:=Lib.hid (H2.out.no a b h2)
  have HLC:=Lib.hid (show lb≤c by have:=H2.out.lm.lt;omega)
  clear hwd fd hBd f3 p3 H2 F2 B2 hpb hc
  go_upto_region 5 with fail
  haveI:Nonempty (WC (fun w=>w.cell? ⟨mb,1,none⟩=some (.map (some qb))∧w.cell? ⟨W.heap.size,0,none⟩=some (.int .i64 a)∧w.cell? ⟨W.heap.size,1,none⟩=some (.int .i64 b))):=⟨⟨wd,y1,y2,y3⟩⟩
  have z1:∀ z:WC (fun w=>w.cell? ⟨mb,1,none⟩=some (.map (some qb))∧w.cell? ⟨W.heap.size,0,none⟩=some (.int .i64 a)∧w.cell? ⟨W.heap.size,1,none⟩=some (.int .i64 b)),z.val.cell? ⟨mb,1,none⟩=some (.map (some qb)):=fun z=>z.ok.1
  have z2:∀ z:WC (fun w=>w.cell? ⟨mb,1,none⟩=some (.map (some qb))∧w.cell? ⟨W.heap.size,0,none⟩=some (.int .i64 a)∧w.cell? ⟨W.heap.size,1,none⟩=some (.int .i64 b)),z.val.cell? ⟨W.heap.size,0,none⟩=some (.int .i64 a):=fun z=>z.ok.2.1
  have z3:∀ z:WC (fun w=>w.cell? ⟨mb,1,none⟩=some (.map (some qb))∧w.cell? ⟨W.heap.size,0,none⟩=some (.int .i64 a)∧w.cell? ⟨W.heap.size,1,none⟩=some (.int .i64 b)),z.val.cell? ⟨W.heap.size,1,none⟩=some (.int .i64 b):=fun z=>z.ok.2.2
  refine wp_region_lastO 6 [] [] [0,1,2,3,4,5] (fun w'=>∃ z:WC (fun w=>w.cell? ⟨mb,1,none⟩=some (.map (some qb))∧w.cell? ⟨W.heap.size,0,none⟩=some (.int .i64 a)∧w.cell? ⟨W.heap.size,1,none⟩=some (.int .i64 b)),w'=z.val) (by kernel_rfl) (by kernel_rfl) (fun c a w d v h=>by cases d<;>exact h) (fun c a w d v h=>by cases d<;>exact h) (by rw [←HWD.out];exact ⟨⟨wd,y1,y2,y3⟩,rfl⟩) ?_
  rw [←HWD.out]
  clear HWD
  simp only [List.take]
  refine wpT_q (by simp only [gtA,gtZ]<;>rfl) (by rfl) (by rfl) ?_
  go_big_quiet_step (fail)
  refine wpQuiet_nil ?_
  refine wpT_q (by simp only [gtA,gtS,gtZ]<;>rfl) (by rfl) (by rfl) ?_
  go_big_quiet_step (fail)
  refine wpQuiet_nil ?_
  refine wpT_q (by simp only [gtA,gtS,gtZ]<;>rfl) (by rfl) (by rfl) ?_
  go_big_quiet_step (fail)
  refine wpQuiet_nil ?_
  refine wpT_q (by simp only [gtA,gtS,gtZ]<;>rfl) (by rfl) (by rfl) ?_
  go_big_quiet_step (fail)
  refine wpQuiet_nil ?_
  refine wpT_q (by simp only [gtA,gtS,gtZ]<;>rfl) (by rfl) (by rfl) ?_
  go_big_quiet_step (fail)
  refine wpQuiet_nil ?_
  refine wpT_q (by simp only [gtA,gtS,gtZ]<;>rfl) (by rfl) (by rfl) ?_
  go_big_quiet_step (fail)
  refine wpQuiet_nil ?_
  clear this z1 z2 z3
  refine wpT_nil ?_
  simp only [lastQ,List.drop]
  obtain ⟨w4,hu,f4,m4⟩:=run_update_mp keyW Tryz.underlying93 HD.out.pm (fun e he=>by obtain ⟨m,_,rfl⟩:=List.mem_map.1 he;exact ⟨m.a,m.b,rfl⟩) (key:=wayV a b) ⟨a,b,rfl⟩ h1 (.pointer (some ⟨pb,0,none⟩))
  have M4:=Lib.hid (HD.out.add PD.out HN.out HLC.out HQ.out h2 f4 m4)
  have F4:Hid (Fr (Mc lb W) W w4):=Lib.hid (FD.out.nc (frNc_of f4 (nc_mp HD.out.pm) HD.out.lo.1))
  clear f4 m4 h1 h2 y1 y2 y3
  go_wp2_with fail
  go_ret
  exact ⟨⟨a,b,pb,c⟩,_,rfl,by simp,rfl,rfl,F4.out,M4.out⟩
 ·rw [h3] at hl
  simp only [if_true,Option.getD_some,Option.isSome_some] at hl
  go_quiet (fail)
  have H2:=Lib.hid (H1.out.gr (gr_drewN w1 nq))
  have F2:Hid (Fr (Mc lb W) W (w1.drewN nq)):=Lib.hid (frNc_gr (F1.out.drewN nq))
  clear H1 F1 HB y1 y2 y3 hl HW
  generalize w1.drewN nq=w2 at *
  go_wp2_with fail
  go_ret
  exact ⟨x,ps,rfl,hx,hxa,hxb,F2.out,H2.out⟩
theorem breakOf {W:World} {mb lb qb:Nat} {live:List Int} {ps:List Pp} {q:Int→Int→List PIt} (h:MeshR W mb lb qb live ps q) {x:Pp} (hx:x∈ps):
  Calls Tryz.prog 39 #[.pointer (some ⟨x.pb,0,none⟩)] W fun e w'=>e= .returned (.tuple #[])∧Fr (Mc lb W) W w'∧MeshR w' mb lb qb live ps (upq q x.a x.b [⟨true,[]⟩]):=by
 refine (pipeBreak_any x.pb x.c (q x.a x.b) W (h.pp x hx)).mono ?_
 rintro e w' ⟨rfl,f,k⟩
 exact ⟨rfl,frNc_of f (nc_ch (h.pp x hx).2) (h.lo.2 x hx),h.pipe hx f k⟩
theorem sendOf {W:World} {mb lb qb:Nat} {live:List Int} {ps:List Pp} {q:Int→Int→List PIt} (h:MeshR W mb lb qb live ps q) {x:Pp} (hx:x∈ps) (s:List UInt8):
  Calls Tryz.prog 61 #[.pointer (some ⟨x.pb,0,none⟩), .string ⟨s.toArray⟩] W fun e w'=>e= .returned (.bool (decide ((q x.a x.b).length<64)))∧Fr (Mc lb W) W w'∧MeshR w' mb lb qb live ps (upq q x.a x.b (if (q x.a x.b).length<64 then q x.a x.b++[⟨false,s⟩] else q x.a x.b)):=by
 refine (pipeSend_any x.pb x.c (q x.a x.b) s W (h.pp x hx)).mono ?_
 rintro e w' ⟨rfl,f,k⟩
 exact ⟨rfl,frNc_of f (nc_ch (h.pp x hx).2) (h.lo.2 x hx),h.pipe hx f k⟩
theorem meshUp_any {W:World} {mb lb qb:Nat} {live:List Int} {ps:List Pp} {q:Int→Int→List PIt} (h:MeshR W mb lb qb live ps q) (n:Int) (h1:1≤n) (h2:n≤65535) (hn:n∉live):
  Calls Tryz.prog 8 #[.pointer (some ⟨mb,0,none⟩), .int .i64 n] W fun e w'=>e= .returned (.tuple #[])∧Fr (Mc lb W) W w'∧MeshR w' mb lb qb (live++[n]) ps q:=by
 have y0:=h.c0
 obtain ⟨w4,hu,f4,m4⟩:=run_update_mp keyI Tryz.underlying92 h.lm (fun e he=>by obtain ⟨m,_,rfl⟩:=List.mem_map.1 he;exact ⟨m,rfl⟩) (key:= .int .i64 n) ⟨n,rfl⟩ (by rw [mpGet_live,if_neg hn]) (.bool true)
 have F4:Hid (Fr (Mc lb W) W w4):=Lib.hid (frNc_of f4 (nc_mp h.lm) (Nat.le_refl _))
 have M4:Hid (MeshR w4 mb lb qb (live++[n]) ps q):=Lib.hid (by
  have nl:=nc_mp h.lm
  have hcell:∀ {k:Nat} {cs:Array Value} {T:TypeId} {z:Nat×Nat},W.heap[k]?=some (.cells cs T z)→w4.heap[k]?=some (.cells cs T z):=fun {k cs T z} e=>by
   rw [f4.block k (Array.getElem?_eq_some_iff.1 e).1 (fun e2=>nl cs T z (by rw [←e2];exact e))];exact e
  refine ⟨hcell h.blk,by simpa using m4,h.pm.keep f4 (fun e=>h.lq e.symm),h.lq,fun x hx=>⟨hcell (h.pp x hx).1,(h.pp x hx).2.keep f4 (fun e2=>?_)⟩,h.no,h.nd,h.nk,h.lo⟩
  obtain ⟨es,cl,h1,_⟩:=h.lm
  obtain ⟨s,r,h2⟩:=(h.pp x hx).2
  rw [e2,h1] at h2;cases h2)
 clear f4 m4 h
 go_enter Tryz.func8,Tryz.ntmps8
 go_wp2_with fail
 exact bodyPost_end (v:= .tuple #[]) (by simp [results,Tryz.results8,go_sem]) rfl ⟨rfl,F4.out,M4.out⟩
theorem mk_live (w:World):(Instr.makeMap 92 none).run Tryz.prog w= .ok (.map (some w.heap.size)) (w.alloc (.map #[] 0)):=by
 simp [Instr.makeMap,Result.andThen]
theorem mk_pipes (w:World):(Instr.makeMap 93 none).run Tryz.prog w= .ok (.map (some w.heap.size)) (w.alloc (.map #[] 0)):=by
 simp [Instr.makeMap,Result.andThen]
theorem meshNew_any (W:World):Calls Tryz.prog 6 #[] W fun e w'=>∃ mb lb qb,e= .returned (.pointer (some ⟨mb,0,none⟩))∧Gr W w'∧MeshR w' mb lb qb [] [] (fun _ _=>[])∧W.heap.size≤lb:=by
 have hm1:=mk_live
 have hm2:=mk_pipes
 go_enter Tryz.func6,Tryz.ntmps6
 go_wp2_with fail
 go_ret
 refine ⟨_,W.heap.size,W.heap.size+1,rfl,(((Fr.refl _ _).alloc _).alloc _).alloc _,⟨by rw [heap_alloc_if,if_pos (by simp)],⟨#[],0,?_,rfl⟩,⟨#[],0,?_,rfl⟩,by omega,fun x hx=>(nomatch hx),fun _ _ _=>rfl,List.Pairwise.nil,List.Pairwise.nil,by omega,fun x hx=>(nomatch hx)⟩,Nat.le_refl _⟩
 ·rw [heap_alloc_if,if_neg (by simp;omega),heap_alloc_if,if_neg (by simp),heap_alloc_if,if_pos rfl]
 ·rw [heap_alloc_if,if_neg (by simp),heap_alloc_if,if_pos (by simp)]
theorem meshBreak_any {W:World} {mb lb qb:Nat} {live:List Int} {ps:List Pp} {q:Int→Int→List PIt} (h:MeshR W mb lb qb live ps q) (a b:Int) (ha:a∈live) (hb:b∈live):
  Calls Tryz.prog 12 #[.pointer (some ⟨mb,0,none⟩), .int .i64 a, .int .i64 b] W fun e w'=>e= .returned (.tuple #[])∧Fr (Mc lb W) W w'∧∃ ps',MeshR w' mb lb qb live ps' (if a=b then q else upq (upq q a b [⟨true,[]⟩]) b a [⟨true,[]⟩]):=by
 have H:=Lib.hid h
 have HA:=Lib.hid ha
 have HB:=Lib.hid hb
 clear h ha hb
 go_enter Tryz.func12,Tryz.ntmps12
 go_wp2_with fail
 refine (meshLive_any H.out a).mono ?_
 rintro e w' ⟨rfl,rfl⟩
 rw [decide_eq_true HA.out]
 go_wp2_with fail
 refine (meshLive_any H.out b).mono ?_
 rintro e w' ⟨rfl,rfl⟩
 rw [decide_eq_true HB.out]
 by_cases hab:a=b
 ·go_wp2_with fail
  exact bodyPost_end (v:= .tuple #[]) (by simp [results,Tryz.results12,go_sem]) rfl ⟨rfl,Fr.refl _ _,ps,H.out⟩
 ·go_wp2_with fail
  refine (meshPipe_any H.out a b).mono ?_
  rintro e w1 ⟨x,ps1,rfl,hx,rfl,rfl,f1,m1⟩
  have F1:=Lib.hid f1
  clear f1
  go_wp2_with fail
  refine (breakOf m1 hx).mono ?_
  rintro e w2 ⟨rfl,f2,m2⟩
  have F2:=Lib.hid (F1.out.nc f2)
  have M2:=Lib.hid m2
  clear f2 F1 m1 m2 hx
  go_wp2_with fail
  refine (meshPipe_any M2.out x.b x.a).mono ?_
  rintro e w3 ⟨y,ps3,rfl,hy,hya,hyb,f3,m3⟩
  have F3:=Lib.hid (F2.out.nc f3)
  clear f3 F2 M2
  go_wp2_with fail
  refine (breakOf m3 hy).mono ?_
  rintro e w4 ⟨rfl,f4,m4⟩
  have F4:=Lib.hid (F3.out.nc f4)
  have M4:=Lib.hid m4
  clear f4 F3 m3 m4 hy
  go_wp2_with fail
  exact bodyPost_end (v:= .tuple #[]) (by simp [results,Tryz.results12,go_sem]) rfl ⟨rfl,F4.out,ps3,by rw [hya,hyb] at M4;exact M4.out⟩
theorem meshSend_any {W:World} {mb lb qb:Nat} {live:List Int} {ps:List Pp} {q:Int→Int→List PIt} (h:MeshR W mb lb qb live ps q) (a b:Int) (s:List UInt8) (ha:a∈live) (hb:b∈live) (hab:a≠b) (hroom:(q a b).length<64):
  Calls Tryz.prog 25 #[.pointer (some ⟨mb,0,none⟩), .int .i64 a, .int .i64 b, .string ⟨s.toArray⟩] W fun e w'=>e= .returned (.tuple #[])∧Fr (Mc lb W) W w'∧∃ ps',MeshR w' mb lb qb live ps' (upq q a b (q a b++[⟨false,s⟩])):=by
 have H:=Lib.hid h
 have HA:=Lib.hid ha
 have HB:=Lib.hid hb
 have HR:=Lib.hid hroom
 clear h ha hb hroom
 go_enter Tryz.func25,Tryz.ntmps25
 go_wp2_with fail
 refine (meshLive_any H.out a).mono ?_
 rintro e w' ⟨rfl,rfl⟩
 rw [decide_eq_true HA.out]
 go_wp2_with fail
 refine (meshLive_any H.out b).mono ?_
 rintro e w' ⟨rfl,rfl⟩
 rw [decide_eq_true HB.out]
 go_wp2_with fail
 refine (meshPipe_any H.out a b).mono ?_
 rintro e w1 ⟨x,ps1,rfl,hx,rfl,rfl,f1,m1⟩
 have F1:=Lib.hid f1
 clear f1
 go_wp2_with fail
 refine (sendOf m1 hx s).mono ?_
 rintro e w2 ⟨rfl,f2,m2⟩
 rw [if_pos HR.out] at m2
 rw [decide_eq_true HR.out]
 have F2:=Lib.hid (F1.out.nc f2)
 have M2:=Lib.hid m2
 clear f2 F1 m1 m2 hx
 go_wp2_with fail
 exact bodyPost_end (v:= .tuple #[]) (by simp [results,Tryz.results25,go_sem]) rfl ⟨rfl,F2.out,ps1,M2.out⟩
end
end Go.Proofs.YtelepohdfcjnfaaGreat
