/-
  The builder in a block of the type Writer (package pack): its methods, by what they read and write.
-/
import Derived.Test.YtelepohdfcjnfaaGreatZOwn
import Derived.Lib.Builder
import Derived.Lib.AppendStr
import Derived.Lib.UnsafeStr
import Derived.Laws.Externs
import Derived.Test.YtelepohdfcjnfaaGreatZBase
import Derived.Laws.Bits64
import Derived.Laws.BitsLemmas
import Derived.Test.YtelepohdfcjnfaaGreatZRegionW
import Derived.Lib.ConvBytes
import Derived.Defers
import Derived.Recover
namespace Go.Proofs.YtelepohdfcjnfaaGreat
set_option maxHeartbeats 2000000
set_option maxRecDepth 100000
section
open Go.RowKit Go.Proofs
structure WrAt (B:Nat) (S:Nat→Prop) (w:World) (b:Nat) (p v:Value) (bs:List Value):Prop where
 new:∀ k,w.heap.size≤k→S k
 self:S b
 adr:p= .pointer none∨p= .pointer (some ⟨b,0,none⟩)
 blk:w.heap[b]?=some (.cells #[p,v] 187 (0,0))
 size:B≤w.heap.size
 own:w.ownsRow B 5 1 v bs.length bs
 prot:∀ k cs fr,B≤k→¬ S k→w.heap[k]?≠some (.cells cs 5 fr)
 mem:∀ q,v.ownBlock=some q→S q
theorem WrAt.ne {B:Nat} {S:Nat→Prop} {w:World} {b:Nat} {p v:Value} {bs:List Value} (h:WrAt B S w b p v bs):v.ownBlock≠some b:=Lib.ownBlock_ne h.own h.blk (by decide)
theorem WrAt.lt {B:Nat} {S:Nat→Prop} {w:World} {b:Nat} {p v:Value} {bs:List Value} (h:WrAt B S w b p v bs):b<w.heap.size:=by
 rcases Nat.lt_or_ge b w.heap.size with h' | h'
 ·exact h'
 ·have:=h.blk;simp [Array.getElem?_eq_none h'] at this
theorem WrAt.cell0 {B:Nat} {S:Nat→Prop} {w:World} {b:Nat} {p v:Value} {bs:List Value} (h:WrAt B S w b p v bs):w.cell? ⟨b,0,none⟩=some p:=by
 rw [Lib.cell_of_heap h.blk];rfl
theorem WrAt.cell1 {B:Nat} {S:Nat→Prop} {w:World} {b:Nat} {p v:Value} {bs:List Value} (h:WrAt B S w b p v bs):w.cell? ⟨b,1,none⟩=some v:=by
 rw [Lib.cell_of_heap h.blk];rfl
theorem WrAt.keep {B:Nat} {S T:Nat→Prop} {w w':World} {b:Nat} {p v:Value} {bs:List Value} (h:WrAt B S w b p v bs) (f:Fr T w w') (hT:∀ k,k<w.heap.size→T k→¬ S k) (hp:∀ k,k<w.heap.size→T k→B≤k→∀ cs fr,w'.heap[k]?≠some (.cells cs 5 fr)):WrAt B S w' b p v bs:=by
 refine ⟨fun k hk=>h.new k (Nat.le_trans f.size hk),h.self,h.adr,?_,Nat.le_trans h.size f.size,own_fr h.own f ?_,?_,h.mem⟩
 ·rw [f.block b h.lt (fun hT'=>hT b h.lt hT' h.self)];exact h.blk
 ·intro q hq hTq
  exact hT q (h.own.lt q hq).2 hTq (h.mem q hq)
 ·intro k cs fr hk hS
  by_cases hlt:k<w.heap.size
  ·by_cases hTk:T k
   ·exact hp k hlt hTk hk cs fr
   ·rw [f.block k hlt hTk];exact h.prot k cs fr hk hS
  ·exact absurd (h.new k (by omega)) hS
theorem WrAt.shrink {B:Nat} {S T:Nat→Prop} {w:World} {b:Nat} {p v:Value} {bs:List Value} (h:WrAt B S w b p v bs) (hn:∀ k,w.heap.size≤k→T k) (hb:T b) (hv:∀ q,v.ownBlock=some q→T q)
  (hp:∀ k,B≤k→S k→¬ T k→∀ cs fr,w.heap[k]?≠some (.cells cs 5 fr)):WrAt B T w b p v bs:=
 ⟨hn,hb,h.adr,h.blk,h.size,h.own,fun k cs fr hk hT=>by
  by_cases hS:S k
  ·exact hp k hk hS hT cs fr
  ·exact h.prot k cs fr hk hS,hv⟩
theorem WrAt.drew {B:Nat} {S:Nat→Prop} {w:World} {b:Nat} {p v:Value} {bs:List Value} (h:WrAt B S w b p v bs):WrAt B S w.drew b p v bs:=⟨h.new,h.self,h.adr,h.blk,h.size,h.own.drew,h.prot,h.mem⟩
theorem Tryz.infou8:(Tryz.prog.info? 5).map (fun i=>(i.zero,i.size,i.bytes))=some (some (.int .u8 0),1,1):=by kernel_rfl
theorem Tryz.infoBuilder:(Tryz.prog.info? 185).map (·.size)=some 2:=by kernel_rfl
theorem Tryz.liesBuilder:liesAt Tryz.prog Tryz.prog.depth 187 (2 / Tryz.prog.cellsOf 187) 0 185 1=true:=by kernel_rfl
theorem Tryz.cellsu8:Tryz.prog.cellsOf 5=1:=by kernel_rfl
theorem copyCheck_used (b:Nat) (w:World) (h0:w.cell? ⟨b,0,none⟩=some (.pointer (some ⟨b,0,none⟩))):
  Calls Tryz.prog 125 #[.pointer (some ⟨b,0,none⟩)] w fun e w'=>e= .returned (.tuple #[])∧w'=w:=by
 obtain ⟨j,hj,_⟩:=Option.map_eq_some_iff.1 Tryz.infoBuilder
 go_enter Tryz.func125,Tryz.ntmps125
 go_wp2
 rw [Lib.run_neq_ptr_same w _ Tryz.underlying183 hj]
 go_wp2
 go_end0
 exact ⟨rfl,rfl⟩
theorem copyCheck_fresh (b:Nat) (w:World) (h0:w.cell? ⟨b,0,none⟩=some (.pointer none)) (hsh:w.shape? b=some (187,2)) (hfz:w.frozen? ⟨b,0,none⟩=false):
  Calls Tryz.prog 125 #[.pointer (some ⟨b,0,none⟩)] w fun e w'=>e= .returned (.tuple #[])∧w'=w.setCell ⟨b,0,none⟩ (.pointer (some ⟨b,0,none⟩)):=by
 obtain ⟨j,hj,hjs⟩:=Option.map_eq_some_iff.1 Tryz.infoBuilder
 go_enter Tryz.func125,Tryz.ntmps125
 go_wp2
 rw [Lib.run_to_unsafe w ⟨b,0,none⟩ Tryz.underlying183 Tryz.underlying219 hj (by rw [hjs];decide) hsh (Nat.zero_lt_succ 1)]
 simp only [Result.andThen]
 rw [Oper.upon_value]
 go_wp2
 rw [run_callFunc_extern Tryz.func131 (by kernel_rfl) (by kernel_rfl) (by kernel_rfl) (e:=Extern.AbiNoEscape.same) (by kernel_rfl)]
 rw [Lib.run_noEscape]
 simp only [Result.andThen]
 rw [Oper.upon_value]
 go_wp2
 rw [Lib.run_from_unsafe w ⟨b,0,none⟩ Tryz.underlying219 Tryz.underlying183 hj hsh Tryz.liesBuilder]
 simp only [Result.andThen]
 rw [Oper.upon_value]
 go_wp2
 go_end0
 exact ⟨rfl,rfl⟩
theorem WrAt.used {B:Nat} {S:Nat→Prop} {w:World} {b:Nat} {p v:Value} {bs:List Value} (h:WrAt B S w b p v bs):
  WrAt B S (w.setCell ⟨b,0,none⟩ (.pointer (some ⟨b,0,none⟩))) b (.pointer (some ⟨b,0,none⟩)) v bs:=by
 have hf:Fr (fun k=>k=b) w (w.setCell ⟨b,0,none⟩ (.pointer (some ⟨b,0,none⟩))):=(Fr.refl (fun k=>k=b) w).setCell (p:=⟨b,0,none⟩) (.inl rfl) _
 refine ⟨fun k hk=>h.new k (by simpa [World.setCell] using hk),h.self, .inr rfl,?_,by simpa [World.setCell] using h.size,?_,?_,h.mem⟩
 ·simp [World.setCell,Array.getElem?_modify,h.blk]
 ·exact own_fr h.own hf (fun q hq hqb=>h.ne (by rw [hq,hqb]))
 ·intro k cs fr hk hS
  have hkb:k≠b:=fun e=>hS (e▸h.self)
  by_cases hlt:k<w.heap.size
  ·rw [hf.block k hlt hkb];exact h.prot k cs fr hk hS
  ·exact absurd (h.new k (by omega)) hS
theorem WrAt.put {B:Nat} {S:Nat→Prop} {w:World} {b:Nat} {p v v':Value} {bs bs':List Value} (h:WrAt B S w b p v bs) (w':World)
  (f:Fr (fun k=>v.ownBlock=some k) w w') (hown:w'.ownsRow B 5 1 v' bs'.length bs'):
  WrAt B S (w'.setCell ⟨b,1,none⟩ v') b p v' bs'∧Fr S w (w'.setCell ⟨b,1,none⟩ v'):=by
 have hb:=h.lt
 have hblk:w'.heap[b]?=some (.cells #[p,v] 187 (0,0)):=by rw [f.block b hb h.ne];exact h.blk
 have hne:v'.ownBlock≠some b:=Lib.ownBlock_ne hown hblk (by decide)
 have hf1:Fr (fun k=>k=b) w' (w'.setCell ⟨b,1,none⟩ v'):=(Fr.refl (fun k=>k=b) w').setCell (p:=⟨b,1,none⟩) (.inl rfl) _
 have hf2:Fr S w (w'.setCell ⟨b,1,none⟩ v'):=(f.mono (fun k _ hk=>h.mem k hk)).setCell (p:=⟨b,1,none⟩) (.inl h.self) _
 have hpr:∀ k cs fr,B≤k→¬ S k→w'.heap[k]?≠some (.cells cs 5 fr):=by
  intro k cs fr hk hS
  by_cases hlt:k<w.heap.size
  ·rw [f.block k hlt (fun hv=>hS (h.mem k hv))];exact h.prot k cs fr hk hS
  ·exact absurd (h.new k (by omega)) hS
 refine ⟨⟨fun k hk=>h.new k (Nat.le_trans hf2.size hk),h.self,h.adr,?_,Nat.le_trans h.size hf2.size,?_,?_,?_⟩,hf2⟩
 ·simp [World.setCell,Array.getElem?_modify,hblk]
 ·exact own_fr hown hf1 (fun q hq hqb=>hne (by rw [hq,hqb]))
 ·intro k cs fr hk hS
  have hkb:k≠b:=fun e=>hS (e▸h.self)
  by_cases hlt:k<w'.heap.size
  ·rw [hf1.block k hlt hkb];exact hpr k cs fr hk hS
  ·exact absurd (h.new k (by have:=f.size;omega)) hS
 ·intro q hq
  have hB:=(hown.lt q hq).1
  apply Classical.byContradiction
  intro hS
  rcases hown.2 with ⟨hv,_⟩ | ⟨g,cap,cur,hv,_,hg,_⟩
  ·rw [hv] at hq;cases hq
  ·rw [hv] at hq
   simp only [Value.ownBlock,Option.some.injEq] at hq
   subst hq
   exact hpr g _ _ hB hS hg
theorem copyCheck_any (B:Nat) (S:Nat→Prop) (w:World) (b:Nat) (p v:Value) (bs:List Value) (h:WrAt B S w b p v bs):
  Calls Tryz.prog 125 #[.pointer (some ⟨b,0,none⟩)] w fun e w'=>e= .returned (.tuple #[])∧WrAt B S w' b (.pointer (some ⟨b,0,none⟩)) v bs∧Fr S w w':=by
 rcases h.adr with rfl | rfl
 ·refine (copyCheck_fresh b w h.cell0 (by simp [World.shape?,h.blk]) (Lib.frozen_of_heap h.blk 0)).mono ?_
  rintro e w' ⟨rfl,rfl⟩
  exact ⟨rfl,h.used,(Fr.refl S w).setCell (p:=⟨b,0,none⟩) (.inl h.self) _⟩
 ·refine (copyCheck_used b w h.cell0).mono ?_
  rintro e w' ⟨rfl,rfl⟩
  exact ⟨rfl,h,Fr.refl S _⟩
theorem writeByte_any (B:Nat) (S:Nat→Prop) (w:World) (b:Nat) (p v:Value) (bs:List Value) (c:Int) (h:WrAt B S w b p v bs) (hlen:bs.length+1≤140737488355328):
  Calls Tryz.prog 106 #[.pointer (some ⟨b,0,none⟩), .int .u8 c] w fun e w'=>e= .returned .nilIface∧(∃ v',WrAt B S w' b (.pointer (some ⟨b,0,none⟩)) v' (bs++[.int .u8 c]))∧Fr S w w':=by
 obtain ⟨i0,hi,hz0,hz1,hz2⟩:=info_parts Tryz.infou8
 have H:=Lib.hid h;clear h
 go_enter Tryz.func106,Tryz.ntmps106
 go_wp2_with fail
 refine (copyCheck_any B S w b p v bs H.out).mono ?_
 rintro e w1 ⟨rfl,h1,hf1⟩
 have c1:=h1.cell1
 have hs1:=h1.size
 have H1:=Lib.hid h1;clear h1
 go_wp2_with (at_builtin;refine wpList_append_own _ rfl _ _ 23 rfl B 5 i0 (.int .u8 0) 1 1 Tryz.underlying23 hi hz0 hz1 hz2 rfl (by decide) _ _ _ rfl (H1.out.own.alloc _) ⟨w1.heap.size,0,none⟩ 1 1 [.int .u8 c] rfl rfl (news_one _ _ _) (one_one _ rfl) (by unfold maxLen;omega) (by omega) (by simp;omega) ?_)
 intro v' w2 hown' hgrow _
 obtain ⟨a',cap',rfl,_,_,_⟩:=SlA.of_own hown'
 have hfg:Fr (fun k=>v.ownBlock=some k) w1 w2:=((Fr.refl (fun k=>v.ownBlock=some k) w1).alloc _).grown hgrow (by intro q hq;exact .inl hq)
 have hput:=H1.out.put w2 hfg (bs':=bs++[.int .u8 c]) (by simpa using hown')
 have hfz:w2.frozen? ⟨b,1,none⟩=false:=by
  have hblk:w2.heap[b]?=some (.cells #[.pointer (some ⟨b,0,none⟩),v] 187 (0,0)):=by rw [hfg.block b H1.out.lt H1.out.ne];exact H1.out.blk
  exact Lib.frozen_of_heap hblk 1
 have hcl:w2.cell? ⟨b,1,none⟩=some v:=hfg.cell c1 H1.out.ne
 have HP:=Lib.hid hput;clear hput hown' hgrow hfg
 go_wp2_with fail
 go_ret
 exact ⟨rfl,⟨_,HP.out.1⟩,hf1.trans HP.out.2 (fun k hk=> .inl hk)⟩
theorem writeString_any (B:Nat) (S:Nat→Prop) (w:World) (b:Nat) (p v:Value) (bs:List Value) (s:ByteArray) (h:WrAt B S w b p v bs) (hlen:bs.length+s.size≤140737488355328):
  Calls Tryz.prog 107 #[.pointer (some ⟨b,0,none⟩), .string s] w fun e w'=>e= .returned (.tuple #[.int .i64 s.size, .nilIface])∧(∃ v',WrAt B S w' b (.pointer (some ⟨b,0,none⟩)) v' (bs++Lib.strCells s))∧Fr S w w':=by
 obtain ⟨i0,hi,hz0,hz1,hz2⟩:=info_parts Tryz.infou8
 have H:=Lib.hid h;clear h
 go_enter Tryz.func107,Tryz.ntmps107
 go_wp2_with fail
 refine (copyCheck_any B S w b p v bs H.out).mono ?_
 rintro e w1 ⟨rfl,h1,hf1⟩
 have c1:=h1.cell1
 have hs1:=h1.size
 have H1:=Lib.hid h1;clear h1
 go_wp2_with (at_builtin;refine Lib.wpList_append_own_string _ rfl _ _ 23 9 rfl B 5 i0 Tryz.underlying23 Tryz.underlying9 hi hz0 hz1 hz2 _ _ _ rfl H1.out.own s rfl (by unfold maxLen;omega) (by omega) (by omega) ?_)
 intro v' w2 hown' hgrow _
 obtain ⟨a',cap',rfl,_,_,_⟩:=SlA.of_own hown'
 have hfg:Fr (fun k=>v.ownBlock=some k) w1 w2:=(Fr.refl (fun k=>v.ownBlock=some k) w1).grown hgrow (by intro q hq;exact .inl hq)
 have hput:=H1.out.put w2 hfg (bs':=bs++Lib.strCells s) (by simpa [Lib.strCells_length] using hown')
 have hfz:w2.frozen? ⟨b,1,none⟩=false:=by
  have hblk:w2.heap[b]?=some (.cells #[.pointer (some ⟨b,0,none⟩),v] 187 (0,0)):=by rw [hfg.block b H1.out.lt H1.out.ne];exact H1.out.blk
  exact Lib.frozen_of_heap hblk 1
 have hcl:w2.cell? ⟨b,1,none⟩=some v:=hfg.cell c1 H1.out.ne
 have HP:=Lib.hid hput;clear hput hown' hgrow hfg
 go_wp2_with fail
 go_ret2
 exact ⟨rfl,⟨_,HP.out.1⟩,hf1.trans HP.out.2 (fun k hk=> .inl hk)⟩
theorem Fr.freeze {S:Nat→Prop} {a w:World} (h:Fr S a w) {p:Addr} (hp:S p.block) (n:Nat):Fr S a (w.freeze p n):=by
 have h1:Fr (fun k=>k=p.block) w (w.freeze p n):=by
  unfold World.freeze
  split
  ·exact Fr.refl _ w
  ·refine ⟨rfl,rfl,rfl,by simp,fun k hk hn=>?_⟩
   simp only [Array.getElem?_modify]
   rw [if_neg (fun e=>hn e.symm)]
 exact h.trans h1 (fun k hk=> .inl (hk▸hp))
theorem string_some (B:Nat) (S:Nat→Prop) (w:World) (b:Nat) (p v:Value) (l:List UInt8) (h:WrAt B S w b p v (Lib.byteCells l)) (h0:l≠[]):
  Calls Tryz.prog 101 #[.pointer (some ⟨b,0,none⟩)] w fun e w'=>e= .returned (.string ⟨l.toArray⟩)∧Fr S w w':=by
 have hl0:l.length≠0:=by simpa using h0
 have hown:=h.own
 have hm:=h.mem
 have hblk:=h.blk
 rw [Lib.byteCells_length] at hown
 obtain ⟨g,cap,cur,rfl,hg,hnc,hcm,hcs,htake⟩:∃ g cap cur,v= .slice (some ⟨g,0,none⟩) l.length cap∧w.heap[g]?=some (.cells cur 5 (0,0))∧l.length≤cap∧cap≤maxLen∧cur.size=cap * 1∧cur.toList.take (l.length * 1)=Lib.byteCells l:=by
  rcases hown.2 with ⟨_,hz⟩ | ⟨g,cap,cur,hv,_,r⟩
  ·exact absurd hz hl0
  ·exact ⟨g,cap,cur,hv,r⟩
 have c1:w.drew.cell? ⟨b,1,none⟩=some (.slice (some ⟨g,0,none⟩) l.length cap):=h.cell1
 have hSD:(Builtin.unsafeSliceData_ #[23] 214 #[.slice (some ⟨g,0,none⟩) l.length cap]).run Tryz.prog w.drew= .ok (.pointer (some ⟨g,0,none⟩)) w.drew:=
  Lib.run_unsafeSliceData_row _ _ _ _ _ _ (by omega)
 have hUS:(Builtin.unsafeString_ #[214,3] 9 #[.pointer (some ⟨g,0,none⟩), .int .i64 l.length]).run Tryz.prog w.drew= .ok (.string ⟨l.toArray⟩) (w.drew.freeze ⟨g,0,none⟩ l.length):=by
  refine Lib.run_unsafeString_row w.drew 214 3 9 5 Tryz.underlying214 Tryz.cellsu8 g cur.size (by have hg':w.drew.heap[g]?=some (.cells cur 5 (0,0)):=hg;simp [World.shape?,hg']) l h0 (by omega) (by unfold maxLen at hcm;omega) ?_
  intro j x hx
  have:=hown.cells (g:=g) rfl j (.int .u8 x.toNat) (by simp [Lib.byteCells,hx])
  exact this
 have hgS:S g:=hm g rfl
 clear hown hm hblk h hg hnc hcm hcs htake h0
 go_enter Tryz.func101,Tryz.ntmps101
 go_wp2
 go_region
 all_goals (go_wp2;go_ret;exact ⟨rfl,((Fr.refl S w).drew).freeze (p:=⟨g,0,none⟩) hgS _⟩)
theorem string_nil (S:Nat→Prop) (w:World) (b:Nat) (hc1:w.cell? ⟨b,1,none⟩=some (.slice none 0 0)):
  Calls Tryz.prog 101 #[.pointer (some ⟨b,0,none⟩)] w fun e w'=>e= .returned (.string ⟨#[]⟩)∧Fr S w w':=by
 have hUS:=fun W q=>Lib.run_unsafeString_none (P:=Tryz.prog) W 214 3 9 q
 have c1:w.drew.cell? ⟨b,1,none⟩=some (.slice none 0 0):=hc1
 have hSD:(Builtin.unsafeSliceData_ #[23] 214 #[.slice none 0 0]).run Tryz.prog w.drew= .ok (.pointer none) w.drew:=rfl
 clear hc1
 go_enter Tryz.func101,Tryz.ntmps101
 go_wp2
 go_region
 all_goals (go_wp2;go_ret;exact ⟨rfl,(Fr.refl S w).drew⟩)
theorem string_room (S:Nat→Prop) (w:World) (b g cap:Nat) (hc0:cap≠0) (hc1:w.cell? ⟨b,1,none⟩=some (.slice (some ⟨g,0,none⟩) 0 cap)):
  Calls Tryz.prog 101 #[.pointer (some ⟨b,0,none⟩)] w fun e w'=>e= .returned (.string ⟨#[]⟩)∧Fr S w w':=by
 have hUS:=fun W q=>Lib.run_unsafeString_none (P:=Tryz.prog) W 214 3 9 q
 have c1:w.drew.cell? ⟨b,1,none⟩=some (.slice (some ⟨g,0,none⟩) 0 cap):=hc1
 have hSD:(Builtin.unsafeSliceData_ #[23] 214 #[.slice (some ⟨g,0,none⟩) 0 cap]).run Tryz.prog w.drew= .ok (.pointer (some ⟨g,0,none⟩)) w.drew:=
  Lib.run_unsafeSliceData_row _ _ _ _ _ _ hc0
 clear hc0 hc1
 go_enter Tryz.func101,Tryz.ntmps101
 go_wp2
 go_region
 all_goals (go_wp2;go_ret;exact ⟨rfl,(Fr.refl S w).drew⟩)
theorem string_noroom (S:Nat→Prop) (w:World) (b g:Nat) (cur:Array Value) (hc1:w.cell? ⟨b,1,none⟩=some (.slice (some ⟨g,0,none⟩) 0 0)) (hg:w.heap[g]?=some (.cells cur 5 (0,0))):
  Calls Tryz.prog 101 #[.pointer (some ⟨b,0,none⟩)] w fun e w'=>e= .returned (.string ⟨#[]⟩)∧Fr S w w':=by
 have hUS:=fun W q=>Lib.run_unsafeString_none (P:=Tryz.prog) W 214 3 9 q
 have c1:w.drew.cell? ⟨b,1,none⟩=some (.slice (some ⟨g,0,none⟩) 0 0):=hc1
 have hSD:(Builtin.unsafeSliceData_ #[23] 214 #[.slice (some ⟨g,0,none⟩) 0 0]).run Tryz.prog w.drew= .ok (.pointer (some ⟨w.drew.heap.size,0,none⟩)) (w.drew.alloc (.view ⟨g,0,none⟩ 5)):=
  Lib.run_unsafeSliceData_zero w.drew _ _ 5 Tryz.underlying214 ⟨g,0,none⟩ 0 (5,cur.size) (by have hg':w.drew.heap[g]?=some (.cells cur 5 (0,0)):=hg;simp [World.shape?,hg'])
 have c2:(w.drew.alloc (.view ⟨g,0,none⟩ 5)).cell? ⟨b,1,none⟩=some (.slice (some ⟨g,0,none⟩) 0 0):=
  ((Fr.refl (fun _=>False) w.drew).alloc (.view ⟨g,0,none⟩ 5)).cell c1 (fun h=>h)
 have c3:(w.alloc (.view ⟨g,0,none⟩ 5)).drew.cell? ⟨b,1,none⟩=some (.slice (some ⟨g,0,none⟩) 0 0):=c2
 go_enter Tryz.func101,Tryz.ntmps101
 go_wp2
 go_region
 all_goals (go_wp2;go_ret;exact ⟨rfl,((Fr.refl S w).drew).alloc _⟩)
theorem string_any (B:Nat) (S:Nat→Prop) (w:World) (b:Nat) (p v:Value) (l:List UInt8) (h:WrAt B S w b p v (Lib.byteCells l)):
  Calls Tryz.prog 101 #[.pointer (some ⟨b,0,none⟩)] w fun e w'=>e= .returned (.string ⟨l.toArray⟩)∧Fr S w w':=by
 by_cases h0:l=[]
 ·subst h0
  have c1:=h.cell1
  rcases h.own.2 with ⟨rfl,_⟩ | ⟨g,cap,cur,rfl,_,hg,_⟩
  ·exact string_nil S w b c1
  ·by_cases hc0:cap=0
   ·subst hc0
    exact string_noroom S w b g cur c1 hg
   ·exact string_room S w b g cap hc0 c1
 ·exact string_some B S w b p v l h h0
end
section
open Go.RowKit Go.Proofs
def bigEnd:Nat→Nat→List UInt8
 | 0,_=>[]
 | k+1,n=>UInt8.ofNat (n / 256 ^ k)::bigEnd k n
theorem bigEnd_length (k n:Nat):(bigEnd k n).length=k:=by
 induction k with
 | zero=>rfl
 | succ k ih=>simp [bigEnd,ih]
def NumOk (n:Nat) (size:Int):Prop:=1≤size∧size≤8∧n<256 ^ size.toNat
theorem bytes_join (j:Nat) (bs bs':List Value) (n:Nat) (h:bs'++(bigEnd (j+1) n).map (fun b=>Value.int .u8 b.toNat)=bs):bs'++[.int .u8 (UInt8.ofNat (n / 256 ^ j)).toNat]++(bigEnd j n).map (fun b=>Value.int .u8 b.toNat)=bs:=by
 rw [←h];simp [bigEnd]
theorem byte_of (n j:Nat):((UInt8.ofNat (n / 256 ^ j)).toNat:Int)=((n:Int) / 2 ^ (8 * j)) % 256:=by
 have h:(2:Int) ^ (8 * j)=((256 ^ j:Nat):Int):=by
  rw [show (256:Nat)=2 ^ 8 by decide, ←Nat.pow_mul];simp
 rw [h, ←Int.natCast_ediv]
 simp [UInt8.toNat_ofNat']
theorem pow_fits (m s:Nat):(m:Int) / 2 ^ (8 * (s:Int)).toNat=0↔m<256 ^ s:=by
 have h:(8 * (s:Int)).toNat=8 * s:=by omega
 rw [h]
 have h2:(2:Int) ^ (8 * s)=((256 ^ s:Nat):Int):=by
  rw [show (256:Nat)=2 ^ 8 by decide, ←Nat.pow_mul];simp
 rw [h2, ←Int.natCast_ediv]
 have h3:0<256 ^ s:=Nat.pow_pos (by omega)
 constructor
 ·intro h
  have h':m / 256 ^ s=0:=by exact_mod_cast h
  rcases Nat.div_eq_zero_iff.1 h' with h4 | h4
  ·omega
  ·exact h4
 ·intro h
  rw [Nat.div_eq_of_lt h];rfl
def getNum (l:List UInt8):Nat:=l.foldl (fun n b=>256 * n+b.toNat) 0
theorem getNum_snoc (l:List UInt8) (b:UInt8):getNum (l++[b])=256 * getNum l+b.toNat:=by simp [getNum]
theorem getNum_acc (l:List UInt8):∀ a:Nat,l.foldl (fun n b=>256 * n+b.toNat) a<(a+1) * 256 ^ l.length:=by
 induction l with
 | nil=>intro a;simp
 | cons b l ih=>
  intro a
  have h:=ih (256 * a+b.toNat)
  have hb:=b.toNat_lt
  simp only [List.foldl_cons,List.length_cons,Nat.pow_succ]
  refine Nat.lt_of_lt_of_le h ?_
  rw [Nat.mul_comm (256 ^ l.length) 256, ←Nat.mul_assoc]
  exact Nat.mul_le_mul_right _ (by omega)
theorem getNum_lt (l:List UInt8):getNum l<256 ^ l.length:=by
 have:=getNum_acc l 0
 simpa [getNum] using this
end
section
open Go.RowKit Go.Proofs
def refused (e:Int):Value:= .iface 213 (.agg #[.int .i64 e])
theorem refuse_any (c:Int) (w:World):Calls Tryz.prog 105 #[.int .i64 c] w fun e w'=>e= .panicked [{ v:=refused (if c=0 then 4 else c),recovered:=false }]∧w'=w:=by
 by_cases hc:c=0
 ·subst hc
  go_enter Tryz.func105,Tryz.ntmps105
  go_wp2
  exact ⟨rfl,rfl,rfl⟩
 ·go_enter Tryz.func105,Tryz.ntmps105
  go_wp2
  exact ⟨rfl,rfl,rfl⟩
theorem writerRaw_any (B:Nat) (S:Nat→Prop) (w:World) (b:Nat) (p v:Value) (bs:List Value) (s:ByteArray) (h:WrAt B S w b p v bs) (hlen:bs.length+s.size≤140737488355328):
  Calls Tryz.prog 60 #[.pointer (some ⟨b,0,none⟩), .string s] w fun e w'=>e= .returned (.tuple #[])∧(∃ v',WrAt B S w' b (.pointer (some ⟨b,0,none⟩)) v' (bs++Lib.strCells s))∧Fr S w w':=by
 have H:=Lib.hid h;clear h
 go_enter Tryz.func60,Tryz.ntmps60
 go_wp2_with fail
 refine (writeString_any B S w b p v bs s H.out hlen).mono ?_
 rintro e w1 ⟨rfl,h1,hf1⟩
 go_wp2
 go_end0
 exact ⟨rfl,h1,hf1⟩
theorem writerNum_8 (B:Nat) (S:Nat→Prop) (w:World) (b:Nat) (p v:Value) (bs:List Value) (n:Int) (h:WrAt B S w b p v bs) (hn0:0≤n) (hn:n<18446744073709551616) (hlen:bs.length+8≤140737488355328):
  Calls Tryz.prog 59 #[.pointer (some ⟨b,0,none⟩), .int .u64 n, .int .i64 8] w fun e w'=>e= .returned (.tuple #[])∧(∃ p' v',WrAt B S w' b p' v' (bs++Lib.byteCells (bigEnd (8:Int).toNat n.toNat)))∧Fr S w w':=by
 have H:=Lib.hid h;clear h
 go_enter Tryz.func59,Tryz.ntmps59
 go_wp2_with fail
 go_loopw [6] (fun kv wr=>∃ (k:Int) (j:Nat) (p' v':Value) (bs':List Value),kv= .int .i64 k∧k+1=j∧(j:Int)≤8∧bs'.length+(j:Int)=bs.length+8∧WrAt B S wr b p' v' bs'∧bs'++(bigEnd j n.toNat).map (fun b=>Value.int .u8 b.toNat)=bs++Lib.byteCells (bigEnd (8:Int).toNat n.toNat)∧Fr S w wr) (fun kv _=>(intOf kv+1).toNat)
 case atStart=>exact ⟨_,(8:Int).toNat,p,v,bs,rfl,by omega,by omega,by omega,H.out,rfl,Fr.refl S w⟩
 case round=>
  obtain ⟨k,j,p',v',bs',rfl,hk,hj,hln,hw,hbs,hfr⟩:=hrel
  have HB:=Lib.hid hbs;clear hbs
  have HW:=Lib.hid hw;clear hw
  cases j with
  | zero=>
   obtain rfl:k= -1:=by omega
   go_wp2_with fail
   go_end0
   exact ⟨rfl,⟨p',v',by rw [←HB.out];simpa [bigEnd] using HW.out⟩,hfr⟩
  | succ j=>
   obtain rfl:k=j:=by omega
   have h8:(8 * (j:Int)).toNat=8 * j:=by omega
   obtain ⟨m,rfl⟩:∃ m:Nat,n=m:=⟨n.toNat,by omega⟩
   have hby:=byte_of m j
   have HBY:=Lib.hid hby;clear hby
   go_wp2_with fail
   refine wp_region_text [8] [] (fun w'=>∃ z:WC (fun _=>True),w'=z.val) (by kernel_rfl) (by kernel_rfl) (fun c a w d v h=>by cases d<;>exact h) (fun c a w d v h=>by cases d<;>exact h) ⟨⟨_,trivial⟩,rfl⟩ ?_
   repeat (refine wpU_q (by rfl) (by rfl) ?_;go_big_quiet_step (fail);refine wpQuiet_nil ?_)
   refine wpU_e (by rfl) ?_
   go_wp2_with fail
   rw [←HBY.out]
   refine (writeByte_any B S _ b p' v' bs' _ HW.out.drew (by omega)).mono ?_
   rintro e w2 ⟨rfl,⟨v2,hw2⟩,hf2⟩
   go_wp2_with fail
   refine ⟨⟨⟨_,trivial⟩,rfl⟩,?_⟩
   refine wpU_nil ?_
   go_wp2_with fail
   go_roundw
   case rel=>exact ⟨_,j,_,v2,_,rfl,by omega,by omega,by simp;omega,hw2,bytes_join _ _ _ _ HB.out,hfr.drew.trans hf2 (fun k hk=> .inl hk)⟩
   case measure=>simp [intOf]
theorem writerNum_lt (B:Nat) (S:Nat→Prop) (w:World) (b:Nat) (p v:Value) (bs:List Value) (n:Int) (size:Int) (h:WrAt B S w b p v bs) (hn0:0≤n) (hn:n<18446744073709551616) (hlen:bs.length+8≤140737488355328) (h1:1≤size) (h2:size<8) (h3:n / 2 ^ (8 * size).toNat=0):
  Calls Tryz.prog 59 #[.pointer (some ⟨b,0,none⟩), .int .u64 n, .int .i64 size] w fun e w'=>e= .returned (.tuple #[])∧(∃ p' v',WrAt B S w' b p' v' (bs++Lib.byteCells (bigEnd (size:Int).toNat n.toNat)))∧Fr S w w':=by
 have H:=Lib.hid h;clear h
 have h1':¬ size<1:=by omega
 have h2':¬ 8<size:=by omega
 go_enter Tryz.func59,Tryz.ntmps59
 go_wp2_with fail
 go_loopw [6] (fun kv wr=>∃ (k:Int) (j:Nat) (p' v':Value) (bs':List Value),kv= .int .i64 k∧k+1=j∧(j:Int)≤size∧bs'.length+(j:Int)=bs.length+size∧WrAt B S wr b p' v' bs'∧bs'++(bigEnd j n.toNat).map (fun b=>Value.int .u8 b.toNat)=bs++Lib.byteCells (bigEnd (size:Int).toNat n.toNat)∧Fr S w wr) (fun kv _=>(intOf kv+1).toNat)
 case atStart=>exact ⟨_,(size:Int).toNat,p,v,bs,rfl,by omega,by omega,by omega,H.out,rfl,Fr.refl S w⟩
 case round=>
  obtain ⟨k,j,p',v',bs',rfl,hk,hj,hln,hw,hbs,hfr⟩:=hrel
  have HB:=Lib.hid hbs;clear hbs
  have HW:=Lib.hid hw;clear hw
  cases j with
  | zero=>
   obtain rfl:k= -1:=by omega
   go_wp2_with fail
   go_end0
   exact ⟨rfl,⟨p',v',by rw [←HB.out];simpa [bigEnd] using HW.out⟩,hfr⟩
  | succ j=>
   obtain rfl:k=j:=by omega
   have h8:(8 * (j:Int)).toNat=8 * j:=by omega
   obtain ⟨m,rfl⟩:∃ m:Nat,n=m:=⟨n.toNat,by omega⟩
   have hby:=byte_of m j
   have HBY:=Lib.hid hby;clear hby
   go_wp2_with fail
   refine wp_region_text [8] [] (fun w'=>∃ z:WC (fun _=>True),w'=z.val) (by kernel_rfl) (by kernel_rfl) (fun c a w d v h=>by cases d<;>exact h) (fun c a w d v h=>by cases d<;>exact h) ⟨⟨_,trivial⟩,rfl⟩ ?_
   repeat (refine wpU_q (by rfl) (by rfl) ?_;go_big_quiet_step (fail);refine wpQuiet_nil ?_)
   refine wpU_e (by rfl) ?_
   go_wp2_with fail
   rw [←HBY.out]
   refine (writeByte_any B S _ b p' v' bs' _ HW.out.drew (by omega)).mono ?_
   rintro e w2 ⟨rfl,⟨v2,hw2⟩,hf2⟩
   go_wp2_with fail
   refine ⟨⟨⟨_,trivial⟩,rfl⟩,?_⟩
   refine wpU_nil ?_
   go_wp2_with fail
   go_roundw
   case rel=>exact ⟨_,j,_,v2,_,rfl,by omega,by omega,by simp;omega,hw2,bytes_join _ _ _ _ HB.out,hfr.drew.trans hf2 (fun k hk=> .inl hk)⟩
   case measure=>simp [intOf]
theorem writerNum_any (B:Nat) (S:Nat→Prop) (w:World) (b:Nat) (p v:Value) (bs:List Value) (n:Int) (size:Int) (h:WrAt B S w b p v bs) (hn0:0≤n) (hn:n<18446744073709551616) (hlen:bs.length+8≤140737488355328) (hok:NumOk n.toNat size):
  Calls Tryz.prog 59 #[.pointer (some ⟨b,0,none⟩), .int .u64 n, .int .i64 size] w fun e w'=>e= .returned (.tuple #[])∧(∃ p' v',WrAt B S w' b p' v' (bs++Lib.byteCells (bigEnd size.toNat n.toNat)))∧Fr S w w':=by
 obtain ⟨h1,h2,h3⟩:=hok
 by_cases h4:size=8
 ·subst h4
  exact writerNum_8 B S w b p v bs n h hn0 hn hlen
 ·obtain ⟨m,rfl⟩:∃ m:Nat,n=m:=⟨n.toNat,by omega⟩
  obtain ⟨s,rfl⟩:∃ s:Nat,size=s:=⟨size.toNat,by omega⟩
  exact writerNum_lt B S w b p v bs m s h hn0 hn hlen h1 (by omega) ((pow_fits m s).2 (by simpa using h3))
end
section
open Go.RowKit Go.Proofs
theorem writerText_any (B:Nat) (S:Nat→Prop) (w:World) (b:Nat) (p v:Value) (bs:List Value) (s:ByteArray) (h:WrAt B S w b p v bs) (hlen:bs.length+500≤140737488355328) (hs:s.size≤255):
  Calls Tryz.prog 104 #[.pointer (some ⟨b,0,none⟩), .string s] w fun e w'=>e= .returned (.tuple #[])∧(∃ p' v',WrAt B S w' b p' v' (bs++(.int .u8 s.size::Lib.strCells s)))∧Fr S w w':=by
 have H:=Lib.hid h;clear h
 go_enter Tryz.func104,Tryz.ntmps104
 go_wp2_with fail
 refine (writerNum_any B S w b p v bs s.size 1 H.out (by omega) (by omega) (by omega) ⟨by omega,by omega,by simp;omega⟩).mono ?_
 rintro e w1 ⟨rfl,⟨p1,v1,h1⟩,hf1⟩
 have H1:=Lib.hid h1;clear h1
 go_wp2_with fail
 refine (writerRaw_any B S w1 b p1 v1 _ s H1.out (by simp [Lib.byteCells_length,bigEnd_length];omega)).mono ?_
 rintro e w2 ⟨rfl,⟨v2,h2⟩,hf2⟩
 have e1:bs++Lib.byteCells (bigEnd (1:Int).toNat (s.size:Int).toNat)++Lib.strCells s=bs++(.int .u8 s.size::Lib.strCells s):=by
  have:s.size % 256=s.size:=Nat.mod_eq_of_lt (by omega)
  simp [bigEnd,Lib.byteCells,this]
 rw [e1] at h2
 go_wp2
 go_end0
 exact ⟨rfl,⟨_,v2,h2⟩,hf1.trans hf2 (fun k hk=> .inl hk)⟩
def RdAt (w:World) (b:Nat) (s:ByteArray):Prop:=w.cell? ⟨b,0,none⟩=some (.string s)∧w.frozen? ⟨b,0,none⟩=false∧s.size≤9223372036854775807
theorem readerRaw_short (b:Nat) (n:Int) (s:ByteArray) (w:World) (hr:RdAt w b s) (h0:0≤n) (h:(s.size:Int)<n) (hn:n≤9223372036854775807):
  Calls Tryz.prog 140 #[.pointer (some ⟨b,0,none⟩), .int .i64 n] w fun e w'=>e= .panicked [{ v:=refused 2,recovered:=false }]∧w'=w:=by
 obtain ⟨hr1,hr2,hr3⟩:=hr
 go_enter Tryz.func140,Tryz.ntmps140
 go_wp2_with fail
 refine (refuse_any 2 w).mono ?_
 rintro e w' ⟨rfl,rfl⟩
 go_wp2
 exact ⟨rfl,rfl,rfl⟩
theorem readerRaw_ok (b:Nat) (n:Nat) (s:ByteArray) (w:World) (hr:RdAt w b s) (h:n≤s.size):
  Calls Tryz.prog 140 #[.pointer (some ⟨b,0,none⟩), .int .i64 n] w fun e w'=>e= .returned (.string (s.extract 0 n))∧w'=w.setCell ⟨b,0,none⟩ (.string (s.extract n s.size)):=by
 obtain ⟨hr1,hr2,hr3⟩:=hr
 go_enter Tryz.func140,Tryz.ntmps140
 go_wp2
 go_ret
 exact ⟨rfl,rfl⟩
theorem RdAt.after {w:World} {b:Nat} {s s':ByteArray} (h:RdAt w b s) (hs:s'.size≤s.size):RdAt (w.setCell ⟨b,0,none⟩ (.string s')) b s':=
 ⟨World.cell?_setCell_same _ _ _ h.1,by rw [World.frozen?_setCell];exact h.2.1,Nat.le_trans hs h.2.2⟩
theorem readerNum_short (b:Nat) (n:Int) (s:ByteArray) (w:World) (hr:RdAt w b s) (h1:1≤n) (h8:n≤8) (h:(s.size:Int)<n):
  Calls Tryz.prog 133 #[.pointer (some ⟨b,0,none⟩), .int .i64 n] w fun e w'=>e= .panicked [{ v:=refused 2,recovered:=false }]∧w'=w:=by
 have h1':¬ n<1:=by omega
 have h8':¬ 8<n:=by omega
 have H:=Lib.hid hr;clear hr
 go_enter Tryz.func133,Tryz.ntmps133
 go_wp2_with fail
 refine (readerRaw_short b n s w H.out (by omega) h (by omega)).mono ?_
 rintro e w' ⟨rfl,rfl⟩
 go_wp2
 exact ⟨rfl,rfl,rfl⟩
theorem conv_bytes (w:World) (s:ByteArray) (n:Nat) (hn:s.size=n):∃ cap w',(convert 9 23 (.string s)).run Tryz.prog w= .ok (.slice (some ⟨w.heap.size,0,none⟩) n cap) w'∧Fr (fun _=>False) w w'∧w'.heap.size=w.heap.size+1∧
  (∀ j (h:j<s.data.toList.length),w'.cell? ⟨w.heap.size,j,none⟩=some (.int .u8 (s.data.toList[j]).toNat)):=by
 subst hn
 refine ⟨_,_,Lib.run_convert_string_bytes w 9 23 5 s Tryz.underlying9 Tryz.underlying23 Tryz.underlying5,?_,Lib.bytesWorld_size _ _ _,?_⟩
 ·have h:Fr (fun k=>w.heap.size≤k) w (Lib.bytesWorld w 5 s):=(((Fr.refl (fun k=>w.heap.size≤k) w).drew).alloc _).freeze (Nat.le_refl w.heap.size) _
  exact h.mono (fun k hk h'=>by omega)
 ·intro j hj
  rw [Lib.bytesWorld_cell w 5 s j (by simpa using hj)]
  simp [List.getD,List.getElem?_eq_getElem hj]
theorem or_byte (a:Nat) (b:UInt8) (h:a<72057594037927936):bits .or .u64 (IntKind.u64.wrap ((a:Int) * 256)) (IntKind.u64.wrap (b.toNat:Int))=((256 * a+b.toNat:Nat):Int):=by
 have hb:=b.toNat_lt
 rw [IntKind.wrap_u64,IntKind.wrap_u64,Int.emod_eq_of_lt (by omega) (by omega),Int.emod_eq_of_lt (by omega) (by omega)]
 rw [bits_join .u64 64 (by decide) (fun n h0 h1=>by rw [IntKind.wrap_u64];omega) 8 _ _ (by omega) (by omega) (by omega) (by omega) (by omega) (by omega)]
 omega
theorem readerNum_ok (b:Nat) (n:Nat) (s:ByteArray) (w:World) (hr:RdAt w b s) (h1:1≤n) (h8:n≤8) (h:n≤s.size):
  Calls Tryz.prog 133 #[.pointer (some ⟨b,0,none⟩), .int .i64 n] w fun e w'=>e= .returned (.int .u64 (getNum (s.extract 0 n).data.toList:Nat))∧RdAt w' b (s.extract n s.size)∧Fr (· =b) w w':=by
 have hR:=hr.after (s':=s.extract n s.size) (by simp)
 have hF:Fr (· =b) w (w.setCell ⟨b,0,none⟩ (.string (s.extract n s.size))):=(Fr.refl (fun k=>k=b) w).setCell (p:=⟨b,0,none⟩) (.inl rfl) _
 have H:=Lib.hid hr;clear hr
 have HR:=Lib.hid hR;clear hR
 obtain ⟨t,ht,hts⟩:∃ t,s.extract 0 n=t∧t.size=n:=⟨_,rfl,by simp;omega⟩
 have hRaw:=readerRaw_ok b n s w H.out h
 rw [ht] at hRaw ⊢
 have htl:t.data.toList.length=n:=by rw [←hts];simp
 obtain ⟨cap,w2,hconv,hf2,hs2,hcells⟩:=conv_bytes (w.setCell ⟨b,0,none⟩ (.string (s.extract n s.size))) t n hts
 have hlt:=lt_of_cell HR.out.1
 simp only at hlt
 have HF:Hid (RdAt w2 b (s.extract n s.size)∧Fr (· =b) w w2):=⟨⟨hf2.cell HR.out.1 (fun h=>h),by rw [hf2.frozen HR.out.1 (fun h=>h)];exact HR.out.2.1,HR.out.2.2⟩,hF.trans hf2 (fun k hk=>hk.elim)⟩
 clear ht hF hf2 hs2 HR
 generalize hB:(w.setCell ⟨b,0,none⟩ (.string (s.extract n s.size))).heap.size=B at *
 have HC:=Lib.hid hcells;clear hcells
 go_enter Tryz.func133,Tryz.ntmps133
 go_wp2_with fail
 refine hRaw.mono ?_
 rintro e w1 ⟨rfl,rfl⟩
 go_wp2_with fail
 go_loopw [5,20] (fun nv iv wr=>∃ j:Nat,iv= .int .i64 j∧j≤n∧nv= .int .u64 (getNum (t.data.toList.take j):Nat)∧wr=w2) (fun _ iv _=>n-(intOf iv).toNat)
 case atStart=>exact ⟨0,rfl,Nat.zero_le _,rfl,rfl⟩
 case round=>
  obtain ⟨j,rfl,hj,rfl,rfl⟩:=hrel
  by_cases hj1:j<n
  ·have hcell:=HC.out j (by omega)
   have hlast:t.data.toList.take (j+1)=t.data.toList.take j++[t.data.toList[j]'(by omega)]:=by
    rw [List.take_succ_eq_append_getElem (by omega)]
   generalize hb:t.data.toList[j]'(by omega)=c at hcell hlast
   have hbd:=getNum_lt (t.data.toList.take j)
   have hor:=or_byte (getNum (t.data.toList.take j)) c (by
    refine Nat.lt_of_lt_of_le hbd ?_
    rw [List.length_take]
    exact Nat.pow_le_pow_right (n:=256) (by omega) (show min j _≤7 by omega))
   have HO:=Lib.hid hor;clear hor
   clear hbd
   go_wp2_with fail
   go_roundw
   case rel=>exact ⟨j+1,by go_num,by omega,by rw [HO.out,hlast,getNum_snoc],trivial⟩
   case measure=>simp [intOf];omega
  ·have hjn:j=n:=by omega
   subst hjn
   go_wp2_with fail
   go_ret
   refine ⟨?_,HF.out⟩
   rw [List.take_of_length_le (by omega)]
   rfl
end
section
open Go.RowKit Go.Proofs
theorem catch_ret (r:Addr) (w:World):
  CallsD Tryz.prog 124 #[.pointer (some r)] .returning w fun e u' w'=>e= .returned (.tuple #[])∧u'= .returning∧w'=w:=by
 refine callsD_of_wpS Tryz.func124 rfl fun c₀ cs hu=>?_
 apply wpS_seq
 apply wpS_region
 simp [wpOpsS,go_sem,recoverD,hu,Tryz.ntmps124,Exit.thenS]
 refine wpS_of_wp ?_
 go_wp2
 cases c₀
 simp_all [bodyPostS,results,Tryz.results124]
theorem catch_ref (r:Addr) (c x:Int) (w:World) (hc:w.cell? r=some (.int .i64 x)) (hz:w.frozen? r=false):
  CallsD Tryz.prog 124 #[.pointer (some r)] (.panicking [{ v:=refused c,recovered:=false }]) w fun e u' w'=>e= .returned (.tuple #[])∧u'= .panicking [{ v:=refused c,recovered:=true }]∧
   w'=(w.alloc (.cells #[.int .i64 c] 213)).setCell r (.int .i64 c):=by
 refine callsD_of_wpS Tryz.func124 rfl fun c₀ cs hu=>?_
 apply wpS_seq
 apply wpS_region
 simp [wpOpsS,go_sem,recoverD,hu,Tryz.ntmps124,Exit.thenS]
 refine wpS_of_wp ?_
 have hta:∀ w,(Instr.typeAssert (.iface 213 (.agg #[.int .i64 c])) 20 213 true).run Tryz.prog w= .ok (.tuple #[.agg #[.int .i64 c], .bool true]) w:=fun _=>by kernel_rfl
 have hz':(w.alloc (.cells #[.int .i64 c] 213)).frozen? r=false:=by
  rw [←hz];exact World.frozen?_of_block (w:=w) (Below.heap_alloc _ _ _ (lt_of_cell hc))
 have hc':(w.alloc (.cells #[.int .i64 c] 213)).cell? r=some (.int .i64 x):=by
  rw [←hc];exact World.cell?_of_block (w:=w) (Below.heap_alloc _ _ _ (lt_of_cell hc))
 unfold refused
 go_wp2
 cases c₀
 simp_all [bodyPostS,results,Tryz.results124]
theorem catch_other (r:Addr) (s:ByteArray) (w:World):
  CallsD Tryz.prog 124 #[.pointer (some r)] (.panicking [{ v:= .iface 9 (.string s),recovered:=false }]) w fun e u' w'=>e= .panicked [{ v:= .iface 9 (.string s),recovered:=false }]∧u'= .panicking [{ v:= .iface 9 (.string s),recovered:=true }]∧w'=w:=by
 refine callsD_of_wpS Tryz.func124 rfl fun c₀ cs hu=>?_
 apply wpS_seq
 apply wpS_region
 simp [wpOpsS,go_sem,recoverD,hu,Tryz.ntmps124,Exit.thenS]
 refine wpS_of_wp ?_
 have hta:∀ w,(Instr.typeAssert (.iface 9 (.string s)) 20 213 true).run Tryz.prog w= .ok (.tuple #[.agg #[.int .i64 0], .bool false]) w:=fun _=>by kernel_rfl
 go_wp2
 cases c₀
 simp_all [bodyPostS]
inductive RunEnd (r:Addr) (w0:World):Ending→Ending→World→Prop where
 | ret:RunEnd r w0 (.returned (.tuple #[])) (.returned (.int .i64 0)) (w0.setCell r (.int .i64 0))
 | ref (c:Int):RunEnd r w0 (.panicked [{ v:=refused c,recovered:=false }]) (.returned (.int .i64 c)) ((w0.alloc (.cells #[.int .i64 c] 213)).setCell r (.int .i64 c))
 | other (s:ByteArray):RunEnd r w0 (.panicked [{ v:= .iface 9 (.string s),recovered:=false }]) (.panicked [{ v:= .iface 9 (.string s),recovered:=false },{ v:= .iface 9 (.string s),recovered:=true }]) w0
theorem run_any (F:FuncId) (cap:Array Value) (w:World) (R:Ending→World→Prop) (hent:∀ w,(callFunc F cap).run Tryz.prog w= .ok (.enter F cap) w) (hc:Calls Tryz.prog F cap (w.alloc (.cells #[.int .i64 0] 39)) R)
  (hR:∀ e w',R e w'→w'.cell? ⟨w.heap.size,0,none⟩=some (.int .i64 0)∧w'.frozen? ⟨w.heap.size,0,none⟩=false∧∃ e1 w1,RunEnd ⟨w.heap.size,0,none⟩ w' e e1 w1):
  Calls Tryz.prog 99 #[.func (.func F) #[] cap] w fun e w'=>∃ e0 w0,R e0 w0∧RunEnd ⟨w.heap.size,0,none⟩ w0 e0 e w':=by
 have hmf:∀ (fn:Fn) (first cap:Array Value) (w:World),(Instr.makeFunc fn first cap).run Tryz.prog w= .ok (.func fn first cap) w:=fun _ _ _ _=>rfl
 go_enter_defers Tryz.func99,Tryz.ntmps99
 go_wp2_with fail
 refine hc.mono ?_
 intro e w1 hr
 obtain ⟨k1,k2,e1,w2,hend⟩:=hR e w1 hr
 cases hend with
 | ret=>
  go_wp2_with fail
  refine leaves_cons (f:=124) (args:= #[.pointer (some ⟨w.heap.size,0,none⟩)]) (by simp) (by simp [go_sem]) ?_
  refine (catch_ret _ _).mono ?_
  rintro e u' w'' ⟨rfl,rfl,rfl⟩
  have hk:(w1.setCell ⟨w.heap.size,0,none⟩ (.int .i64 0)).cell? ⟨w.heap.size,0,none⟩=some (.int .i64 0):=World.cell?_setCell_same _ _ _ k1
  refine ⟨.int .i64 0,?_,_,_,hr,RunEnd.ret⟩
  simp [results,Tryz.results99,go_sem,hk]
 | ref c=>
  go_wp2_with fail
  refine leaves_cons (f:=124) (args:= #[.pointer (some ⟨w.heap.size,0,none⟩)]) (by simp) (by simp [go_sem]) ?_
  refine (catch_ref _ c 0 _ k1 k2).mono ?_
  rintro e u' w'' ⟨rfl,rfl,rfl⟩
  have hlt:=lt_of_cell k1
  have k1':(w1.alloc (.cells #[.int .i64 c] 213)).cell? ⟨w.heap.size,0,none⟩=some (.int .i64 0):=by
   rw [←k1];exact World.cell?_of_block (w:=w1) (Below.heap_alloc _ _ _ hlt)
  have hk:((w1.alloc (.cells #[.int .i64 c] 213)).setCell ⟨w.heap.size,0,none⟩ (.int .i64 c)).cell? ⟨w.heap.size,0,none⟩=some (.int .i64 c):=World.cell?_setCell_same _ _ _ k1'
  refine ⟨.int .i64 c,?_,_,_,hr,RunEnd.ref c⟩
  simp [results,Tryz.results99,go_sem,hk]
 | other s=>
  go_wp2_with fail
  refine leaves_cons (f:=124) (args:= #[.pointer (some ⟨w.heap.size,0,none⟩)]) (by simp) (by simp [go_sem]) ?_
  refine (catch_other _ s _).mono ?_
  rintro e u' w'' ⟨rfl,rfl,rfl⟩
  exact ⟨_,_,hr,RunEnd.other s⟩
end
section
open Go.RowKit Go.Proofs
inductive WOut where
 | ok (l:List UInt8)
 | ref (c:Int)
 | other (s:ByteArray)
def wS (n k:Nat):Prop:=k=n+1∨n+4≤k
inductive WEnds (B:Nat) (S:Nat→Prop) (b:Nat) (w:World):WOut→Ending→Prop where
 | ok (l:List UInt8) (p v:Value) (h:WrAt B S w b p v (Lib.byteCells l)):WEnds B S b w (.ok l) (.returned (.tuple #[]))
 | ref (c:Int) (h:c≠0):WEnds B S b w (.ref c) (.panicked [{ v:=refused c,recovered:=false }])
 | other (s:ByteArray):WEnds B S b w (.other s) (.panicked [{ v:= .iface 9 (.string s),recovered:=false }])
def WOut.ending:WOut→Ending
 | .ok l=> .returned (.tuple #[.string ⟨l.toArray⟩, .int .i64 0])
 | .ref c=> .returned (.tuple #[.string ⟨#[]⟩, .int .i64 c])
 | .other s=> .panicked [{ v:= .iface 9 (.string s),recovered:=false },{ v:= .iface 9 (.string s),recovered:=true }]
theorem enters_fn {f:FuncId} {fn:Func} (hf:Tryz.prog.funcs[f]?=some fn) (hname:(fn.name== "runtime.NumGoroutine")=false) (hb:fn.body.isSome=true) (args:Array Value) (w:World):(callFunc f args).run Tryz.prog w= .ok (.enter f args) w:=by
 obtain ⟨c,hc⟩:=Option.isSome_iff_exists.1 hb
 have h1:fn.name≠ "runtime.NumGoroutine" :=by simpa using hname
 simp [callFunc,hf,h1,hc]
theorem write1_any (n:Nat) (F:FuncId) (cap:Array Value) (w:World) (R:Ending→World→Prop) (hent:∀ a w,(callFunc F (#[a]++cap)).run Tryz.prog w= .ok (.enter F (#[a]++cap)) w)
  (h0:w.cell? ⟨n,0,none⟩=some (.func (.func F) #[] cap)) (h2:w.cell? ⟨n+2,0,none⟩=some (.pointer (some ⟨n+1,0,none⟩))) (hc:Calls Tryz.prog F (#[.pointer (some ⟨n+1,0,none⟩)]++cap) w R)
  (hR:∀ e w',R e w'→e= .returned (.tuple #[])∨∃ ch,e= .panicked ch):
  Calls Tryz.prog 100 #[.pointer (some ⟨n,0,none⟩), .pointer (some ⟨n+2,0,none⟩)] w R:=by
 go_enter Tryz.func100,Tryz.ntmps100
 go_wp2_with fail
 refine hc.mono ?_
 intro e w1 hr
 rcases hR e w1 hr with rfl | ⟨ch,rfl⟩
 ·go_wp2_with fail
  go_end0
  exact hr
 ·go_wp2_with fail
  exact ⟨rfl,hr⟩
theorem write_start (W:World) (f:Value):∃ w3:World,w3=(((W.alloc (.cells #[f] 132)).alloc (.cells #[.pointer none, .slice none 0 0] 187)).alloc (.cells #[.pointer (some ⟨W.heap.size+1,0,none⟩)] 133))∧
  Fr (fun _=>False) W w3∧w3.heap.size=W.heap.size+3∧w3.heap[W.heap.size]?=some (.cells #[f] 132)∧w3.heap[W.heap.size+1]?=some (.cells #[.pointer none, .slice none 0 0] 187)∧
  w3.heap[W.heap.size+2]?=some (.cells #[.pointer (some ⟨W.heap.size+1,0,none⟩)] 133):=by
 refine ⟨_,rfl,(((Fr.refl _ W).alloc _).alloc _).alloc _,by simp,?_,?_,?_⟩
 ·rw [heap_alloc_if,if_neg (by simp;omega),heap_alloc_if,if_neg (by simp),heap_alloc_if,if_pos rfl]
 ·rw [heap_alloc_if,if_neg (by simp),heap_alloc_if,if_pos (by simp)]
 ·rw [heap_alloc_if,if_pos (by simp)]
theorem packWrite_any (F:FuncId) (cap:Array Value) (W:World) (T:Nat→Prop) (G:WOut→World→Prop) (hent:∀ a w,(callFunc F (#[a]++cap)).run Tryz.prog w= .ok (.enter F (#[a]++cap)) w)
  (hT:∀ k,T k→k<W.heap.size)
  (hc:∀ w,Fr (fun _=>False) W w→WrAt W.heap.size (wS W.heap.size) w (W.heap.size+1) (.pointer none) (.slice none 0 0) []→
   Calls Tryz.prog F (#[.pointer (some ⟨W.heap.size+1,0,none⟩)]++cap) w fun e w'=>Fr (fun k=>wS W.heap.size k∨T k) w w'∧∃ x,WEnds W.heap.size (wS W.heap.size) (W.heap.size+1) w' x e∧G x w'):
  Calls Tryz.prog 56 #[.func (.func F) #[] cap] W fun e w'=>∃ w0 x,G x w0∧e=x.ending∧Fr (fun k=>W.heap.size≤k) w0 w'∧W.heap.size≤w0.heap.size∧Fr (fun k=>W.heap.size≤k∨T k) W w':=by
 have hmf:∀ (fn:Fn) (first cap:Array Value) (w:World),(Instr.makeFunc fn first cap).run Tryz.prog w= .ok (.func fn first cap) w:=fun _ _ _ _=>rfl
 obtain ⟨w3,hw3,hf3,hs3,b0,b1,b2⟩:=write_start W (.func (.func F) #[] cap)
 have hb4:∀ k,(w3.alloc (.cells #[.int .i64 0] 39)).heap[k]?=if k=W.heap.size+3 then some (.cells #[.int .i64 0] 39) else w3.heap[k]?:=fun k=>by rw [heap_alloc_if,hs3]
 have hw4:WrAt W.heap.size (wS W.heap.size) (w3.alloc (.cells #[.int .i64 0] 39)) (W.heap.size+1) (.pointer none) (.slice none 0 0) []:=by
  refine ⟨fun k hk=> .inr (by simp [hs3] at hk;omega), .inl rfl, .inl rfl,by rw [hb4,if_neg (by omega)];exact b1,by simp [hs3];omega,World.ownsRow_nil _ _ _ _,?_,fun q hq=>by cases hq⟩
  intro k cs fr hk hS h
  have hcases:k=W.heap.size∨k=W.heap.size+2∨k=W.heap.size+3:=by
   unfold wS at hS;omega
  rw [hb4] at h
  rcases hcases with rfl | rfl | rfl
  ·rw [if_neg (by omega),b0] at h;simp at h
  ·rw [if_neg (by omega),b2] at h;simp at h
  ·rw [if_pos rfl] at h;simp at h
 have hf4:=hf3.alloc (.cells #[.int .i64 0] 39)
 have hcall:=write1_any W.heap.size F cap (w3.alloc (.cells #[.int .i64 0] 39)) _ hent
  (by rw [World.cell?,hb4,if_neg (by simp),b0];rfl) (by rw [World.cell?,hb4,if_neg (by simp),b2];rfl) (hc _ hf4 hw4)
  (by rintro e w' ⟨_,x,hx,_⟩;cases hx;exact .inl rfl;exact .inr ⟨_,rfl⟩;exact .inr ⟨_,rfl⟩)
 have hrun:=run_any 100 #[.pointer (some ⟨W.heap.size,0,none⟩), .pointer (some ⟨W.heap.size+2,0,none⟩)] w3 _ (fun w=>enters_fn Tryz.func100 (by kernel_rfl) rfl _ w) hcall
  (by
   rintro e w' ⟨hf,x,hx,_⟩
   have hr:¬ (wS W.heap.size (W.heap.size+3)∨T (W.heap.size+3)):=by
    intro h;rcases h with h | h
    ·unfold wS at h;omega
    ·have:=hT _ h;omega
   rw [hs3]
   have c4:(w3.alloc (.cells #[.int .i64 0] 39)).cell? ⟨W.heap.size+3,0,none⟩=some (.int .i64 0):=by rw [World.cell?,hb4,if_pos rfl];rfl
   refine ⟨hf.cell c4 hr,by rw [hf.frozen c4 hr,World.frozen?,hb4,if_pos rfl];rfl,?_⟩
   cases hx with
   | ok l=>exact ⟨_,_, .ret⟩
   | ref c=>exact ⟨_,_, .ref c⟩
   | other s=>exact ⟨_,_, .other s⟩)
 have k2:∀ w',Fr (fun k=>wS W.heap.size k∨T k) (w3.alloc (.cells #[.int .i64 0] 39)) w'→w'.cell? ⟨W.heap.size+1+1,0,none⟩=some (.pointer (some ⟨W.heap.size+1,0,none⟩)):=by
  intro w' hf
  refine hf.cell (p:=⟨W.heap.size+2,0,none⟩) (by rw [World.cell?,hb4,if_neg (by simp),b2];rfl) ?_
  intro h;rcases h with h | h
  ·unfold wS at h;simp only at h;omega
  ·have:=hT _ h;simp only at this;omega
 have K2:=Lib.hid k2;clear k2
 have HR:=Lib.hid hrun;clear hrun
 have HF4:=Lib.hid hf4;clear hf4
 have HB4:=Lib.hid hb4;clear hb4
 clear hcall hw4 hc b0 b1 b2
 go_enter Tryz.func56,Tryz.ntmps56
 go_wp2_with fail
 rw [←hw3]
 refine HR.out.mono ?_
 rw [hs3]
 rintro e w5 ⟨e0,w0,⟨hf0,x,hx,hg⟩,hend⟩
 have hs0:=hf0.size
 simp only [World.size_alloc,hs3] at hs0
 have hW0:Fr (fun k=>W.heap.size≤k∨T k) W w0:=(HF4.out.mono (T:=fun k=>W.heap.size≤k∨T k) (by intro k hk h;exact h.elim)).trans hf0 (by
  intro k hk
  left
  rcases hk with hk | hk
  ·unfold wS at hk;left;omega
  ·right;exact hk)
 have hkk:=K2.out w0 hf0
 have hn3:w0.heap[W.heap.size+3]?=some (.cells #[.int .i64 0] 39 (0,0)):=by
  rw [hf0.block (W.heap.size+3) (by simp [hs3]) (by
   intro h;rcases h with h | h
   ·unfold wS at h;omega
   ·have:=hT _ h;omega),HB4.out,if_pos rfl]
 have HG:=Lib.hid hg;clear hg
 have HW0:=Lib.hid hW0;clear hW0
 have HN3:=Lib.hid hn3;clear hn3
 clear hf0 HF4 HB4 K2 HR hw3 hf3
 cases hx with
 | ok l p v hwr=>
  cases hend with
  | ret=>
   have hf5:Fr (fun k=>k=W.heap.size+3) w0 (w0.setCell ⟨W.heap.size+3,0,none⟩ (.int .i64 0)):=(Fr.refl (fun k=>k=W.heap.size+3) w0).setCell (p:=⟨W.heap.size+3,0,none⟩) (.inl rfl) _
   have hk5:=hf5.cell hkk (by simp)
   have hw5:=hwr.keep hf5 (by intro k hk h1 h2;unfold wS at h2;omega) (by
    intro k hk h1 h2 cs fr h3
    subst h1
    simp [World.setCell,Array.getElem?_modify,HN3.out] at h3)
   have HW5:=Lib.hid hw5;clear hw5
   have HF5:=Lib.hid hf5;clear hf5
   clear hwr hkk
   go_wp2_with fail
   refine (string_any _ _ _ _ _ _ l HW5.out).mono ?_
   rintro e w6 ⟨rfl,hf6⟩
   go_wp2_with fail
   go_ret2
   have h06:Fr (fun k=>W.heap.size≤k) w0 w6:=(HF5.out.mono (T:=fun k=>W.heap.size≤k) (by intro k hk h;omega)).trans hf6 (by intro k hk;left;unfold wS at hk;omega)
   exact ⟨w0, .ok l,HG.out,rfl,h06,by omega,HW0.out.trans h06 (by intro k hk;exact .inl (.inl hk))⟩
 | ref c hc0=>
  cases hend with
  | ref c=>
   have hlt:W.heap.size+3<w0.heap.size:=by omega
   have h06:Fr (fun k=>W.heap.size≤k) w0 ((w0.setCell ⟨W.heap.size+3,0,none⟩ (.int .i64 c)).alloc (.cells #[.int .i64 c] 213)):=((Fr.refl (fun k=>W.heap.size≤k) w0).setCell (p:=⟨W.heap.size+3,0,none⟩) (.inl (by simp)) _).alloc _
   have H06:=Lib.hid h06;clear h06
   go_wp2_with fail
   go_ret2
   exact ⟨w0, .ref c,HG.out,rfl,H06.out,by omega,HW0.out.trans H06.out (by intro k hk;exact .inl (.inl hk))⟩
 | other s=>
  cases hend with
  | other s=>
   go_wp2_with fail
   exact ⟨rfl,_, .other s,HG.out,rfl,Fr.refl _ _,by omega,HW0.out⟩
end
section
open Go.RowKit Go.Proofs
inductive ROut where
 | ok (rest:ByteArray)
 | ref (c:Int)
 | other (s:ByteArray)
inductive REnds (b:Nat) (w:World):ROut→Ending→Prop where
 | ok (rest:ByteArray) (h:RdAt w b rest):REnds b w (.ok rest) (.returned (.tuple #[]))
 | ref (c:Int) (h:c≠0):REnds b w (.ref c) (.panicked [{ v:=refused c,recovered:=false }])
 | other (s:ByteArray):REnds b w (.other s) (.panicked [{ v:= .iface 9 (.string s),recovered:=false }])
def ROut.ending:ROut→Ending
 | .ok rest=> .returned (.int .i64 (if rest.size=0 then 0 else 3))
 | .ref c=> .returned (.int .i64 c)
 | .other s=> .panicked [{ v:= .iface 9 (.string s),recovered:=false },{ v:= .iface 9 (.string s),recovered:=true }]
theorem read_start (W:World) (s:ByteArray) (f:Value):∃ w3:World,w3=(((W.alloc (.cells #[f] 216)).alloc (.cells #[.string s] 223)).alloc (.cells #[.pointer (some ⟨W.heap.size+1,0,none⟩)] 221))∧
  Fr (fun _=>False) W w3∧w3.heap.size=W.heap.size+3∧w3.heap[W.heap.size]?=some (.cells #[f] 216)∧w3.heap[W.heap.size+1]?=some (.cells #[.string s] 223)∧
  w3.heap[W.heap.size+2]?=some (.cells #[.pointer (some ⟨W.heap.size+1,0,none⟩)] 221):=by
 refine ⟨_,rfl,(((Fr.refl _ W).alloc _).alloc _).alloc _,by simp,?_,?_,?_⟩
 ·rw [heap_alloc_if,if_neg (by simp;omega),heap_alloc_if,if_neg (by simp),heap_alloc_if,if_pos rfl]
 ·rw [heap_alloc_if,if_neg (by simp),heap_alloc_if,if_pos (by simp)]
 ·rw [heap_alloc_if,if_pos (by simp)]
end
section
open Go.RowKit Go.Proofs
theorem RdAt.keep {T:Nat→Prop} {w w':World} {b:Nat} {s:ByteArray} (h:RdAt w b s) (f:Fr T w w') (hb:¬ T b):RdAt w' b s:=
 ⟨f.cell h.1 hb,by rw [f.frozen h.1 hb];exact h.2.1,h.2.2⟩
end
section
open Go.RowKit Go.Proofs
theorem getNum_from (k:Nat):∀ n a:Nat,(bigEnd k n).foldl (fun n b=>256 * n+b.toNat) a=a * 256 ^ k+n % 256 ^ k:=by
 induction k with
 | zero=>intro n a;simp [bigEnd,Nat.mod_one]
 | succ k ih=>
  intro n a
  simp only [bigEnd,List.foldl_cons,ih,UInt8.toNat_ofNat']
  have h1:n % 256 ^ (k+1)=n / 256 ^ k % 256 * 256 ^ k+n % 256 ^ k:=by
   rw [Nat.pow_succ,Nat.mod_mul,Nat.mul_comm (256 ^ k) (n / 256 ^ k % 256),Nat.add_comm]
  have h2:a * 256 ^ (k+1)=256 * a * 256 ^ k:=by
   rw [Nat.pow_succ, ←Nat.mul_assoc,Nat.mul_right_comm,Nat.mul_comm a 256]
  have h3:(2:Nat) ^ 8=256:=rfl
  rw [h3,h1,h2,Nat.add_mul]
  omega
theorem getNum_bigEnd {k n:Nat} (h:n<256 ^ k):getNum (bigEnd k n)=n:=by
 unfold getNum
 rw [getNum_from,Nat.mod_eq_of_lt h];omega
theorem mk_extract (l:List UInt8) (i j:Nat):(ByteArray.mk l.toArray).extract i j=⟨((l.take j).drop i).toArray⟩:=by
 apply ByteArray.ext
 simp [List.drop_take]
theorem mk_size (l:List UInt8):(ByteArray.mk l.toArray).size=l.length:=by show (List.toArray l).size=_;rw [List.size_toArray]
theorem mk_list (l:List UInt8):(ByteArray.mk l.toArray).data.toList=l:=by simp
def RdL (w:World) (b:Nat) (l:List UInt8):Prop:=RdAt w b ⟨l.toArray⟩
theorem RdL.keep {S:Nat→Prop} {w w':World} {b:Nat} {l:List UInt8} (h:RdL w b l) (f:Fr S w w') (hS:¬ S b):RdL w' b l:=RdAt.keep h f hS
theorem RdL.drew {w:World} {b:Nat} {l:List UInt8} (h:RdL w b l):RdL w.drew b l:=⟨h.1,h.2.1,h.2.2⟩
theorem RdL.drewN {w:World} {b:Nat} {l:List UInt8} (h:RdL w b l) (n:Nat):RdL (w.drewN n) b l:=⟨h.1,h.2.1,h.2.2⟩
theorem RdL.len {w:World} {b:Nat} {l:List UInt8} (h:RdL w b l):l.length≤9223372036854775807:=by have:=h.2.2;rwa [mk_size] at this
theorem readNum_ok (b n:Nat) (l:List UInt8) (w:World) (hr:RdL w b l) (h1:1≤n) (h8:n≤8) (h:n≤l.length) (z:Int) (hz:z=n):
  Calls Tryz.prog 133 #[.pointer (some ⟨b,0,none⟩), .int .i64 z] w fun e w'=>e= .returned (.int .u64 (getNum (l.take n):Nat))∧RdL w' b (l.drop n)∧Fr (· =b) w w':=by
 subst hz
 refine (readerNum_ok b n _ w hr h1 h8 (by rw [mk_size];exact h)).mono ?_
 rintro e w' ⟨rfl,h2,h3⟩
 rw [mk_extract,mk_size,List.take_length] at h2
 refine ⟨?_,h2,h3⟩
 rw [mk_extract,mk_list]
 rfl
theorem readNum_short (b:Nat) (n:Nat) (l:List UInt8) (w:World) (hr:RdL w b l) (h1:1≤n) (h8:n≤8) (h:l.length<n) (z:Int) (hz:z=n):
  Calls Tryz.prog 133 #[.pointer (some ⟨b,0,none⟩), .int .i64 z] w fun e w'=>e= .panicked [{ v:=refused 2,recovered:=false }]∧w=w':=by
 subst hz
 refine (readerNum_short b n _ w hr (by omega) (by omega) (by rw [mk_size];omega)).mono ?_
 rintro e w' ⟨rfl,rfl⟩
 exact ⟨rfl,rfl⟩
theorem readRaw_ok (b n:Nat) (l:List UInt8) (w:World) (hr:RdL w b l) (h:n≤l.length) (z:Int) (hz:z=n):
  Calls Tryz.prog 140 #[.pointer (some ⟨b,0,none⟩), .int .i64 z] w fun e w'=>e= .returned (.string ⟨(l.take n).toArray⟩)∧RdL w' b (l.drop n)∧Fr (· =b) w w':=by
 subst hz
 refine (readerRaw_ok b n _ w hr (by rw [mk_size];exact h)).mono ?_
 rintro e w' ⟨rfl,rfl⟩
 have h2:=RdAt.after hr (s':=(ByteArray.mk l.toArray).extract n (ByteArray.mk l.toArray).size) (by simp)
 have e:=mk_extract l n l.length
 rw [List.take_length] at e
 rw [mk_size,e] at h2 ⊢
 refine ⟨?_,h2,(Fr.refl (· =b) w).setCell (p:=⟨b,0,none⟩) (.inl rfl) _⟩
 rw [mk_extract];rfl
theorem readRaw_short (b:Nat) (n:Nat) (l:List UInt8) (w:World) (hr:RdL w b l) (h:l.length<n) (hn:n≤9223372036854775807) (z:Int) (hz:z=n):
  Calls Tryz.prog 140 #[.pointer (some ⟨b,0,none⟩), .int .i64 z] w fun e w'=>e= .panicked [{ v:=refused 2,recovered:=false }]∧w=w':=by
 subst hz
 refine (readerRaw_short b n _ w hr (by omega) (by rw [mk_size];omega) (by omega)).mono ?_
 rintro e w' ⟨rfl,rfl⟩
 exact ⟨rfl,rfl⟩
end
section
structure MId where
 key:ByteArray
 ver:Int
deriving DecidableEq
structure MRec where
 key:ByteArray
 ver:Int
 origin:Int
 age:Int
 gone:Bool
 data:ByteArray
deriving DecidableEq
structure Msg where
 kind:Int
 node:Int
 walk:Int
 high:Bool
 nodes:List Int
 ids:List MId
 recs:List MRec
deriving DecidableEq
def inR (n lo hi:Int):Bool:=decide (lo≤n)&&decide (n≤hi)
theorem inR_iff {n lo hi:Int}:inR n lo hi=true↔lo≤n∧n≤hi:=by simp [inR]
def MRec.right (x:MRec):Bool:=decide (x.key.size≤64)&&decide (x.data.size≤64)&&inR x.origin 1 65535&&inR x.age 0 65535
def Msg.may (m:Msg):Bool:=
 inR m.kind 1 14&&inR m.node 0 65535&&inR m.walk 0 15&&decide (m.nodes.length≤64)&&decide (m.ids.length≤64)&&decide (m.recs.length≤16)&&
  m.nodes.all (fun n=>inR n 1 65535)&&m.ids.all (fun x=>decide (x.key.size≤64))&&m.recs.all MRec.right
def Msg.fits (m:Msg):Prop:=(∀ x∈m.ids,0≤x.ver∧x.ver<18446744073709551616)∧(∀ x∈m.recs,0≤x.ver∧x.ver<18446744073709551616)
def numB (k:Nat) (n:Int):List UInt8:=bigEnd k n.toNat
def txB (s:ByteArray):List UInt8:=UInt8.ofNat s.size::s.data.toList
def bitN (b:Bool):Int:=if b then 1 else 0
def MId.enc (x:MId):List UInt8:=txB x.key++numB 8 x.ver
def MRec.enc (x:MRec):List UInt8:=txB x.key++(numB 8 x.ver++(numB 2 x.origin++(numB 2 x.age++(numB 1 (bitN x.gone)++txB x.data))))
def Msg.enc (m:Msg):List UInt8:=
 numB 1 m.kind++(numB 2 m.node++(numB 1 m.walk++(numB 1 (bitN m.high)++(numB 1 m.nodes.length++(m.nodes.flatMap (numB 2)++
  (numB 1 m.ids.length++(m.ids.flatMap MId.enc++(numB 1 m.recs.length++m.recs.flatMap MRec.enc))))))))
theorem numB_length (k:Nat) (n:Int):(numB k n).length=k:=bigEnd_length _ _
theorem txB_length (s:ByteArray):(txB s).length=s.size+1:=by simp [txB]
theorem MId.enc_length (x:MId):x.enc.length=x.key.size+9:=by simp [MId.enc,numB_length,txB_length]<;>omega
theorem MRec.enc_length (x:MRec):x.enc.length=x.key.size+x.data.size+15:=by simp [MRec.enc,numB_length,txB_length]<;>omega
/-! what bytes parse as -/
inductive PR (α:Type) where
 | ok (x:α) (rest:List UInt8)
 | ref (c:Int)
def PR.bind {α β:Type} (x:PR α) (f:α→List UInt8→PR β):PR β:=match x with | .ok a l=>f a l | .ref c=> .ref c
def pNum (k:Nat) (l:List UInt8):PR Int:=if l.length<k then .ref 2 else .ok (getNum (l.take k):Nat) (l.drop k)
def pRaw (n:Nat) (l:List UInt8):PR ByteArray:=if l.length<n then .ref 2 else .ok ⟨(l.take n).toArray⟩ (l.drop n)
def pBool (l:List UInt8):PR Bool:=(pNum 1 l).bind fun n l=>if 1<n then .ref 4 else .ok (n==1) l
def pCount (most:Int) (l:List UInt8):PR Int:=(pNum 1 l).bind fun n l=>if most<n then .ref 4 else .ok n l
def pText (most:Nat) (l:List UInt8):PR ByteArray:=(pNum 1 l).bind fun n l=>(pRaw n.toNat l).bind fun s l=>if most<s.size then .ref 4 else .ok s l
def pMany {α:Type} (p:List UInt8→PR α):Nat→List UInt8→PR (List α)
 | 0,l=> .ok [] l
 | n+1,l=>(p l).bind fun x l=>(pMany p n l).bind fun r l=> .ok (x::r) l
def pList {α:Type} (most:Int) (p:List UInt8→PR α) (l:List UInt8):PR (List α):=(pCount most l).bind fun c l=>pMany p c.toNat l
def pId (l:List UInt8):PR MId:=(pText 64 l).bind fun k l=>(pNum 8 l).bind fun v l=> .ok ⟨k,v⟩ l
def pRec (l:List UInt8):PR MRec:=
 (pText 64 l).bind fun k l=>(pNum 8 l).bind fun v l=>(pNum 2 l).bind fun o l=>(pNum 2 l).bind fun a l=>(pBool l).bind fun g l=>(pText 64 l).bind fun d l=> .ok ⟨k,v,o,a,g,d⟩ l
def pMsg (l:List UInt8):PR Msg:=
 (pNum 1 l).bind fun k l=>(pNum 2 l).bind fun n l=>(pNum 1 l).bind fun wk l=>(pBool l).bind fun h l=>
  (pList 64 (pNum 2) l).bind fun ns l=>(pList 64 pId l).bind fun is l=>(pList 16 pRec l).bind fun rs l=> .ok ⟨k,n,wk,h,ns,is,rs⟩ l
def Tight {α:Type} (p:List UInt8→PR α) (enc:α→List UInt8) (V:α→Prop):Prop:=
 (∀ l x r,p l= .ok x r→l=enc x++r∧V x)∧(∀ x r,V x→p (enc x++r)= .ok x r)∧(∀ x k,V x→k<(enc x).length→p ((enc x).take k)= .ref 2)
  ∧∀ l c,p l= .ref c→c=2∨c=4
theorem bigEnd_getNum_rev (l:List UInt8):bigEnd l.reverse.length (getNum l.reverse)=l.reverse:=by
 induction l with
 | nil=>rfl
 | cons b t ih=>
  rw [List.reverse_cons]
  generalize t.reverse=l at *
  have e:∀ (k n:Nat),bigEnd (k+1) n=bigEnd k (n / 256)++[UInt8.ofNat n]:=by
   intro k
   induction k with
   | zero=>intro n;simp [bigEnd]
   | succ k ihk=>
    intro n
    have h1:bigEnd (k+1+1) n=UInt8.ofNat (n / 256 ^ (k+1))::bigEnd (k+1) n:=rfl
    have h2:bigEnd (k+1) (n / 256)=UInt8.ofNat (n / 256 / 256 ^ k)::bigEnd k (n / 256):=rfl
    rw [h1,ihk,h2,Nat.div_div_eq_div_mul,Nat.pow_succ,Nat.mul_comm (256 ^ k) 256]
    rfl
  rw [List.length_append,List.length_singleton,e,getNum_snoc]
  have h1:(256 * getNum l+b.toNat) / 256=getNum l:=by have:=b.toNat_lt;omega
  have h2:UInt8.ofNat (256 * getNum l+b.toNat)=b:=by
   apply UInt8.toNat_inj.1
   rw [UInt8.toNat_ofNat']
   have:=b.toNat_lt
   omega
  rw [h1,h2,ih]
theorem bigEnd_getNum (l:List UInt8):bigEnd l.length (getNum l)=l:=by
 have:=bigEnd_getNum_rev l.reverse
 rwa [List.reverse_reverse] at this
theorem tight_num (k:Nat):Tight (pNum k) (numB k) (fun n=>0≤n∧n<256 ^ k):=by
 refine ⟨fun l x r h=>?_,fun x r h=>?_,fun x j h hj=>?_,fun l c h=>?_⟩
 ·unfold pNum at h
  split at h
  ·cases h
  ·cases h
   have hl:(l.take k).length=k:=by simp;omega
   refine ⟨?_,by omega,?_⟩
   ·have:=bigEnd_getNum (l.take k)
    rw [hl] at this
    simp only [numB,Int.toNat_natCast]
    rw [this,List.take_append_drop]
   ·have:=getNum_lt (l.take k)
    rw [hl] at this
    have h2:=Int.ofNat_lt.2 this
    rw [Int.natCast_pow] at h2
    exact h2
 ·unfold pNum
  rw [if_neg (by simp [numB_length])]
  have h1:(numB k x++r).take k=numB k x:=by rw [List.take_append_of_le_length (by simp [numB_length]),List.take_of_length_le (by simp [numB_length])]
  have h2:(numB k x++r).drop k=r:=by rw [List.drop_append_of_le_length (by simp [numB_length]),List.drop_of_length_le (by simp [numB_length])];rfl
  rw [h1,h2]
  have h3:getNum (numB k x)=x.toNat:=getNum_bigEnd (by have:=h.2;have h0:=h.1;obtain ⟨m,rfl⟩:=Int.eq_ofNat_of_zero_le h0;simp only [Int.toNat_natCast];apply Int.ofNat_lt.1;rw [Int.natCast_pow];exact this)
  rw [h3,Int.toNat_of_nonneg h.1]
 ·unfold pNum
  rw [numB_length] at hj
  rw [if_pos (by simp [numB_length];omega)]
 ·unfold pNum at h
  split at h
  ·cases h;exact .inl rfl
  ·cases h
theorem tight_bind {α β:Type} {p:List UInt8→PR α} {enc:α→List UInt8} {V:α→Prop} (hp:Tight p enc V) {q:α→List UInt8→PR β} {encq:β→List UInt8} {W:β→Prop} {g:β→α}
  (hq:∀ a,V a→Tight (q a) encq (fun b=>W b∧g b=a)):Tight (fun l=>(p l).bind q) (fun b=>enc (g b)++encq b) (fun b=>W b∧V (g b)):=by
 obtain ⟨p1,p2,p3,p4⟩:=hp
 refine ⟨fun l x r h=>?_,fun x r h=>?_,fun x k h hk=>?_,fun l c h=>?_⟩
 ·change (p l).bind q=_ at h
  cases hl:p l with
  | ref c=>rw [hl] at h;cases h
  | ok a l'=>
   rw [hl] at h
   obtain ⟨rfl,hv⟩:=p1 l a l' hl
   obtain ⟨e1,e2,e3⟩:=(hq a hv).1 l' x r h
   show enc a++l'=(enc (g x)++encq x)++r∧W x∧V (g x)
   rw [e3,e1,List.append_assoc]
   exact ⟨rfl,e2,hv⟩
 ·show PR.bind (p ((enc (g x)++encq x)++r)) q=_
  rw [List.append_assoc,p2 _ _ h.2]
  exact (hq _ h.2).2.1 x r ⟨h.1,rfl⟩
 ·show PR.bind (p ((enc (g x)++encq x).take k)) q=_
  by_cases hk1:k<(enc (g x)).length
  ·rw [List.take_append_of_le_length (by omega),p3 _ k h.2 hk1];rfl
  ·have e:(enc (g x)++encq x).take k=enc (g x)++(encq x).take (k-(enc (g x)).length):=by
    rw [List.take_append,List.take_of_length_le (by omega)]
   rw [e,p2 _ _ h.2]
   refine (hq _ h.2).2.2.1 x _ ⟨h.1,rfl⟩ ?_
   simp at hk;omega
 ·change (p l).bind q=_ at h
  cases hl:p l with
  | ref c'=>rw [hl] at h;cases h;exact p4 l _ hl
  | ok a l'=>
   rw [hl] at h
   exact (hq a (p1 l a l' hl).2).2.2.2 l' c h
theorem tight_ok {α:Type} (x:α) {V:α→Prop} (h:V x):Tight (fun l=> .ok x l) (fun _=>[]) (fun b=>V b∧b=x):=by
 refine ⟨fun l y r h'=>?_,fun y r h'=>?_,fun y k h' hk=>?_,fun l c h'=>?_⟩
 ·cases h';exact ⟨rfl,h,rfl⟩
 ·rw [h'.2];rfl
 ·simp at hk
 ·cases h'
theorem Tight.congr {α:Type} {p p':List UInt8→PR α} {enc enc':α→List UInt8} {V V':α→Prop} (h:Tight p enc V) (hp:∀ l,p' l=p l) (he:∀ x,enc' x=enc x) (hV:∀ x,V' x↔V x):Tight p' enc' V':=by
 have e1:p'=p:=funext hp
 have e2:enc'=enc:=funext he
 have e3:V'=V:=funext fun x=>propext (hV x)
 rw [e1,e2,e3];exact h
theorem tight_bool:Tight pBool (fun b=>numB 1 (bitN b)) (fun _=>True):=by
 obtain ⟨p1,p2,p3,p4⟩:=tight_num 1
 refine ⟨fun l x r h=>?_,fun x r _=>?_,fun x k _ hk=>?_,fun l c h=>?_⟩
 ·unfold pBool at h
  cases hl:pNum 1 l with
  | ref c=>rw [hl] at h;cases h
  | ok n l'=>
   rw [hl] at h
   simp only [PR.bind] at h
   obtain ⟨rfl,h0,_⟩:=p1 l n l' hl
   split at h
   ·cases h
   ·cases h
    refine ⟨?_,trivial⟩
    congr 2
    have:n=0∨n=1:=by omega
    rcases this with rfl | rfl<;>rfl
 ·unfold pBool
  rw [p2 _ _ (by cases x<;>simp [bitN])]
  cases x<;>rfl
 ·unfold pBool
  rw [p3 _ k (by cases x<;>simp [bitN]) hk];rfl
 ·unfold pBool at h
  cases hl:pNum 1 l with
  | ref c'=>rw [hl] at h;cases h;exact p4 l _ hl
  | ok n l'=>
   rw [hl] at h
   simp only [PR.bind] at h
   split at h
   ·cases h;exact .inr rfl
   ·cases h
theorem tight_count (most:Int) (hm:most≤255):Tight (pCount most) (numB 1) (fun n=>0≤n∧n≤most):=by
 obtain ⟨p1,p2,p3,p4⟩:=tight_num 1
 refine ⟨fun l x r h=>?_,fun x r hx=>?_,fun x k hx hk=>?_,fun l c h=>?_⟩
 ·unfold pCount at h
  cases hl:pNum 1 l with
  | ref c=>rw [hl] at h;cases h
  | ok n l'=>
   rw [hl] at h
   simp only [PR.bind] at h
   obtain ⟨rfl,h0,_⟩:=p1 l n l' hl
   split at h
   ·cases h
   ·cases h
    exact ⟨rfl,h0,by omega⟩
 ·unfold pCount
  rw [p2 _ _ ⟨hx.1,by have:=hx.2;omega⟩]
  simp only [PR.bind]
  rw [if_neg (by omega)]
 ·unfold pCount
  rw [p3 _ k ⟨hx.1,by have:=hx.2;omega⟩ hk];rfl
 ·unfold pCount at h
  cases hl:pNum 1 l with
  | ref c'=>rw [hl] at h;cases h;exact p4 l _ hl
  | ok n l'=>
   rw [hl] at h
   simp only [PR.bind] at h
   split at h
   ·cases h;exact .inr rfl
   ·cases h
theorem size_mk (l:List UInt8):(ByteArray.mk l.toArray).size=l.length:=mk_size l
theorem mk_toList (s:ByteArray):(⟨s.data.toList.toArray⟩:ByteArray)=s:=by simp
theorem tight_text (most:Nat) (hm:most≤255):Tight (pText most) txB (fun s=>s.size≤most):=by
 have hn:∀ s:ByteArray,s.size≤most→txB s=numB 1 s.size++s.data.toList:=by
  intro s hs
  have:s.size % 256=s.size:=Nat.mod_eq_of_lt (by omega)
  simp [txB,numB,bigEnd]
 obtain ⟨p1,p2,p3,p4⟩:=tight_num 1
 refine ⟨fun l x r h=>?_,fun x r hx=>?_,fun x k hx hk=>?_,fun l c h=>?_⟩
 ·unfold pText at h
  cases hl:pNum 1 l with
  | ref c=>rw [hl] at h;cases h
  | ok n l'=>
   rw [hl] at h
   simp only [PR.bind,pRaw] at h
   obtain ⟨rfl,h0,_⟩:=p1 l n l' hl
   by_cases h1:l'.length<n.toNat
   ·rw [if_pos h1] at h;cases h
   ·rw [if_neg h1] at h
    simp only at h
    split at h
    ·cases h
    ·rename_i h2
     cases h
     rw [size_mk] at h2
     have h3:(ByteArray.mk (l'.take n.toNat).toArray).size≤most:=by rw [size_mk];omega
     refine ⟨?_,h3⟩
     rw [hn _ h3,List.append_assoc]
     congr 1
     ·congr 1
      rw [size_mk,List.length_take];omega
     ·simp [List.take_append_drop]
 ·unfold pText
  rw [hn x hx,List.append_assoc,p2 _ _ (by constructor<;>omega)]
  simp only [PR.bind,pRaw,Int.toNat_natCast]
  have hlen:x.data.toList.length=x.size:=by simp
  rw [if_neg (by simp)]
  simp only [List.take_append_of_le_length (Nat.le_of_eq hlen.symm),List.take_of_length_le (Nat.le_of_eq hlen),mk_toList]
  rw [if_neg (by omega),List.drop_append_of_le_length (Nat.le_of_eq hlen.symm),List.drop_of_length_le (Nat.le_of_eq hlen)]
  rfl
 ·unfold pText
  rw [hn x hx] at hk ⊢
  by_cases hk1:k<1
  ·rw [List.take_append_of_le_length (by rw [numB_length];omega),p3 _ k (by constructor<;>omega) (by rw [numB_length];exact hk1)];rfl
  ·have e:(numB 1 (x.size:Int)++x.data.toList).take k=numB 1 (x.size:Int)++x.data.toList.take (k-1):=by
    rw [List.take_append,List.take_of_length_le (by rw [numB_length];omega),numB_length]
   rw [e,p2 _ _ (by constructor<;>omega)]
   simp only [PR.bind,pRaw,Int.toNat_natCast]
   simp [numB_length] at hk
   rw [if_pos (by simp;omega)]
 ·unfold pText at h
  cases hl:pNum 1 l with
  | ref c'=>rw [hl] at h;cases h;exact p4 l _ hl
  | ok n l'=>
   rw [hl] at h
   simp only [PR.bind,pRaw] at h
   by_cases h1:l'.length<n.toNat
   ·rw [if_pos h1] at h;cases h;exact .inl rfl
   ·rw [if_neg h1] at h
    simp only at h
    split at h
    ·cases h;exact .inr rfl
    ·cases h
theorem tight_many {α:Type} {p:List UInt8→PR α} {enc:α→List UInt8} {V:α→Prop} (hp:Tight p enc V) (n:Nat):Tight (pMany p n) (fun l=>l.flatMap enc) (fun l=>(∀ x∈l,V x)∧l.length=n):=by
 induction n with
 | zero=>
  refine ⟨fun l x r h=>?_,fun x r h=>?_,fun x k h hk=>?_,fun l c h=>?_⟩
  ·cases h;exact ⟨rfl,by simp,rfl⟩
  ·have:x=[]:=List.eq_nil_of_length_eq_zero h.2
   subst this;rfl
  ·have:x=[]:=List.eq_nil_of_length_eq_zero h.2
   subst this;simp at hk
  ·cases h
 | succ n ih=>
  obtain ⟨p1,p2,p3,p4⟩:=hp
  obtain ⟨q1,q2,q3,q4⟩:=ih
  refine ⟨fun l x r h=>?_,fun x r h=>?_,fun x k h hk=>?_,fun l c h=>?_⟩
  ·unfold pMany at h
   cases hl:p l with
   | ref c=>rw [hl] at h;cases h
   | ok a l'=>
    rw [hl] at h
    simp only [PR.bind] at h
    cases hl2:pMany p n l' with
    | ref c=>rw [hl2] at h;cases h
    | ok xs l''=>
     rw [hl2] at h
     cases h
     obtain ⟨rfl,hv⟩:=p1 l a l' hl
     obtain ⟨rfl,hv2,hln⟩:=q1 l' xs _ hl2
     refine ⟨by simp,?_,by simp [hln]⟩
     intro y hy
     rcases List.mem_cons.1 hy with rfl | hy
     ·exact hv
     ·exact hv2 y hy
  ·match x,h with
   | a::xs,h=>
    unfold pMany
    simp only
    rw [List.flatMap_cons,List.append_assoc,p2 a _ (h.1 a (by simp))]
    simp only [PR.bind]
    rw [q2 xs r ⟨fun y hy=>h.1 y (by simp [hy]),by simpa using h.2⟩]
  ·match x,h with
   | a::xs,h=>
    have ha:=h.1 a (by simp)
    have has:(∀ x∈xs,V x)∧xs.length=n:=⟨fun y hy=>h.1 y (by simp [hy]),by simpa using h.2⟩
    unfold pMany
    simp only at hk ⊢
    rw [List.flatMap_cons] at hk ⊢
    by_cases hk1:k<(enc a).length
    ·rw [List.take_append_of_le_length (by omega),p3 a k ha hk1];rfl
    ·rw [List.take_append,List.take_of_length_le (by omega),p2 a _ ha]
     simp only [PR.bind]
     rw [q3 xs _ has (by simp at hk ⊢;omega)]
  ·unfold pMany at h
   cases hl:p l with
   | ref c'=>rw [hl] at h;cases h;exact p4 l _ hl
   | ok a l'=>
    rw [hl] at h
    simp only [PR.bind] at h
    cases hl2:pMany p n l' with
    | ref c'=>rw [hl2] at h;cases h;exact q4 l' _ hl2
    | ok xs l''=>rw [hl2] at h;cases h
theorem tight_list {α:Type} (most:Nat) (hm:most≤255) {p:List UInt8→PR α} {enc:α→List UInt8} {V:α→Prop} (hp:Tight p enc V):
  Tight (pList most p) (fun l=>numB 1 l.length++l.flatMap enc) (fun l=>l.length≤most∧∀ x∈l,V x):=
 (tight_bind (g:=fun l:List α=>(l.length:Int)) (W:=fun l=>∀ x∈l,V x) (tight_count most (by omega)) (fun c hc=>(tight_many hp c.toNat).congr (fun _=>rfl) (fun _=>rfl) (fun l=>by
  constructor
  ·rintro ⟨a,b⟩;exact ⟨a,by omega⟩
  ·rintro ⟨a,b⟩;exact ⟨a,by omega⟩))).congr (fun _=>rfl) (fun _=>rfl) (fun l=>by
  constructor
  ·rintro ⟨a,b⟩;exact ⟨b,by omega,by omega⟩
  ·rintro ⟨a,_,b⟩;exact ⟨by omega,a⟩)
theorem tight_step {α β:Type} {p:List UInt8→PR α} {enc:α→List UInt8} {V:α→Prop} (g:β→α) (E:β→Prop) (hp:Tight p enc V) {q:α→List UInt8→PR β} {encq:β→List UInt8} {W:β→Prop}
  (hq:∀ a,V a→Tight (q a) encq (fun b=>W b∧g b=a∧E b)):Tight (fun l=>(p l).bind q) (fun b=>enc (g b)++encq b) (fun b=>(V (g b)∧W b)∧E b):=
 (tight_bind (W:=fun b=>W b∧E b) hp (fun a ha=>(hq a ha).congr (fun _=>rfl) (fun _=>rfl) (fun x=>by rw [and_assoc,and_congr_right_iff];intro _;exact and_comm))).congr (fun _=>rfl) (fun _=>rfl) (fun x=>by
  constructor
  ·rintro ⟨⟨a,b⟩,c⟩;exact ⟨⟨b,c⟩,a⟩
  ·rintro ⟨⟨a,b⟩,c⟩;exact ⟨⟨c,a⟩,b⟩)
theorem tight_end {β:Type} (x:β) (E:β→Prop) (h:∀ b,E b↔b=x):Tight (fun l=> .ok x l) (fun _=>[]) (fun b=>True∧E b):=
 (tight_ok x (V:=fun _=>True) trivial).congr (fun _=>rfl) (fun _=>rfl) (fun b=>by rw [h])
def MId.good (x:MId):Prop:=x.key.size≤64∧0≤x.ver∧x.ver<256 ^ 8
def MRec.good (x:MRec):Prop:=x.key.size≤64∧(0≤x.ver∧x.ver<256 ^ 8)∧(0≤x.origin∧x.origin<256 ^ 2)∧(0≤x.age∧x.age<256 ^ 2)∧x.data.size≤64
theorem tight_id:Tight pId MId.enc MId.good:=
 (tight_step (β:=MId) (fun x:MId=>x.key) (fun _=>True) (tight_text 64 (by decide)) (fun k _=>
  tight_step (fun x:MId=>x.ver) (fun x:MId=>x.key=k∧True) (tight_num 8) (fun v _=>
   tight_end ⟨k,v⟩ (fun x:MId=>x.ver=v∧x.key=k∧True) (fun b=>by cases b;simp [and_comm])))).congr (fun _=>rfl) (fun x=>by simp [MId.enc]) (fun x=>by simp [MId.good])
theorem tight_rec:Tight pRec MRec.enc MRec.good:=
 (tight_step (β:=MRec) (fun x:MRec=>x.key) (fun _=>True) (tight_text 64 (by decide)) (fun k _=>
  tight_step (fun x:MRec=>x.ver) (fun x:MRec=>x.key=k∧True) (tight_num 8) (fun v _=>
  tight_step (fun x:MRec=>x.origin) (fun x:MRec=>x.ver=v∧x.key=k∧True) (tight_num 2) (fun o _=>
  tight_step (fun x:MRec=>x.age) (fun x:MRec=>x.origin=o∧x.ver=v∧x.key=k∧True) (tight_num 2) (fun a _=>
  tight_step (fun x:MRec=>x.gone) (fun x:MRec=>x.age=a∧x.origin=o∧x.ver=v∧x.key=k∧True) tight_bool (fun g _=>
  tight_step (fun x:MRec=>x.data) (fun x:MRec=>x.gone=g∧x.age=a∧x.origin=o∧x.ver=v∧x.key=k∧True) (tight_text 64 (by decide)) (fun d _=>
   tight_end ⟨k,v,o,a,g,d⟩ (fun x:MRec=>x.data=d∧x.gone=g∧x.age=a∧x.origin=o∧x.ver=v∧x.key=k∧True) (fun b=>by
    cases b;simp only [MRec.mk.injEq,and_true]
    constructor
    ·rintro ⟨a,b,c,d,e,f⟩;exact ⟨f,e,d,c,b,a⟩
    ·rintro ⟨a,b,c,d,e,f⟩;exact ⟨f,e,d,c,b,a⟩)))))))).congr (fun _=>rfl) (fun x=>by simp [MRec.enc]) (fun x=>by simp [MRec.good,and_assoc])
def Msg.good (m:Msg):Prop:=
 (0≤m.kind∧m.kind<256 ^ 1)∧(0≤m.node∧m.node<256 ^ 2)∧(0≤m.walk∧m.walk<256 ^ 1)∧m.nodes.length≤64∧(∀ n∈m.nodes,0≤n∧n<256 ^ 2)∧m.ids.length≤64∧(∀ x∈m.ids,x.good)∧m.recs.length≤16∧∀ x∈m.recs,x.good
theorem tight_msg:Tight pMsg Msg.enc Msg.good:=
 (tight_step (β:=Msg) (fun x:Msg=>x.kind) (fun _=>True) (tight_num 1) (fun k _=>
  tight_step (fun x:Msg=>x.node) (fun x:Msg=>x.kind=k∧True) (tight_num 2) (fun n _=>
  tight_step (fun x:Msg=>x.walk) (fun x:Msg=>x.node=n∧x.kind=k∧True) (tight_num 1) (fun wk _=>
  tight_step (fun x:Msg=>x.high) (fun x:Msg=>x.walk=wk∧x.node=n∧x.kind=k∧True) tight_bool (fun h _=>
  tight_step (fun x:Msg=>x.nodes) (fun x:Msg=>x.high=h∧x.walk=wk∧x.node=n∧x.kind=k∧True) (tight_list 64 (by decide) (tight_num 2)) (fun ns _=>
  tight_step (fun x:Msg=>x.ids) (fun x:Msg=>x.nodes=ns∧x.high=h∧x.walk=wk∧x.node=n∧x.kind=k∧True) (tight_list 64 (by decide) tight_id) (fun is _=>
  tight_step (fun x:Msg=>x.recs) (fun x:Msg=>x.ids=is∧x.nodes=ns∧x.high=h∧x.walk=wk∧x.node=n∧x.kind=k∧True) (tight_list 16 (by decide) tight_rec) (fun rs _=>
   tight_end ⟨k,n,wk,h,ns,is,rs⟩ (fun x:Msg=>x.recs=rs∧x.ids=is∧x.nodes=ns∧x.high=h∧x.walk=wk∧x.node=n∧x.kind=k∧True) (fun b=>by
    cases b;simp only [Msg.mk.injEq,and_true]
    constructor
    ·rintro ⟨a,b,c,d,e,f,g⟩;exact ⟨g,f,e,d,c,b,a⟩
    ·rintro ⟨a,b,c,d,e,f,g⟩;exact ⟨g,f,e,d,c,b,a⟩))))))))).congr (fun _=>rfl) (fun x=>by simp [Msg.enc]) (fun x=>by
  simp only [Msg.good,and_true]
  constructor
  ·rintro ⟨a,b,c,d,e,f,g,i,j⟩
   exact ⟨a,b,c,trivial,⟨d,e⟩,⟨f,g⟩,⟨i,j⟩⟩
  ·rintro ⟨a,b,c,_,⟨d,e⟩,⟨f,g⟩,⟨i,j⟩⟩
   exact ⟨a,b,c,d,e,f,g,i,j⟩)
theorem Msg.may_parts {m:Msg} (h:m.may=true):(1≤m.kind∧m.kind≤14)∧(0≤m.node∧m.node≤65535)∧(0≤m.walk∧m.walk≤15)∧m.nodes.length≤64∧m.ids.length≤64∧m.recs.length≤16∧
  (∀ n∈m.nodes,1≤n∧n≤65535)∧(∀ x∈m.ids,x.key.size≤64)∧∀ x∈m.recs,x.key.size≤64∧x.data.size≤64∧(1≤x.origin∧x.origin≤65535)∧(0≤x.age∧x.age≤65535):=by
 unfold Msg.may at h
 simp only [Bool.and_eq_true,decide_eq_true_eq,List.all_eq_true,inR_iff,MRec.right,and_assoc] at h
 obtain ⟨a1,a2,b1,b2,c1,c2,d,e,f,g,i,j⟩:=h
 exact ⟨⟨a1,a2⟩,⟨b1,b2⟩,⟨c1,c2⟩,d,e,f,g,i,fun x hx=>by obtain ⟨k1,k2,k3,k4,k5,k6⟩:=j x hx;exact ⟨k1,k2,⟨k3,k4⟩,k5,k6⟩⟩
theorem Msg.good_of_may {m:Msg} (h:m.may=true) (hf:m.fits):m.good:=by
 obtain ⟨a,b,c,d,e,f,g,i,j⟩:=Msg.may_parts h
 refine ⟨⟨by omega,by omega⟩,⟨by omega,by omega⟩,⟨by omega,by omega⟩,d,fun n hn=>?_,e,fun x hx=>?_,f,fun x hx=>?_⟩
 ·have:=g n hn;omega
 ·have:=hf.1 x hx
  exact ⟨i x hx,this.1,by omega⟩
 ·have h1:=hf.2 x hx
  obtain ⟨k1,k2,k3,k4⟩:=j x hx
  exact ⟨k1,⟨h1.1,by omega⟩,⟨by omega,by omega⟩,⟨by omega,by omega⟩,k2⟩
def Msg.dec (l:List UInt8):PR Msg:=
 if 4096<l.length then .ref 3 else match pMsg l with
  | .ref c=> .ref c
  | .ok m r=>if r=[] then (if m.may=true then .ok m [] else .ref 4) else .ref 3
theorem Msg.dec_enc {m:Msg} (h:m.may=true) (hf:m.fits) (hl:m.enc.length≤4096):Msg.dec m.enc= .ok m []:=by
 have:=tight_msg.2.1 m [] (Msg.good_of_may h hf)
 rw [List.append_nil] at this
 unfold Msg.dec
 rw [if_neg (by omega),this]
 simp [h]
theorem Msg.dec_ref {l:List UInt8} {c:Int} (h:Msg.dec l= .ref c):c=2∨c=3∨c=4:=by
 unfold Msg.dec at h
 split at h
 ·cases h;exact .inr (.inl rfl)
 ·cases hp:pMsg l with
  | ref c'=>
   rw [hp] at h
   cases h
   rcases tight_msg.2.2.2 _ _ hp with h | h
   ·exact .inl h
   ·exact .inr (.inr h)
  | ok m' r'=>
   rw [hp] at h
   simp only at h
   split at h
   ·split at h
    ·cases h
    ·cases h;exact .inr (.inr rfl)
   ·cases h;exact .inr (.inl rfl)
def Msg.code (m:Msg):Int:=if m.may=true then (if 4096<m.enc.length then 3 else 0) else 1
def Msg.out (m:Msg):ByteArray:=if m.code=0 then ⟨m.enc.toArray⟩ else ⟨#[]⟩
theorem Msg.code_zero {m:Msg}:m.code=0↔m.may=true∧m.enc.length≤4096:=by
 unfold Msg.code
 split
 ·split
  ·simp;omega
  ·simp_all
 ·simp_all
end
end Go.Proofs.YtelepohdfcjnfaaGreat
