/-
  Package message: number, truth, count, text of a reader.
-/
import Derived.Test.YtelepohdfcjnfaaGreatZMsgWrite
import Derived.Test.YtelepohdfcjnfaaGreatZMsgSpec
import Derived.Test.YtelepohdfcjnfaaGreatZRegionW
namespace Go.Proofs.YtelepohdfcjnfaaGreat
set_option maxHeartbeats 4000000
set_option maxRecDepth 100000
section
open Go.RowKit Go.Proofs
def RdPost {α:Type} (b:Nat) (w:World) (x:PR α) (val:α→Value) (e:Ending) (w':World):Prop:=
 Fr (· =b) w w'∧match x with
  | .ok a r=>e= .returned (val a)∧RdL w' b r
  | .ref c=>c≠0∧e= .panicked [{ v:=refused c,recovered:=false }]
theorem rdNum {b:Nat} {w:World} {l:List UInt8} (k:Nat) (h:RdL w b l) (h1:1≤k) (h8:k≤8) (z:Int) (hz:z=k):
  Calls Tryz.prog 133 #[.pointer (some ⟨b,0,none⟩), .int .i64 z] w (RdPost b w (pNum k l) (fun n=> .int .u64 n)):=by
 unfold pNum
 by_cases hl:l.length<k
 ·rw [if_pos hl]
  refine (readNum_short b k l w h h1 h8 hl z hz).mono ?_
  rintro e w' ⟨rfl,rfl⟩
  exact ⟨Fr.refl _ _,by decide,rfl⟩
 ·rw [if_neg hl]
  refine (readNum_ok b k l w h h1 h8 (by omega) z hz).mono ?_
  rintro e w' ⟨rfl,h2,h3⟩
  exact ⟨h3,rfl,h2⟩
theorem pNum_range {k:Nat} {l:List UInt8} {n:Int} {r:List UInt8} (h:pNum k l= .ok n r):0≤n∧n<256 ^ k:=((tight_num k).1 _ _ _ h).2
theorem rdRaw {b:Nat} {w:World} {l:List UInt8} (k:Nat) (h:RdL w b l) (hk:k≤9223372036854775807) (z:Int) (hz:z=k):
  Calls Tryz.prog 140 #[.pointer (some ⟨b,0,none⟩), .int .i64 z] w (RdPost b w (pRaw k l) (fun s=> .string s)):=by
 unfold pRaw
 by_cases hl:l.length<k
 ·rw [if_pos hl]
  refine (readRaw_short b k l w h hl hk z hz).mono ?_
  rintro e w' ⟨rfl,rfl⟩
  exact ⟨Fr.refl _ _,by decide,rfl⟩
 ·rw [if_neg hl]
  refine (readRaw_ok b k l w h (by omega) z hz).mono ?_
  rintro e w' ⟨rfl,h2,h3⟩
  exact ⟨h3,rfl,h2⟩
theorem number_any {b:Nat} {w:World} {l:List UInt8} (h:RdL w b l):Calls Tryz.prog 134 #[.pointer (some ⟨b,0,none⟩)] w (RdPost b w (pNum 2 l) (fun n=> .int .i64 n)):=by
 have HC:=Lib.hid (rdNum 2 h (by decide) (by decide) 2 rfl)
 cases hp:pNum 2 l with
 | ref c=>
  rw [hp] at HC
  clear hp
  go_enter Tryz.func134,Tryz.ntmps134
  go_wp2_with fail
  refine HC.out.mono ?_
  rintro e w' ⟨f,hc,rfl⟩
  have R:=Lib.hid (And.intro f hc);clear f hc
  go_wp2_with fail
  exact ⟨rfl,R.out.1,R.out.2,rfl⟩
 | ok n r=>
  obtain ⟨h0,h1⟩:=pNum_range hp
  have h2:n<65536:=h1
  rw [hp] at HC
  clear hp h1
  go_enter Tryz.func134,Tryz.ntmps134
  go_wp2_with fail
  refine HC.out.mono ?_
  rintro e w' ⟨f,rfl,hr⟩
  have R:=Lib.hid (And.intro f hr);clear f hr
  go_wp2_with fail
  go_ret
  exact ⟨R.out.1,rfl,R.out.2⟩
theorem truth_any {b:Nat} {w:World} {l:List UInt8} (h:RdL w b l):Calls Tryz.prog 135 #[.pointer (some ⟨b,0,none⟩)] w (RdPost b w (pBool l) (fun n=> .bool n)):=by
 have HC:=Lib.hid (rdNum 1 h (by decide) (by decide) 1 rfl)
 unfold pBool
 cases hp:pNum 1 l with
 | ref c=>
  rw [hp] at HC
  simp only [PR.bind]
  clear hp
  go_enter Tryz.func135,Tryz.ntmps135
  go_wp2_with fail
  refine HC.out.mono ?_
  rintro e w' ⟨f,hc,rfl⟩
  have R:=Lib.hid (And.intro f hc);clear f hc
  go_wp2_with fail
  exact ⟨rfl,R.out.1,R.out.2,rfl⟩
 | ok n r=>
  obtain ⟨h0,h1⟩:=pNum_range hp
  have h2:n<256:=h1
  rw [hp] at HC
  simp only [PR.bind]
  clear hp h1
  by_cases h3:1<n
  ·rw [if_pos h3]
   go_enter Tryz.func135,Tryz.ntmps135
   go_wp2_with fail
   refine HC.out.mono ?_
   rintro e w' ⟨f,rfl,hr⟩
   have R:=Lib.hid f;clear f hr
   go_wp2_with fail
   refine (refuse_any 4 _).mono ?_
   rintro e w2 ⟨rfl,rfl⟩
   go_wp2_with fail
   exact ⟨rfl,R.out,by decide,rfl⟩
  ·rw [if_neg h3]
   go_enter Tryz.func135,Tryz.ntmps135
   go_wp2_with fail
   refine HC.out.mono ?_
   rintro e w' ⟨f,rfl,hr⟩
   have R:=Lib.hid (And.intro f hr);clear f hr
   go_wp2_with fail
   go_ret
   exact ⟨R.out.1,rfl,R.out.2⟩
theorem count_any {b:Nat} {w:World} {l:List UInt8} (most:Int) (h:RdL w b l):Calls Tryz.prog 136 #[.pointer (some ⟨b,0,none⟩), .int .i64 most] w (RdPost b w (pCount most l) (fun n=> .int .i64 n)):=by
 have HC:=Lib.hid (rdNum 1 h (by decide) (by decide) 1 rfl)
 unfold pCount
 cases hp:pNum 1 l with
 | ref c=>
  rw [hp] at HC
  simp only [PR.bind]
  clear hp
  go_enter Tryz.func136,Tryz.ntmps136
  go_wp2_with fail
  refine HC.out.mono ?_
  rintro e w' ⟨f,hc,rfl⟩
  have R:=Lib.hid (And.intro f hc);clear f hc
  go_wp2_with fail
  exact ⟨rfl,R.out.1,R.out.2,rfl⟩
 | ok n r=>
  obtain ⟨h0,h1⟩:=pNum_range hp
  have h2:n<256:=h1
  rw [hp] at HC
  simp only [PR.bind]
  clear hp h1
  by_cases h3:most<n
  ·rw [if_pos h3]
   go_enter Tryz.func136,Tryz.ntmps136
   go_wp2_with fail
   refine HC.out.mono ?_
   rintro e w' ⟨f,rfl,hr⟩
   have R:=Lib.hid f;clear f hr
   go_wp2_with fail
   refine (refuse_any 4 _).mono ?_
   rintro e w2 ⟨rfl,rfl⟩
   go_wp2_with fail
   exact ⟨rfl,R.out,by decide,rfl⟩
  ·rw [if_neg h3]
   go_enter Tryz.func136,Tryz.ntmps136
   go_wp2_with fail
   refine HC.out.mono ?_
   rintro e w' ⟨f,rfl,hr⟩
   have R:=Lib.hid (And.intro f hr);clear f hr
   go_wp2_with fail
   go_ret
   exact ⟨R.out.1,rfl,R.out.2⟩
def pTx (l:List UInt8):PR ByteArray:=(pNum 1 l).bind fun n l=>pRaw n.toNat l
theorem pTx_size {l:List UInt8} {s:ByteArray} {r:List UInt8} (h:pTx l= .ok s r):s.size<256:=by
 unfold pTx at h
 cases hp:pNum 1 l with
 | ref c=>rw [hp] at h;cases h
 | ok n r'=>
  rw [hp] at h
  have:=pNum_range hp
  have h2:n<256:=this.2
  simp only [PR.bind,pRaw] at h
  split at h
  ·cases h
  ·cases h
   rw [mk_size,List.length_take];omega
theorem rdText_any {b:Nat} {w:World} {l:List UInt8} (h:RdL w b l):Calls Tryz.prog 141 #[.pointer (some ⟨b,0,none⟩)] w (RdPost b w (pTx l) (fun s=> .string s)):=by
 have HC:=Lib.hid (rdNum 1 h (by decide) (by decide) 1 rfl)
 unfold pTx
 cases hp:pNum 1 l with
 | ref c=>
  rw [hp] at HC
  simp only [PR.bind]
  clear hp
  go_enter Tryz.func141,Tryz.ntmps141
  go_wp2_with fail
  refine HC.out.mono ?_
  rintro e w' ⟨f,hc,rfl⟩
  have R:=Lib.hid (And.intro f hc);clear f hc
  go_wp2_with fail
  exact ⟨rfl,R.out.1,R.out.2,rfl⟩
 | ok n r=>
  obtain ⟨h0,h1⟩:=pNum_range hp
  have h2:n<256:=h1
  rw [hp] at HC
  simp only [PR.bind]
  have HD:=Lib.hid (fun w' (h:RdL w' b r)=>rdRaw n.toNat h (by omega) n (by omega))
  clear hp h1
  cases hq:pRaw n.toNat r with
  | ref c=>
   rw [hq] at HD
   clear hq
   go_enter Tryz.func141,Tryz.ntmps141
   go_wp2_with fail
   refine HC.out.mono ?_
   rintro e w1 ⟨f,rfl,hr⟩
   have R:=Lib.hid (And.intro f hr);clear f hr
   go_wp2_with fail
   refine (HD.out _ R.out.2).mono ?_
   rintro e w2 ⟨f2,hc,rfl⟩
   have R2:=Lib.hid (And.intro (R.out.1.trans f2 (fun k h=> .inl h)) hc);clear f2 hc
   go_wp2_with fail
   exact ⟨rfl,R2.out.1,R2.out.2,rfl⟩
  | ok s r2=>
   rw [hq] at HD
   clear hq
   go_enter Tryz.func141,Tryz.ntmps141
   go_wp2_with fail
   refine HC.out.mono ?_
   rintro e w1 ⟨f,rfl,hr⟩
   have R:=Lib.hid (And.intro f hr);clear f hr
   go_wp2_with fail
   refine (HD.out _ R.out.2).mono ?_
   rintro e w2 ⟨f2,rfl,hr2⟩
   have R2:=Lib.hid (And.intro (R.out.1.trans f2 (fun k h=> .inl h)) hr2);clear f2 hr2
   go_wp2_with fail
   go_ret
   exact ⟨R2.out.1,rfl,R2.out.2⟩
theorem text_any {b:Nat} {w:World} {l:List UInt8} (most:Nat) (h:RdL w b l):Calls Tryz.prog 137 #[.pointer (some ⟨b,0,none⟩), .int .i64 most] w (RdPost b w (pText most l) (fun s=> .string s)):=by
 have HC:=Lib.hid (rdText_any h)
 have e:pText most l=(pTx l).bind fun s l=>if most<s.size then .ref 4 else .ok s l:=by
  unfold pText pTx
  cases pNum 1 l<;>rfl
 rw [e]
 clear e
 cases hp:pTx l with
 | ref c=>
  rw [hp] at HC
  simp only [PR.bind]
  clear hp
  go_enter Tryz.func137,Tryz.ntmps137
  go_wp2_with fail
  refine HC.out.mono ?_
  rintro e w' ⟨f,hc,rfl⟩
  have R:=Lib.hid (And.intro f hc);clear f hc
  go_wp2_with fail
  exact ⟨rfl,R.out.1,R.out.2,rfl⟩
 | ok s r=>
  have h2:=pTx_size hp
  rw [hp] at HC
  simp only [PR.bind]
  clear hp
  by_cases h3:most<s.size
  ·rw [if_pos h3]
   go_enter Tryz.func137,Tryz.ntmps137
   go_wp2_with fail
   refine HC.out.mono ?_
   rintro e w' ⟨f,rfl,hr⟩
   have R:=Lib.hid f;clear f hr
   go_wp2_with fail
   refine (refuse_any 4 _).mono ?_
   rintro e w2 ⟨rfl,rfl⟩
   go_wp2_with fail
   exact ⟨rfl,R.out,by decide,rfl⟩
  ·rw [if_neg h3]
   go_enter Tryz.func137,Tryz.ntmps137
   go_wp2_with fail
   refine HC.out.mono ?_
   rintro e w' ⟨f,rfl,hr⟩
   have R:=Lib.hid (And.intro f hr);clear f hr
   go_wp2_with fail
   go_ret
   exact ⟨R.out.1,rfl,R.out.2⟩
end
section
open Go.RowKit Go.Proofs
theorem Tryz.infoMInt:(Tryz.prog.info? 3).map (fun i=>(i.zero,i.size,i.bytes))=some (some (.int .i64 0),1,8):=by kernel_rfl
theorem Tryz.infoMId:(Tryz.prog.info? 154).map (fun i=>(i.zero,i.size,i.bytes))=some (some (.agg #[.string ⟨#[]⟩, .int .u64 0]),2,24):=by kernel_rfl
theorem Tryz.infoMRec:(Tryz.prog.info? 157).map (fun i=>(i.zero,i.size,i.bytes))=some (some (.agg #[.string ⟨#[]⟩, .int .u64 0, .int .i64 0, .int .i64 0, .bool false, .string ⟨#[]⟩]),6,64):=by kernel_rfl
theorem heap_set1 {w:World} {q:Nat} {c:Array Value} {e:TypeId} {fz:Nat×Nat} (h:w.heap[q]?=some (.cells c e fz)) (i:Nat) (v:Value):(w.setCell ⟨q,i,none⟩ v).heap[q]?=some (.cells (c.setIfInBounds i v) e fz):=by
 simp [World.setCell,Array.getElem?_modify,h]
theorem news_cells (w:World) (cs:Array Value) (e:TypeId):∀ (j:Nat) (u:Value),cs.toList[j]?=some u→(w.alloc (.cells cs e)).cell? ((⟨w.heap.size,0,none⟩:Addr).add j)=some u:=by
 intro j u hj
 rw [Addr.add_lit,Nat.zero_add,World.cell?_alloc_at _ _ _ _ rfl]
 simpa using hj
abbrev Msg.arr (m:Msg) (p:MsgP):Array Value:= #[.int .i64 m.kind, .int .i64 m.node, .int .i64 m.walk, .bool m.high, .slice p.a1 m.nodes.length p.c1, .slice p.a2 m.ids.length p.c2, .slice p.a3 m.recs.length p.c3]
abbrev Msg.zero:Msg:=⟨0,0,0,false,[],[],[]⟩
abbrev MsgP.zero:MsgP:=⟨none,0,none,0,none,0⟩
structure RdSt (W:World) (b q:Nat) (w:World) (cs:Array Value) (r:List UInt8):Prop where
 blk:w.heap[q]?=some (.cells cs 76 (0,0))
 rd:RdL w b r
 fr:Fr (fun k=>k=b∨k=q) W w
 ne:q≠b
 lb:b<W.heap.size
 lq:q<W.heap.size
theorem RdSt.cell {W:World} {b q:Nat} {w:World} {cs:Array Value} {r:List UInt8} (h:RdSt W b q w cs r) (j:Nat) (v:Value) (hj:cs[j]?=some v):w.cell? ⟨q,j,none⟩=some v:=by
 rw [Lib.cell_of_heap h.blk];exact hj
theorem RdSt.z {W:World} {b q:Nat} {w:World} {cs:Array Value} {r:List UInt8} (h:RdSt W b q w cs r) (j:Nat):w.frozen? ⟨q,j,none⟩=false:=Lib.frozen_of_heap h.blk j
theorem RdSt.step {W:World} {b q:Nat} {w w':World} {cs:Array Value} {r r':List UInt8} (h:RdSt W b q w cs r) (f:Fr (· =b) w w') (hr:RdL w' b r'):RdSt W b q w' cs r':=
 ⟨by rw [f.block q (Nat.lt_of_lt_of_le h.lq h.fr.size) h.ne];exact h.blk,hr,h.fr.trans f (fun k hk=> .inl (.inl hk)),h.ne,h.lb,h.lq⟩
theorem RdSt.set {W:World} {b q:Nat} {w:World} {cs:Array Value} {r:List UInt8} (h:RdSt W b q w cs r) (i:Nat) (v:Value):RdSt W b q (w.setCell ⟨q,i,none⟩ v) (cs.setIfInBounds i v) r:=by
 have f:Fr (fun k=>k=q) w (w.setCell ⟨q,i,none⟩ v):=(Fr.refl (fun k=>k=q) w).setCell (p:=⟨q,i,none⟩) (.inl rfl) v
 exact ⟨heap_set1 h.blk i v,h.rd.keep f (fun e=>h.ne e.symm),h.fr.trans f (fun k hk=> .inl (.inr hk)),h.ne,h.lb,h.lq⟩
theorem RdSt.grow {S:Nat→Prop} {W:World} {b q:Nat} {w w':World} {cs:Array Value} {r:List UInt8} (h:RdSt W b q w cs r) (f:Fr S w w') (hS:∀ k,S k→W.heap.size≤k):RdSt W b q w' cs r:=by
 have n1:¬ S b:=fun hb=>by have:=hS b hb;have:=h.lb;omega
 have n2:¬ S q:=fun hb=>by have:=hS q hb;have:=h.lq;omega
 exact ⟨by rw [f.block q (Nat.lt_of_lt_of_le h.lq h.fr.size) n2];exact h.blk,h.rd.keep f n1,h.fr.trans f (fun k hk=> .inr (hS k hk)),h.ne,h.lb,h.lq⟩
theorem RdSt.drew {W:World} {b q:Nat} {w:World} {cs:Array Value} {r:List UInt8} (h:RdSt W b q w cs r):RdSt W b q w.drew cs r:=h.grow (S:=fun _=>False) ((Fr.refl _ _).drew) (fun _ h=>h.elim)
structure MsgOwn (B:Nat) (w:World) (m:Msg) (p:MsgP):Prop where
 nodes:w.ownsRow B 3 1 (.slice p.a1 m.nodes.length p.c1) m.nodes.length (m.nodes.flatMap MInt.cells)
 ids:w.ownsRow B 154 2 (.slice p.a2 m.ids.length p.c2) m.ids.length (m.ids.flatMap MId.cells)
 recs:w.ownsRow B 157 6 (.slice p.a3 m.recs.length p.c3) m.recs.length (m.recs.flatMap MRec.cells)
 z2:m.ids=[]→p.a2=none∧p.c2=0
 z3:m.recs=[]→p.a3=none∧p.c3=0
theorem MsgOwn.at {B:Nat} {w:World} {m:Msg} {p:MsgP} (h:MsgOwn B w m p):MsgAt w m p:=by
 obtain ⟨x1,y1,e1,s1, -, -⟩:=SlA.of_own h.nodes
 obtain ⟨x2,y2,e2,s2, -, -⟩:=SlA.of_own h.ids
 obtain ⟨x3,y3,e3,s3, -, -⟩:=SlA.of_own h.recs
 cases e1;cases e2;cases e3
 exact ⟨s1,s2,s3⟩
theorem MsgOwn.base {B B':Nat} {w:World} {m:Msg} {p:MsgP} (h:MsgOwn B w m p) (hb:B'≤B):MsgOwn B' w m p:=⟨own_base h.nodes hb,own_base h.ids hb,own_base h.recs hb,h.z2,h.z3⟩
theorem MsgOwn.keep {B:Nat} {S:Nat→Prop} {w w':World} {m:Msg} {p:MsgP} (h:MsgOwn B w m p) (f:Fr S w w') (hS:∀ k,S k→k<B):MsgOwn B w' m p:=
 ⟨own_fr h.nodes f (fun q hq hs=>by have:=(h.nodes.lt q hq).1;have:=hS q hs;omega),own_fr h.ids f (fun q hq hs=>by have:=(h.ids.lt q hq).1;have:=hS q hs;omega),own_fr h.recs f (fun q hq hs=>by have:=(h.recs.lt q hq).1;have:=hS q hs;omega),h.z2,h.z3⟩
def MsgRead (W:World) (b q:Nat) (x:PR Msg) (e:Ending) (w':World):Prop:=
 match x with
 | .ok m r=>e= .returned (.tuple #[])∧RdL w' b r∧∃ p,w'.heap[q]?=some (.cells (m.arr p) 76 (0,0))∧MsgOwn W.heap.size w' m p
 | .ref c=>c≠0∧e= .panicked [{ v:=refused c,recovered:=false }]
def MsgDone (W:World) (b q:Nat) (x:PR Msg) (e:Ending) (w':World):Prop:=Fr (fun k=>k=b∨k=q) W w'∧MsgRead W b q x e w'
theorem RdSt.bad {W:World} {b q:Nat} {w w':World} {cs:Array Value} {r:List UInt8} (h:RdSt W b q w cs r) (f:Fr (· =b) w w') {R:PR Msg} {c:Int} (hR:R= .ref c) (hc:c≠0):MsgDone W b q R (.panicked [{ v:=refused c,recovered:=false }]) w':=by
 subst hR
 exact ⟨h.fr.trans f (fun k hk=> .inl (.inl hk)),hc,rfl⟩
theorem own_rd {b:Nat} {B:Nat} {e:TypeId} {size:Nat} {v:Value} {n:Nat} {cs:List Value} {w w':World} (h:w.ownsRow B e size v n cs) (f:Fr (· =b) w w') (hb:b<B):w'.ownsRow B e size v n cs:=
 own_fr h f (fun q hq e=>by have:=(h.lt q hq).1;omega)
theorem own_q {q B:Nat} {e:TypeId} {size:Nat} {v:Value} {n:Nat} {cs:List Value} {w w':World} (h:w.ownsRow B e size v n cs) (f:Fr (fun k=>k=q) w w') (hq:q<B):w'.ownsRow B e size v n cs:=
 own_fr h f (fun g hg e=>by have:=(h.lt g hg).1;have e:g=q:=e;omega)
theorem own_sep {w:World} {B B':Nat} {e e':TypeId} {s s':Nat} {v v':Value} {n n':Nat} {cs cs':List Value} (h:w.ownsRow B e s v n cs) (h':w.ownsRow B' e' s' v' n' cs') (he:e≠e'):∀ g,v.ownBlock=some g→v'.ownBlock≠some g:=by
 intro g hg hg'
 rcases h.2 with ⟨rfl,_⟩ | ⟨x,cap,cur,rfl,_,hb,_⟩
 ·cases hg
 ·rcases h'.2 with ⟨rfl,_⟩ | ⟨y,cap',cur',rfl,_,hb',_⟩
  ·cases hg'
  ·simp only [Value.ownBlock,Option.some.injEq] at hg hg'
   subst hg
   subst hg'
   rw [hb] at hb'
   simp only [Option.some.injEq,Obj.cells.injEq] at hb'
   exact he hb'.2.1
theorem own_grown {w w':World} {B:Nat} {e:TypeId} {s:Nat} {v:Value} {n:Nat} {cs:List Value} {row:Option Nat} (h:w.ownsRow B e s v n cs) (g:w.grownBy w' row) (hs:∀ k,v.ownBlock=some k→row≠some k):w'.ownsRow B e s v n cs:=
 own_fr h ((Fr.refl (fun k=>row=some k) w).grown g (fun _ h=> .inl h)) (fun k hk e=>hs k hk e)
theorem RdSt.fin {W:World} {b q:Nat} {w:World} {r:List UInt8} {k n wk:Int} {hi:Bool} {ns:List Int} {is:List MId} {rs:List MRec} {a1 a2 a3:Option Addr} {c1 c2 c3:Nat} {R:PR Msg}
  (h:RdSt W b q w #[.int .i64 k, .int .i64 n, .int .i64 wk, .bool hi, .slice a1 ns.length c1, .slice a2 is.length c2, .slice a3 rs.length c3] r)
  (o1:w.ownsRow W.heap.size 3 1 (.slice a1 ns.length c1) ns.length (ns.flatMap MInt.cells)) (o2:w.ownsRow W.heap.size 154 2 (.slice a2 is.length c2) is.length (is.flatMap MId.cells)) (o3:w.ownsRow W.heap.size 157 6 (.slice a3 rs.length c3) rs.length (rs.flatMap MRec.cells))
  (z2:is=[]→Value.slice a2 is.length c2= .slice none 0 0) (z3:rs=[]→Value.slice a3 rs.length c3= .slice none 0 0) (hR:R= .ok ⟨k,n,wk,hi,ns,is,rs⟩ r):MsgDone W b q R (.returned (.tuple #[])) w:=by
 subst hR
 exact ⟨h.fr,rfl,h.rd,⟨a1,c1,a2,c2,a3,c3⟩,h.blk,o1,o2,o3,fun e=>by have h1:=z2 e;injection h1 with e1 _ e3;exact ⟨e1,e3⟩,fun e=>by have h1:=z3 e;injection h1 with e1 _ e3;exact ⟨e1,e3⟩⟩
theorem read_any (b q:Nat) (l:List UInt8) (W:World) (h0:RdSt W b q W #[.int .i64 0, .int .i64 0, .int .i64 0, .bool false, .slice none 0 0, .slice none 0 0, .slice none 0 0] l):
  Calls Tryz.prog 127 #[.pointer (some ⟨q,0,none⟩), .pointer (some ⟨b,0,none⟩)] W (MsgDone W b q (pMsg l)):=by
 obtain ⟨i1,hi1,hi2,hi3,hi4⟩:=info_parts Tryz.infoMInt
 obtain ⟨i2,hj1,hj2,hj3,hj4⟩:=info_parts Tryz.infoMId
 obtain ⟨i3,hl1,hl2,hl3,hl4⟩:=info_parts Tryz.infoMRec
 obtain ⟨R,hR⟩:∃ R,R=pMsg l:=⟨_,rfl⟩
 rw [←hR]
 have ST0:=Lib.hid h0;clear h0
 unfold pMsg at hR
 have hlb:=ST0.out.lb
 have hlq:=ST0.out.lq
 have hne:=ST0.out.ne
 have C1:=Lib.hid (rdNum 1 ST0.out.rd (by decide) (by decide) 1 rfl)
 cases hp:pNum 1 l with
 | ref c=>
  rw [hp] at C1
  rw [hp] at hR
  simp only [PR.bind] at hR
  have HR:=Lib.hid hR;clear hR hp
  go_enter Tryz.func127,Tryz.ntmps127
  go_wp2_with fail
  refine C1.out.mono ?_
  rintro e w1 ⟨f,hc,rfl⟩
  have P:=Lib.hid (ST0.out.bad f HR.out hc)
  clear f
  go_wp2_with fail
  exact ⟨rfl,P.out⟩
 | ok k r1=>
 rw [hp] at C1 hR
 obtain ⟨k0,k1⟩:=pNum_range hp
 have k2:k<256:=k1
 simp only [PR.bind] at hR
 clear hp k1
 have HR:=Lib.hid hR;clear hR
 go_enter Tryz.func127,Tryz.ntmps127
 go_wp2_with fail
 refine C1.out.mono ?_
 rintro e w1 ⟨f,rfl,hr⟩
 have ST1:=Lib.hid (ST0.out.step f hr);clear f hr C1
 have C2:=Lib.hid (number_any ST1.out.rd)
 cases hp:pNum 2 r1 with
 | ref c=>
  rw [hp] at C2
  have HR:Hid (R= .ref c):=Lib.hid (by rw [HR.out,hp])
  clear hp
  go_wp2_with fail
  refine C2.out.mono ?_
  rintro e w2 ⟨f,hc,rfl⟩
  have P:=Lib.hid (ST1.out.bad f HR.out hc)
  clear f
  go_wp2_with fail
  exact ⟨rfl,P.out⟩
 | ok n r2=>
 rw [hp] at C2
 have hR:=HR.out
 rw [hp] at hR
 simp only at hR
 clear hp HR
 have HR:=Lib.hid hR;clear hR
 go_wp2_with fail
 refine C2.out.mono ?_
 rintro e w2 ⟨f,rfl,hr⟩
 have ST2:=Lib.hid (ST1.out.step f hr);clear f hr C2 ST1
 have C3:=Lib.hid (rdNum 1 ST2.out.rd (by decide) (by decide) 1 rfl)
 cases hp:pNum 1 r2 with
 | ref c=>
  rw [hp] at C3
  have HR:Hid (R= .ref c):=Lib.hid (by rw [HR.out,hp])
  clear hp
  go_wp2_with fail
  refine C3.out.mono ?_
  rintro e w3 ⟨f,hc,rfl⟩
  have P:=Lib.hid (ST2.out.bad f HR.out hc)
  clear f
  go_wp2_with fail
  exact ⟨rfl,P.out⟩
 | ok wk r3=>
 rw [hp] at C3
 have hR:=HR.out
 rw [hp] at hR
 obtain ⟨wk0,wk1⟩:=pNum_range hp
 have wk2:wk<256:=wk1
 simp only at hR
 clear hp wk1 HR
 have HR:=Lib.hid hR;clear hR
 go_wp2_with fail
 refine C3.out.mono ?_
 rintro e w3 ⟨f,rfl,hr⟩
 have ST3:=Lib.hid (ST2.out.step f hr);clear f hr C3 ST2
 have C4:=Lib.hid (truth_any ST3.out.rd)
 cases hp:pBool r3 with
 | ref c=>
  rw [hp] at C4
  have HR:Hid (R= .ref c):=Lib.hid (by rw [HR.out,hp])
  clear hp
  go_wp2_with fail
  refine C4.out.mono ?_
  rintro e w4 ⟨f,hc,rfl⟩
  have P:=Lib.hid (ST3.out.bad f HR.out hc)
  clear f
  go_wp2_with fail
  exact ⟨rfl,P.out⟩
 | ok hi r4=>
 rw [hp] at C4
 have hR:=HR.out
 rw [hp] at hR
 simp only at hR
 clear hp HR
 have HR:=Lib.hid hR;clear hR
 go_wp2_with fail
 refine C4.out.mono ?_
 rintro e w4 ⟨f,rfl,hr⟩
 have ST4:=Lib.hid (ST3.out.step f hr);clear f hr C4 ST3
 have y0:=ST4.out.cell 0 _ rfl
 have y1:=ST4.out.cell 1 _ rfl
 have y2:=ST4.out.cell 2 _ rfl
 have y3:=ST4.out.cell 3 _ rfl
 have z0:=ST4.out.z 0
 have z1:=ST4.out.z 1
 have z2:=ST4.out.z 2
 have z3:=ST4.out.z 3
 have ST5:=Lib.hid ((((ST4.out.set 0 (.int .i64 k)).set 1 (.int .i64 n)).set 2 (.int .i64 wk)).set 3 (.bool hi))
 go_wp2_with fail
 obtain ⟨w5,hw5⟩:∃ w5,w5=(((w4.setCell ⟨q,0,none⟩ (.int .i64 k)).setCell ⟨q,1,none⟩ (.int .i64 n)).setCell ⟨q,2,none⟩ (.int .i64 wk)).setCell ⟨q,3,none⟩ (.bool hi):=⟨_,rfl⟩
 rw [←hw5] at ST5 ⊢
 clear hw5 y0 y1 y2 y3 z0 z1 z2 z3 ST4
 have C5:=Lib.hid (count_any 64 ST5.out.rd)
 have HR:=Lib.hid (show R=(pCount 64 r4).bind (fun c l=>(pMany (pNum 2) c.toNat l).bind fun ns l=>(pList 64 pId l).bind fun is l=>(pList 16 pRec l).bind fun rs l=> .ok ⟨k,n,wk,hi,ns,is,rs⟩ l) by
  rw [HR.out];unfold pList;cases pCount 64 r4<;>rfl)
 cases hp:pCount 64 r4 with
 | ref c=>
  rw [hp] at C5
  have HR:Hid (R= .ref c):=Lib.hid (by rw [HR.out,hp];rfl)
  clear hp
  refine C5.out.mono ?_
  rintro e w6 ⟨f,hc,rfl⟩
  have P:=Lib.hid (ST5.out.bad f HR.out hc)
  clear f
  go_wp2_with fail
  exact ⟨rfl,P.out⟩
 | ok cn r5=>
 rw [hp] at C5
 have hR:=HR.out
 rw [hp] at hR
 simp only [PR.bind] at hR
 obtain ⟨cn0,cn1⟩:=((tight_count 64 (by decide)).1 _ _ _ hp).2
 clear hp HR
 obtain ⟨cn,rfl⟩:=Int.eq_ofNat_of_zero_le cn0
 rw [Int.toNat_natCast] at hR
 have HR:=Lib.hid hR;clear hR
 refine C5.out.mono ?_
 rintro e w6 ⟨f,rfl,hr⟩
 have ST6:=Lib.hid (ST5.out.step f hr);clear f hr C5 ST5
 go_wp2_with fail
 obtain ⟨K1,hK1⟩:∃ K1:List Int→List UInt8→PR Msg,K1=fun ns l=>(pList 64 pId l).bind fun is l=>(pList 16 pRec l).bind fun rs l=> .ok ⟨k,n,wk,hi,ns,is,rs⟩ l:=⟨_,rfl⟩
 have HK1:=Lib.hid hK1
 go_loopw [29] (fun iv wr=>∃ (j:Nat) (done:List Int) (v1:Value) (r:List UInt8),iv= .int .i64 j∧j≤cn∧done.length=j∧RdSt W b q wr #[.int .i64 k, .int .i64 n, .int .i64 wk, .bool hi,v1, .slice none 0 0, .slice none 0 0] r∧wr.ownsRow W.heap.size 3 1 v1 done.length (done.flatMap MInt.cells)∧R=(pMany (pNum 2) (cn-j) r).bind fun rest l=>K1 (done++rest) l) (fun iv _=>cn-(intOf iv).toNat)
 case atStart=>
  refine ⟨0,[],_,r5,rfl,Nat.zero_le _,rfl,ST6.out,World.ownsRow_nil _ _ _ _,?_⟩
  rw [HR.out,hK1];rfl
 case round=>
  clear ST6 HR hK1
  obtain ⟨j,done,v1,r,rfl,hj,rfl,hst,hown,hR⟩:=hrel
  have ST:=Lib.hid hst;clear hst
  obtain ⟨a1,c1,rfl, -, hob, -⟩:=SlA.of_own hown
  have HO:=Lib.hid hown;clear hown
  have HB:=Lib.hid hob;clear hob
  have hdl':done.length≤64:=by omega
  by_cases hjn:done.length<cn
  ·obtain ⟨d,hd⟩:∃ d,cn-done.length=d+1:=⟨cn-done.length-1,by omega⟩
   rw [hd] at hR
   have CN:=Lib.hid (number_any ST.out.drew.rd)
   unfold pMany at hR
   have hd2:cn-(done.length+1)=d:=by omega
   have y4:=ST.out.cell 4 _ rfl
   haveI:Nonempty (WC (fun w=>w.cell? ⟨q,4,none⟩=some (.slice a1 done.length c1))):=⟨⟨_,y4⟩⟩
   have x4:∀ z:WC (fun w=>w.cell? ⟨q,4,none⟩=some (.slice a1 done.length c1)),z.val.cell? ⟨q,4,none⟩=some (.slice a1 done.length c1):=fun z=>z.ok
   cases hp:pNum 2 r with
   | ref c=>
    rw [hp] at CN hR
    have HR:=Lib.hid (show R= .ref c from hR)
    clear hp hR hd2 hd
    go_wp2_with fail
    refine wp_region_last 11 [6,7,8] [6] (fun w'=>∃ z:WC (fun w=>w.cell? ⟨q,4,none⟩=some (.slice a1 done.length c1)),w'=z.val) (by kernel_rfl) (by kernel_rfl) (fun c a w d v h=>by cases d<;>exact h) (fun c a w d v h=>by cases d<;>exact h) ⟨⟨_,ST.out.drew.cell 4 _ rfl⟩,rfl⟩ ?_
    simp only [List.take]
    repeat (refine wpU_q (by rfl) (by rfl) ?_;go_big_quiet_step (exact rfl);refine wpQuiet_nil ?_)
    refine wpU_e (by rfl) ?_
    go_wp2_with fail
    refine CN.out.mono ?_
    rintro e w7 ⟨f,hc,rfl⟩
    have P:=Lib.hid (ST.out.drew.bad f HR.out hc)
    clear f
    go_wp2_with fail
    exact ⟨rfl,P.out⟩
   | ok x r7=>
    rw [hp] at CN hR
    have hR:R=(pMany (pNum 2) (cn-(done.length+1)) r7).bind fun rest l=>K1 (done++[x]++rest) l:=by
     rw [hR,hd2]
     simp only [PR.bind]
     cases pMany (pNum 2) d r7<;>simp
    have HR:=Lib.hid hR
    obtain ⟨x0,x1⟩:=pNum_range hp
    clear hp hR hd2 hd x1
    go_wp2_with fail
    refine wp_region_last 11 [6,7,8] [6] (fun w'=>∃ z:WC (fun w=>w.cell? ⟨q,4,none⟩=some (.slice a1 done.length c1)),w'=z.val) (by kernel_rfl) (by kernel_rfl) (fun c a w d v h=>by cases d<;>exact h) (fun c a w d v h=>by cases d<;>exact h) ⟨⟨_,ST.out.drew.cell 4 _ rfl⟩,rfl⟩ ?_
    simp only [List.take]
    repeat (refine wpU_q (by rfl) (by rfl) ?_;go_big_quiet_step (exact rfl);refine wpQuiet_nil ?_)
    refine wpU_e (by rfl) ?_
    go_wp2_with fail
    refine CN.out.mono ?_
    rintro e w7 ⟨f,rfl,hr⟩
    have ST7:=Lib.hid (ST.out.drew.step f hr)
    have HO7:=Lib.hid (own_rd HO.out.drew f hlb)
    clear f hr CN
    go_wp2_with fail
    refine ⟨⟨⟨_,ST7.out.cell 4 _ rfl⟩,rfl⟩,?_⟩
    refine wpU_e (by rfl) ?_
    go_wp2_with fail
    have ST8:=Lib.hid (ST7.out.grow ((Fr.refl (fun _=>False) w7).alloc (.cells #[.int .i64 x] 3)) (fun _ h=>h.elim))
    refine ⟨⟨⟨_,ST8.out.cell 4 _ rfl⟩,rfl⟩,?_⟩
    refine wpU_e (by rfl) ?_
    have hsz:=ST7.out.fr.size
    go_wp2_with (at_builtin;refine wpList_append_own _ rfl _ _ 42 rfl W.heap.size 3 i1 (.int .i64 0) 1 8 Tryz.underlying42 hi1 hi2 hi3 hi4 rfl (by decide) _ _ _ rfl (HO7.out.alloc _) ⟨w7.heap.size,0,none⟩ 1 1 [.int .i64 x] rfl rfl (news_cells w7 #[.int .i64 x] 3) (one_one _ rfl) (by unfold maxLen;omega) (by omega) (by rw [World.size_alloc];omega) ?_)
    intro v8 w8 ho8 hg8 _
    have ST9:=Lib.hid (ST8.out.grow (((Fr.refl (fun k=>W.heap.size≤k) _)).grown hg8 (fun q hq=> .inl (HO7.out.lt q hq).1)) (fun k h=>h))
    have HO8:=Lib.hid (show w8.ownsRow W.heap.size 3 1 v8 (done++[x]).length ((done++[x]).flatMap MInt.cells) by simpa using ho8)
    obtain ⟨a8,c8,rfl, -, -, -⟩:=SlA.of_own ho8
    clear ho8 hg8
    go_wp2_with fail
    refine ⟨⟨⟨_,ST9.out.cell 4 _ rfl⟩,rfl⟩,?_⟩
    repeat (refine wpU_q (by rfl) (by rfl) ?_;go_big_quiet_step (exact rfl);refine wpQuiet_nil ?_)
    refine wpU_nil ?_
    simp only [lastQ,List.drop]
    clear x4 y4
    have y4:=ST9.out.cell 4 _ rfl
    have z4:=ST9.out.z 4
    have ST10:=Lib.hid (ST9.out.set 4 (.slice a8 (done.length+1) c8))
    have HO10:=Lib.hid (own_fr HO8.out ((Fr.refl (fun k=>k=q) w8).setCell (p:=⟨q,4,none⟩) (.inl rfl) (.slice a8 (done.length+1) c8)) (fun g hg e=>by have:=(HO8.out.lt g hg).1;have e:g=q:=e;omega))
    go_wp2_with fail
    go_roundw
    case rel=>exact ⟨done.length+1,done++[x],_,r7,by go_num,by omega,by simp,ST10.out,HO10.out,HR.out⟩
    case measure=>simp [intOf];omega
  ·obtain rfl:done.length=cn:=by omega
   rw [Nat.sub_self] at hR
   have hR2:R=(pCount 64 r).bind (fun c l=>(pMany pId c.toNat l).bind fun is l=>(pList 16 pRec l).bind fun rs l=> .ok ⟨k,n,wk,hi,done,is,rs⟩ l):=by
    rw [hR]
    simp only [pMany,PR.bind,List.append_nil]
    rw [HK1.out]
    unfold pList
    simp only [PR.bind]
    cases pCount 64 r<;>rfl
   have HR:=Lib.hid hR2
   clear hR hR2 hjn
   have C5:=Lib.hid (count_any 64 ST.out.rd)
   cases hp:pCount 64 r with
   | ref c=>
    rw [hp] at C5
    have HR:Hid (R= .ref c):=Lib.hid (by rw [HR.out,hp];rfl)
    clear hp
    go_wp2_with fail
    refine C5.out.mono ?_
    rintro e w6 ⟨f,hc,rfl⟩
    have P:=Lib.hid (ST.out.bad f HR.out hc)
    clear f
    go_wp2_with fail
    exact ⟨rfl,P.out⟩
   | ok cm r5=>
   rw [hp] at C5
   have hR:=HR.out
   rw [hp] at hR
   simp only [PR.bind] at hR
   obtain ⟨cm0,cm1⟩:=((tight_count 64 (by decide)).1 _ _ _ hp).2
   clear hp HR
   obtain ⟨cm,rfl⟩:=Int.eq_ofNat_of_zero_le cm0
   rw [Int.toNat_natCast] at hR
   have HR:=Lib.hid hR;clear hR
   go_wp2_with fail
   refine C5.out.mono ?_
   rintro e w6 ⟨f,rfl,hr⟩
   have ST6:=Lib.hid (ST.out.step f hr)
   have HO6:=Lib.hid (own_rd HO.out f hlb);clear f hr C5 ST HO
   obtain ⟨K2,hK2⟩:∃ K2:List MId→List UInt8→PR Msg,K2=fun is l=>(pList 16 pRec l).bind fun rs l=> .ok ⟨k,n,wk,hi,done,is,rs⟩ l:=⟨_,rfl⟩
   have HK2:=Lib.hid hK2
   go_wp2_with fail
   clear hK2
   go_loopw [45] (fun iv wr=>∃ (j:Nat) (dn:List MId) (v2:Value) (r:List UInt8),iv= .int .i64 j∧j≤cm∧dn.length=j∧RdSt W b q wr #[.int .i64 k, .int .i64 n, .int .i64 wk, .bool hi, .slice a1 done.length c1,v2, .slice none 0 0] r∧wr.ownsRow W.heap.size 3 1 (.slice a1 done.length c1) done.length (done.flatMap MInt.cells)∧wr.ownsRow W.heap.size 154 2 v2 dn.length (dn.flatMap MId.cells)∧(dn=[]→v2= .slice none 0 0)∧R=(pMany pId (cm-j) r).bind fun rest l=>K2 (dn++rest) l) (fun iv _=>cm-(intOf iv).toNat)
   case atStart=>
    refine ⟨0,[],_,r5,rfl,Nat.zero_le _,rfl,ST6.out,HO6.out,World.ownsRow_nil _ _ _ _,fun _=>rfl,?_⟩
    rw [HR.out,HK2.out];rfl
   case round=>
    clear ST6 HR HO6
    obtain ⟨j,dn,v2,r,rfl,hj,rfl,hst,hO1,hown,hz2,hR⟩:=hrel
    have ST:=Lib.hid hst;clear hst
    have O1:=Lib.hid hO1;clear hO1
    obtain ⟨a2,c2,rfl, -, -, -⟩:=SlA.of_own hown
    have Z2:=Lib.hid hz2;clear hz2
    have HO:=Lib.hid hown;clear hown
    have hdl2:dn.length≤64:=by omega
    by_cases hjn:dn.length<cm
    ·obtain ⟨d,hd⟩:∃ d,cm-dn.length=d+1:=⟨cm-dn.length-1,by omega⟩
     rw [hd] at hR
     have CT:=Lib.hid (text_any 64 ST.out.drew.rd)
     unfold pMany at hR
     have hd2:cm-(dn.length+1)=d:=by omega
     have y4:=ST.out.cell 5 _ rfl
     haveI:Nonempty (WC (fun w=>w.cell? ⟨q,5,none⟩=some (.slice a2 dn.length c2))):=⟨⟨_,y4⟩⟩
     have x4:∀ z:WC (fun w=>w.cell? ⟨q,5,none⟩=some (.slice a2 dn.length c2)),z.val.cell? ⟨q,5,none⟩=some (.slice a2 dn.length c2):=fun z=>z.ok
     cases hp:pText 64 r with
     | ref c=>
      rw [hp] at CT
      have hpi:pId r= .ref c:=by unfold pId;rw [hp];rfl
      rw [hpi] at hR
      have HR:=Lib.hid (show R= .ref c from hR)
      clear hp hR hd2 hd hpi
      go_wp2_with fail
      refine wp_region_lastO 14 [6,8,10,11] [6,8] [0,1,2,3,4,5,7,6,8,9,10,11,12,13] (fun w'=>∃ z:WC (fun w=>w.cell? ⟨q,5,none⟩=some (.slice a2 dn.length c2)),w'=z.val) (by kernel_rfl) (by kernel_rfl) (fun c a w d v h=>by cases d<;>exact h) (fun c a w d v h=>by cases d<;>exact h) ⟨⟨_,ST.out.drew.cell 5 _ rfl⟩,rfl⟩ ?_
      simp only [List.take]
      repeat (refine wpT_q (by simp only [gtA,gtS,gtZ]<;>rfl) (by rfl) (by rfl) ?_;go_big_quiet_step (exact rfl);refine wpQuiet_nil ?_)
      refine wpT_e (by simp only [gtA,gtS,gtZ]<;>rfl) (by rfl) ?_
      go_wp2_with fail
      refine CT.out.mono ?_
      rintro e w7 ⟨f,hc,rfl⟩
      have P:=Lib.hid (ST.out.drew.bad f HR.out hc)
      clear f
      go_wp2_with fail
      exact ⟨rfl,P.out⟩
     | ok key r6=>
      rw [hp] at CT
      have CV:=Lib.hid (fun w (h:RdL w b r6)=>rdNum 8 h (by decide) (by decide) 8 rfl)
      have hpk:=hp
      clear hp
      cases hp:pNum 8 r6 with
      | ref c=>
       rw [hp] at CV
       have hpi:pId r= .ref c:=by unfold pId;rw [hpk];simp only [PR.bind];rw [hp]
       rw [hpi] at hR
       have HR:=Lib.hid (show R= .ref c from hR)
       clear hp hR hd2 hd hpi hpk
       go_wp2_with fail
       refine wp_region_lastO 14 [6,8,10,11] [6,8] [0,1,2,3,4,5,7,6,8,9,10,11,12,13] (fun w'=>∃ z:WC (fun w=>w.cell? ⟨q,5,none⟩=some (.slice a2 dn.length c2)),w'=z.val) (by kernel_rfl) (by kernel_rfl) (fun c a w d v h=>by cases d<;>exact h) (fun c a w d v h=>by cases d<;>exact h) ⟨⟨_,ST.out.drew.cell 5 _ rfl⟩,rfl⟩ ?_
       simp only [List.take]
       repeat (refine wpT_q (by simp only [gtA,gtS,gtZ]<;>rfl) (by rfl) (by rfl) ?_;go_big_quiet_step (exact rfl);refine wpQuiet_nil ?_)
       refine wpT_e (by simp only [gtA,gtS,gtZ]<;>rfl) (by rfl) ?_
       go_wp2_with fail
       refine CT.out.mono ?_
       rintro e w7 ⟨f,rfl,hr⟩
       have ST7:=Lib.hid (ST.out.drew.step f hr)
       clear f hr CT
       go_wp2_with fail
       refine ⟨⟨⟨_,ST7.out.cell 5 _ rfl⟩,rfl⟩,?_⟩
       repeat (refine wpT_q (by simp only [gtA,gtS,gtZ]<;>rfl) (by rfl) (by rfl) ?_;go_big_quiet_step (exact rfl);refine wpQuiet_nil ?_)
       refine wpT_e (by simp only [gtA,gtS,gtZ]<;>rfl) (by rfl) ?_
       go_wp2_with fail
       refine (CV.out _ ST7.out.rd).mono ?_
       rintro e w8 ⟨f,hc,rfl⟩
       have P:=Lib.hid (ST7.out.bad f HR.out hc)
       clear f
       go_wp2_with fail
       exact ⟨rfl,P.out⟩
      | ok x r7=>
       rw [hp] at CV
       have hpi:pId r= .ok ⟨key,x⟩ r7:=by unfold pId;rw [hpk];simp only [PR.bind];rw [hp]
       rw [hpi] at hR
       have hR:R=(pMany pId (cm-(dn.length+1)) r7).bind fun rest l=>K2 (dn++[⟨key,x⟩]++rest) l:=by
        rw [hR,hd2]
        simp only [PR.bind]
        cases pMany pId d r7<;>simp
       have HR:=Lib.hid hR
       clear hp hR hd2 hd hpi hpk
       go_wp2_with fail
       refine wp_region_lastO 14 [6,8,10,11] [6,8] [0,1,2,3,4,5,7,6,8,9,10,11,12,13] (fun w'=>∃ z:WC (fun w=>w.cell? ⟨q,5,none⟩=some (.slice a2 dn.length c2)),w'=z.val) (by kernel_rfl) (by kernel_rfl) (fun c a w d v h=>by cases d<;>exact h) (fun c a w d v h=>by cases d<;>exact h) ⟨⟨_,ST.out.drew.cell 5 _ rfl⟩,rfl⟩ ?_
       simp only [List.take]
       repeat (refine wpT_q (by simp only [gtA,gtS,gtZ]<;>rfl) (by rfl) (by rfl) ?_;go_big_quiet_step (exact rfl);refine wpQuiet_nil ?_)
       refine wpT_e (by simp only [gtA,gtS,gtZ]<;>rfl) (by rfl) ?_
       go_wp2_with fail
       refine CT.out.mono ?_
       rintro e w7 ⟨f,rfl,hr⟩
       have ST7:=Lib.hid (ST.out.drew.step f hr)
       have HO7:=Lib.hid (own_rd HO.out.drew f hlb)
       have O7:=Lib.hid (own_rd O1.out.drew f hlb)
       clear f hr CT
       go_wp2_with fail
       refine ⟨⟨⟨_,ST7.out.cell 5 _ rfl⟩,rfl⟩,?_⟩
       repeat (refine wpT_q (by simp only [gtA,gtS,gtZ]<;>rfl) (by rfl) (by rfl) ?_;go_big_quiet_step (exact rfl);refine wpQuiet_nil ?_)
       refine wpT_e (by simp only [gtA,gtS,gtZ]<;>rfl) (by rfl) ?_
       go_wp2_with fail
       refine (CV.out _ ST7.out.rd).mono ?_
       rintro e w8 ⟨f,rfl,hr⟩
       have ST8:=Lib.hid (ST7.out.step f hr)
       have HO8:=Lib.hid (own_rd HO7.out f hlb)
       have O8:=Lib.hid (own_rd O7.out f hlb)
       clear f hr CV ST7 HO7 O7
       go_wp2_with fail
       refine ⟨⟨⟨_,ST8.out.cell 5 _ rfl⟩,rfl⟩,?_⟩
       repeat (refine wpT_q (by simp only [gtA,gtS,gtZ]<;>rfl) (by rfl) (by rfl) ?_;go_big_quiet_step (exact rfl);refine wpQuiet_nil ?_)
       refine wpT_e (by simp only [gtA,gtS,gtZ]<;>rfl) (by rfl) ?_
       go_wp2_with fail
       have ST9:=Lib.hid (ST8.out.grow ((Fr.refl (fun _=>False) w8).alloc (.cells #[.string key, .int .u64 x] 154)) (fun _ h=>h.elim))
       refine ⟨⟨⟨_,ST9.out.cell 5 _ rfl⟩,rfl⟩,?_⟩
       refine wpT_e (by simp only [gtA,gtS,gtZ]<;>rfl) (by rfl) ?_
       have hsz:=ST8.out.fr.size
       go_wp2_with (at_builtin;refine wpList_append_own _ rfl _ _ 73 rfl W.heap.size 154 i2 (.agg #[.string ⟨#[]⟩, .int .u64 0]) 2 24 Tryz.underlying73 hj1 hj2 hj3 hj4 rfl (by decide) _ _ _ rfl (HO8.out.alloc _) ⟨w8.heap.size,0,none⟩ 1 1 [.string key, .int .u64 x] rfl rfl (news_cells w8 #[.string key, .int .u64 x] 154) (by intro u hu;simp at hu;rcases hu with rfl | rfl<;>rfl) (by unfold maxLen;omega) (by omega) (by rw [World.size_alloc];omega) ?_)
       intro v9 w9 ho9 hg9 _
       have ST10:=Lib.hid (ST9.out.grow (((Fr.refl (fun k=>W.heap.size≤k) _)).grown hg9 (fun q hq=> .inl (HO8.out.lt q hq).1)) (fun k h=>h))
       have HO9:=Lib.hid (show w9.ownsRow W.heap.size 154 2 v9 (dn++[(⟨key,x⟩:MId)]).length ((dn++[(⟨key,x⟩:MId)]).flatMap MId.cells) by simpa using ho9)
       have O9:=Lib.hid (own_grown (O8.out.alloc (.cells #[.string key, .int .u64 x] 154)) hg9 (own_sep O8.out HO8.out (by decide)))
       obtain ⟨a9,c9,rfl, -, -, -⟩:=SlA.of_own ho9
       clear ho9 hg9
       go_wp2_with fail
       refine ⟨⟨⟨_,ST10.out.cell 5 _ rfl⟩,rfl⟩,?_⟩
       repeat (refine wpT_q (by simp only [gtA,gtS,gtZ]<;>rfl) (by rfl) (by rfl) ?_;go_big_quiet_step (exact rfl);refine wpQuiet_nil ?_)
       refine wpT_nil ?_
       simp only [lastQ,List.drop]
       clear x4 y4
       have y4:=ST10.out.cell 5 _ rfl
       have z4:=ST10.out.z 5
       have fs:=(Fr.refl (fun k=>k=q) w9).setCell (p:=⟨q,5,none⟩) (.inl rfl) (.slice a9 (dn.length+1) c9)
       have ST11:=Lib.hid (ST10.out.set 5 (.slice a9 (dn.length+1) c9))
       have HO11:=Lib.hid (own_q HO9.out fs hlq)
       have O11:=Lib.hid (own_q O9.out fs hlq)
       clear fs
       go_wp2_with fail
       go_roundw
       case rel=>exact ⟨dn.length+1,dn++[(⟨key,x⟩:MId)],_,r7,by go_num,by omega,by simp,ST11.out,O11.out,HO11.out,fun e=>absurd e (by simp),HR.out⟩
       case measure=>simp [intOf];omega
    ·obtain rfl:dn.length=cm:=by omega
     rw [Nat.sub_self] at hR
     have hR2:R=(pCount 16 r).bind (fun c l=>(pMany pRec c.toNat l).bind fun rs l=> .ok ⟨k,n,wk,hi,done,dn,rs⟩ l):=by
      rw [hR]
      simp only [pMany,PR.bind,List.append_nil]
      rw [HK2.out]
      unfold pList
      simp only [PR.bind]
      cases pCount 16 r<;>rfl
     have HR:=Lib.hid hR2
     clear hR hR2 hjn
     have C5:=Lib.hid (count_any 16 ST.out.rd)
     cases hp:pCount 16 r with
     | ref c=>
      rw [hp] at C5
      have HR:Hid (R= .ref c):=Lib.hid (by rw [HR.out,hp];rfl)
      clear hp
      go_wp2_with fail
      refine C5.out.mono ?_
      rintro e w6 ⟨f,hc,rfl⟩
      have P:=Lib.hid (ST.out.bad f HR.out hc)
      clear f
      go_wp2_with fail
      exact ⟨rfl,P.out⟩
     | ok cr r5=>
     rw [hp] at C5
     have hR:=HR.out
     rw [hp] at hR
     simp only [PR.bind] at hR
     obtain ⟨cr0,cr1⟩:=((tight_count 16 (by decide)).1 _ _ _ hp).2
     clear hp HR
     obtain ⟨cr,rfl⟩:=Int.eq_ofNat_of_zero_le cr0
     rw [Int.toNat_natCast] at hR
     have HR:=Lib.hid hR;clear hR
     go_wp2_with fail
     refine C5.out.mono ?_
     rintro e w6 ⟨f,rfl,hr⟩
     have ST6:=Lib.hid (ST.out.step f hr)
     have O6:=Lib.hid (own_rd O1.out f hlb)
     have HO6:=Lib.hid (own_rd HO.out f hlb);clear f hr C5 ST HO O1
     obtain ⟨K3,hK3⟩:∃ K3:List MRec→List UInt8→PR Msg,K3=fun rs l=> .ok ⟨k,n,wk,hi,done,dn,rs⟩ l:=⟨_,rfl⟩
     have HK3:=Lib.hid hK3
     go_wp2_with fail
     clear hK3
     go_loopw [4,64] (fun _ iv wr=>∃ (j:Nat) (dr:List MRec) (v3:Value) (r:List UInt8),iv= .int .i64 j∧j≤cr∧dr.length=j∧RdSt W b q wr #[.int .i64 k, .int .i64 n, .int .i64 wk, .bool hi, .slice a1 done.length c1, .slice a2 dn.length c2,v3] r∧wr.ownsRow W.heap.size 3 1 (.slice a1 done.length c1) done.length (done.flatMap MInt.cells)∧wr.ownsRow W.heap.size 154 2 (.slice a2 dn.length c2) dn.length (dn.flatMap MId.cells)∧wr.ownsRow W.heap.size 157 6 v3 dr.length (dr.flatMap MRec.cells)∧(dr=[]→v3= .slice none 0 0)∧R=(pMany pRec (cr-j) r).bind fun rest l=>K3 (dr++rest) l) (fun _ iv _=>cr-(intOf iv).toNat)
     case atStart=>
      refine ⟨0,[],_,r5,rfl,Nat.zero_le _,rfl,ST6.out,O6.out,HO6.out,World.ownsRow_nil _ _ _ _,fun _=>rfl,?_⟩
      rw [HR.out,HK3.out]
      cases pMany pRec cr r5<;>rfl
     case round=>
      clear ST6 HR HO6 O6
      obtain ⟨j,dr,v3,r,rfl,hj,rfl,hst,hO1,hO2,hown,hz3,hR⟩:=hrel
      have ST:=Lib.hid hst;clear hst
      have O1:=Lib.hid hO1;clear hO1
      have O2:=Lib.hid hO2;clear hO2
      obtain ⟨a3,c3,rfl, -, -, -⟩:=SlA.of_own hown
      have Z3:=Lib.hid hz3;clear hz3
      have HO:=Lib.hid hown;clear hown
      have hdl3:dr.length≤16:=by omega
      by_cases hjn:dr.length<cr
      ·obtain ⟨d,hd⟩:∃ d,cr-dr.length=d+1:=⟨cr-dr.length-1,by omega⟩
       rw [hd] at hR
       rw [show pMany pRec (d+1) r=(pRec r).bind (fun x l=>(pMany pRec d l).bind fun rs l=> .ok (x::rs) l) from rfl,
        show pRec r=(pText 64 r).bind (fun k l=>(pNum 8 l).bind fun v l=>(pNum 2 l).bind fun o l=>(pNum 2 l).bind fun a l=>(pBool l).bind fun g l=>(pText 64 l).bind fun d l=> .ok ⟨k,v,o,a,g,d⟩ l) from rfl] at hR
       have hd2:cr-(dr.length+1)=d:=by omega
       have HD2:=Lib.hid hd2
       have HR:=Lib.hid hR
       clear hR hd hd2
       have C0:=Lib.hid (text_any 64 ST.out.rd)
       cases hp:pText 64 r with
       | ref c=>
        rw [hp] at C0
        have HR:Hid (R= .ref c):=Lib.hid (by rw [HR.out];simp only [PR.bind,hp])
        clear hp
        go_wp2_with fail
        refine C0.out.mono ?_
        rintro e w7 ⟨f,hc,rfl⟩
        have P:=Lib.hid (ST.out.bad f HR.out hc)
        clear f
        go_wp2_with fail
        exact ⟨rfl,P.out⟩
       | ok key s1=>
       rw [hp] at C0
       have hR:=HR.out
       simp only [PR.bind,hp] at hR
       clear HR
       have HR:=Lib.hid hR
       clear hR hp
       go_wp2_with fail
       refine C0.out.mono ?_
       rintro e u1 ⟨f,rfl,hr⟩
       have T1:=Lib.hid (ST.out.step f hr)
       have HO1:=Lib.hid (own_rd HO.out f hlb)
       have P1:=Lib.hid (own_rd O1.out f hlb)
       have Q1:=Lib.hid (own_rd O2.out f hlb)
       clear f hr C0
       have C1:=Lib.hid (rdNum 8 T1.out.rd (by decide) (by decide) 8 rfl)
       cases hp:pNum 8 s1 with
       | ref c=>
        rw [hp] at C1
        have HR:Hid (R= .ref c):=Lib.hid (by rw [HR.out];simp only [hp])
        clear hp
        go_wp2_with fail
        refine C1.out.mono ?_
        rintro e w7 ⟨f,hc,rfl⟩
        have P:=Lib.hid (T1.out.bad f HR.out hc)
        clear f
        go_wp2_with fail
        exact ⟨rfl,P.out⟩
       | ok ver s2=>
       rw [hp] at C1
       have hR:=HR.out
       simp only [hp] at hR
       clear HR
       have HR:=Lib.hid hR
       clear hR hp
       go_wp2_with fail
       refine C1.out.mono ?_
       rintro e u2 ⟨f,rfl,hr⟩
       have T2:=Lib.hid (T1.out.step f hr)
       have HO2:=Lib.hid (own_rd HO1.out f hlb)
       have P2:=Lib.hid (own_rd P1.out f hlb)
       have Q2:=Lib.hid (own_rd Q1.out f hlb)
       clear f hr C1
       have C2:=Lib.hid (number_any T2.out.rd)
       cases hp:pNum 2 s2 with
       | ref c=>
        rw [hp] at C2
        have HR:Hid (R= .ref c):=Lib.hid (by rw [HR.out];simp only [hp])
        clear hp
        go_wp2_with fail
        refine C2.out.mono ?_
        rintro e w7 ⟨f,hc,rfl⟩
        have P:=Lib.hid (T2.out.bad f HR.out hc)
        clear f
        go_wp2_with fail
        exact ⟨rfl,P.out⟩
       | ok og s3=>
       rw [hp] at C2
       have hR:=HR.out
       simp only [hp] at hR
       clear HR
       have HR:=Lib.hid hR
       clear hR hp
       go_wp2_with fail
       refine C2.out.mono ?_
       rintro e u3 ⟨f,rfl,hr⟩
       have T3:=Lib.hid (T2.out.step f hr)
       have HO3:=Lib.hid (own_rd HO2.out f hlb)
       have P3:=Lib.hid (own_rd P2.out f hlb)
       have Q3:=Lib.hid (own_rd Q2.out f hlb)
       clear f hr C2
       have C3:=Lib.hid (number_any T3.out.rd)
       cases hp:pNum 2 s3 with
       | ref c=>
        rw [hp] at C3
        have HR:Hid (R= .ref c):=Lib.hid (by rw [HR.out];simp only [hp])
        clear hp
        go_wp2_with fail
        refine C3.out.mono ?_
        rintro e w7 ⟨f,hc,rfl⟩
        have P:=Lib.hid (T3.out.bad f HR.out hc)
        clear f
        go_wp2_with fail
        exact ⟨rfl,P.out⟩
       | ok ag s4=>
       rw [hp] at C3
       have hR:=HR.out
       simp only [hp] at hR
       clear HR
       have HR:=Lib.hid hR
       clear hR hp
       go_wp2_with fail
       refine C3.out.mono ?_
       rintro e u4 ⟨f,rfl,hr⟩
       have T4:=Lib.hid (T3.out.step f hr)
       have HO4:=Lib.hid (own_rd HO3.out f hlb)
       have P4:=Lib.hid (own_rd P3.out f hlb)
       have Q4:=Lib.hid (own_rd Q3.out f hlb)
       clear f hr C3
       have C4:=Lib.hid (truth_any T4.out.rd)
       cases hp:pBool s4 with
       | ref c=>
        rw [hp] at C4
        have HR:Hid (R= .ref c):=Lib.hid (by rw [HR.out];simp only [hp])
        clear hp
        go_wp2_with fail
        refine C4.out.mono ?_
        rintro e w7 ⟨f,hc,rfl⟩
        have P:=Lib.hid (T4.out.bad f HR.out hc)
        clear f
        go_wp2_with fail
        exact ⟨rfl,P.out⟩
       | ok gn s5=>
       rw [hp] at C4
       have hR:=HR.out
       simp only [hp] at hR
       clear HR
       have HR:=Lib.hid hR
       clear hR hp
       go_wp2_with fail
       refine C4.out.mono ?_
       rintro e u5 ⟨f,rfl,hr⟩
       have T5:=Lib.hid (T4.out.step f hr)
       have HO5:=Lib.hid (own_rd HO4.out f hlb)
       have P5:=Lib.hid (own_rd P4.out f hlb)
       have Q5:=Lib.hid (own_rd Q4.out f hlb)
       clear f hr C4
       have T5b:=Lib.hid (T5.out.grow ((Fr.refl (fun _=>False) u5).alloc (.cells #[.string key, .int .u64 ver, .int .i64 og, .int .i64 ag, .bool gn, .string ⟨#[]⟩] 157)) (fun _ h=>h.elim))
       have RB5:Hid ((u5.alloc (.cells #[.string key, .int .u64 ver, .int .i64 og, .int .i64 ag, .bool gn, .string ⟨#[]⟩] 157)).heap[u5.heap.size]?=some (.cells #[.string key, .int .u64 ver, .int .i64 og, .int .i64 ag, .bool gn, .string ⟨#[]⟩] 157 (0,0))):=Lib.hid (by rw [heap_alloc_if,if_pos rfl])
       have HO5b:=Lib.hid (HO5.out.alloc (.cells #[.string key, .int .u64 ver, .int .i64 og, .int .i64 ag, .bool gn, .string ⟨#[]⟩] 157))
       have P5b:=Lib.hid (P5.out.alloc (.cells #[.string key, .int .u64 ver, .int .i64 og, .int .i64 ag, .bool gn, .string ⟨#[]⟩] 157))
       have Q5b:=Lib.hid (Q5.out.alloc (.cells #[.string key, .int .u64 ver, .int .i64 og, .int .i64 ag, .bool gn, .string ⟨#[]⟩] 157))
       have C5:=Lib.hid (text_any 64 T5b.out.rd)
       cases hp:pText 64 s5 with
       | ref c=>
        rw [hp] at C5
        have HR:Hid (R= .ref c):=Lib.hid (by rw [HR.out];simp only [hp])
        clear hp
        go_wp2_with fail
        refine C5.out.mono ?_
        rintro e w7 ⟨f,hc,rfl⟩
        have P:=Lib.hid (T5b.out.bad f HR.out hc)
        clear f
        go_wp2_with fail
        exact ⟨rfl,P.out⟩
       | ok dt s6=>
       rw [hp] at C5
       have hR:=HR.out
       simp only [hp] at hR
       clear HR
       have HR:=Lib.hid hR
       clear hR hp
       go_wp2_with fail
       refine C5.out.mono ?_
       rintro e u6 ⟨f,rfl,hr⟩
       have T6:=Lib.hid (T5b.out.step f hr)
       have HO6:=Lib.hid (own_rd HO5b.out f hlb)
       have P6:=Lib.hid (own_rd P5b.out f hlb)
       have Q6:=Lib.hid (own_rd Q5b.out f hlb)
       have RB6:Hid (u6.heap[u5.heap.size]?=some (.cells #[.string key, .int .u64 ver, .int .i64 og, .int .i64 ag, .bool gn, .string ⟨#[]⟩] 157 (0,0))):=Lib.hid (by
        rw [f.block u5.heap.size (by simp) (fun e=>by have e:u5.heap.size=b:=e;have:=T5.out.fr.size;omega)]
        exact RB5.out)
       clear f hr C5
       have hu5:W.heap.size≤u5.heap.size:=T5.out.fr.size
       have n0:∀ g,(Value.slice a3 dr.length c3).ownBlock=some g→¬ g=u5.heap.size:=fun g hg=>Nat.ne_of_lt (HO5.out.lt g hg).2
       have n1:∀ g,(Value.slice a1 done.length c1).ownBlock=some g→¬ g=u5.heap.size:=fun g hg=>Nat.ne_of_lt (P5.out.lt g hg).2
       have n2:∀ g,(Value.slice a2 dn.length c2).ownBlock=some g→¬ g=u5.heap.size:=fun g hg=>Nat.ne_of_lt (Q5.out.lt g hg).2
       have N0:=Lib.hid n0;clear n0
       have N1:=Lib.hid n1;clear n1
       have N2:=Lib.hid n2;clear n2
       have y5:u6.cell? ⟨u5.heap.size,5,none⟩=some (.string ⟨#[]⟩):=by rw [Lib.cell_of_heap RB6.out];rfl
       have z5:u6.frozen? ⟨u5.heap.size,5,none⟩=false:=Lib.frozen_of_heap RB6.out 5
       have fs:=(Fr.refl (fun k=>k=u5.heap.size) u6).setCell (p:=⟨u5.heap.size,5,none⟩) (.inl rfl) (.string dt)
       have T7:=Lib.hid (T6.out.grow fs (fun k hk=>by have hk:k=u5.heap.size:=hk;omega))
       have RB7:=Lib.hid (heap_set1 RB6.out 5 (.string dt))
       have HO7:=Lib.hid (own_fr HO6.out fs N0.out)
       have P7:=Lib.hid (own_fr P6.out fs N1.out)
       have Q7:=Lib.hid (own_fr Q6.out fs N2.out)
       clear fs
       go_wp2_with fail
       clear y5 z5
       obtain ⟨u7,hu7⟩:∃ u7,u7=u6.setCell ⟨u5.heap.size,5,none⟩ (.string dt):=⟨_,rfl⟩
       rw [←hu7] at T7 RB7 HO7 P7 Q7 ⊢
       clear hu7
       have BXd:Bx u7.drew u5.heap.size [.string key, .int .u64 ver, .int .i64 og, .int .i64 ag, .bool gn, .string dt]:=fun j v hj=>by
        have e:u7.drew.heap[u5.heap.size]?=_:=RB7.out
        rw [Lib.cell_of_heap e]
        simpa using hj
       have BXD:=Lib.hid BXd;clear BXd
       have STd:=Lib.hid T7.out.drew
       have hlt7:u5.heap.size<u7.heap.size:=by
        rcases Nat.lt_or_ge u5.heap.size u7.heap.size with h | h
        ·exact h
        ·have:=RB7.out;rw [Array.getElem?_eq_none h] at this;cases this
       haveI:Nonempty (WC (fun w=>w.cell? ⟨q,6,none⟩=some (.slice a3 dr.length c3)∧Bx w u5.heap.size [.string key, .int .u64 ver, .int .i64 og, .int .i64 ag, .bool gn, .string dt])):=⟨⟨_,STd.out.cell 6 _ rfl,BXD.out⟩⟩
       have x6:∀ z:WC (fun w=>w.cell? ⟨q,6,none⟩=some (.slice a3 dr.length c3)∧Bx w u5.heap.size [.string key, .int .u64 ver, .int .i64 og, .int .i64 ag, .bool gn, .string dt]),z.val.cell? ⟨q,6,none⟩=some (.slice a3 dr.length c3):=fun z=>z.ok.1
       have k0:∀ z:WC (fun w=>w.cell? ⟨q,6,none⟩=some (.slice a3 dr.length c3)∧Bx w u5.heap.size [.string key, .int .u64 ver, .int .i64 og, .int .i64 ag, .bool gn, .string dt]),z.val.cell? ⟨u5.heap.size,0,none⟩=some (.string key):=fun z=>z.ok.2 0 _ rfl
       have k1:∀ z:WC (fun w=>w.cell? ⟨q,6,none⟩=some (.slice a3 dr.length c3)∧Bx w u5.heap.size [.string key, .int .u64 ver, .int .i64 og, .int .i64 ag, .bool gn, .string dt]),z.val.cell? ⟨u5.heap.size,1,none⟩=some (.int .u64 ver):=fun z=>z.ok.2 1 _ rfl
       have k2:∀ z:WC (fun w=>w.cell? ⟨q,6,none⟩=some (.slice a3 dr.length c3)∧Bx w u5.heap.size [.string key, .int .u64 ver, .int .i64 og, .int .i64 ag, .bool gn, .string dt]),z.val.cell? ⟨u5.heap.size,2,none⟩=some (.int .i64 og):=fun z=>z.ok.2 2 _ rfl
       have k3:∀ z:WC (fun w=>w.cell? ⟨q,6,none⟩=some (.slice a3 dr.length c3)∧Bx w u5.heap.size [.string key, .int .u64 ver, .int .i64 og, .int .i64 ag, .bool gn, .string dt]),z.val.cell? ⟨u5.heap.size,3,none⟩=some (.int .i64 ag):=fun z=>z.ok.2 3 _ rfl
       have k4:∀ z:WC (fun w=>w.cell? ⟨q,6,none⟩=some (.slice a3 dr.length c3)∧Bx w u5.heap.size [.string key, .int .u64 ver, .int .i64 og, .int .i64 ag, .bool gn, .string dt]),z.val.cell? ⟨u5.heap.size,4,none⟩=some (.bool gn):=fun z=>z.ok.2 4 _ rfl
       have k5:∀ z:WC (fun w=>w.cell? ⟨q,6,none⟩=some (.slice a3 dr.length c3)∧Bx w u5.heap.size [.string key, .int .u64 ver, .int .i64 og, .int .i64 ag, .bool gn, .string dt]),z.val.cell? ⟨u5.heap.size,5,none⟩=some (.string dt):=fun z=>z.ok.2 5 _ rfl
       refine wp_region_last 10 [6,7] [] (fun w'=>∃ z:WC (fun w=>w.cell? ⟨q,6,none⟩=some (.slice a3 dr.length c3)∧Bx w u5.heap.size [.string key, .int .u64 ver, .int .i64 og, .int .i64 ag, .bool gn, .string dt]),w'=z.val) (by kernel_rfl) (by kernel_rfl) (fun c a w d v h=>by cases d<;>exact h) (fun c a w d v h=>by cases d<;>exact h) ⟨⟨_,STd.out.cell 6 _ rfl,BXD.out⟩,rfl⟩ ?_
       simp only [List.take]
       repeat (refine wpU_q (by rfl) (by rfl) ?_;go_big_quiet_step (exact rfl);refine wpQuiet_nil ?_)
       refine wpU_e (by rfl) ?_
       go_wp2_with fail
       have T8:=Lib.hid (STd.out.grow ((Fr.refl (fun _=>False) u7.drew).alloc (.cells #[.string key, .int .u64 ver, .int .i64 og, .int .i64 ag, .bool gn, .string dt] 157)) (fun _ h=>h.elim))
       have BX8:=Lib.hid (BXD.out.keep ((Fr.refl (fun _=>False) u7.drew).alloc (.cells #[.string key, .int .u64 ver, .int .i64 og, .int .i64 ag, .bool gn, .string dt] 157)) (fun h=>h))
       refine ⟨⟨⟨_,T8.out.cell 6 _ rfl,BX8.out⟩,rfl⟩,?_⟩
       refine wpU_e (by rfl) ?_
       have hsz:=STd.out.fr.size
       go_wp2_with (at_builtin;refine wpList_append_own _ rfl _ _ 74 rfl W.heap.size 157 i3 (.agg #[.string ⟨#[]⟩, .int .u64 0, .int .i64 0, .int .i64 0, .bool false, .string ⟨#[]⟩]) 6 64 Tryz.underlying74 hl1 hl2 hl3 hl4 rfl (by decide) _ _ _ rfl (HO7.out.drew.alloc _) ⟨u7.drew.heap.size,0,none⟩ 1 1 [.string key, .int .u64 ver, .int .i64 og, .int .i64 ag, .bool gn, .string dt] rfl rfl (news_cells _ #[.string key, .int .u64 ver, .int .i64 og, .int .i64 ag, .bool gn, .string dt] _) (by intro u hu;simp at hu;rcases hu with rfl | rfl | rfl | rfl | rfl | rfl<;>rfl) (by unfold maxLen;omega) (by omega) (by simp;exact Nat.le_succ_of_le hsz) ?_)
       intro v9 w9 ho9 hg9 _
       have g9:=(Fr.refl (fun k=>(Value.slice a3 dr.length c3).ownBlock=some k) _).grown hg9 (fun q hq=> .inl hq)
       have T9:=Lib.hid (T8.out.grow g9 (fun k h=>(HO7.out.lt k h).1))
       have BX9:=Lib.hid (BX8.out.keep g9 (fun h=>N0.out _ h rfl))
       have HO9:=Lib.hid (show w9.ownsRow W.heap.size 157 6 v9 (dr++[(⟨key,ver,og,ag,gn,dt⟩:MRec)]).length ((dr++[(⟨key,ver,og,ag,gn,dt⟩:MRec)]).flatMap MRec.cells) by simpa using ho9)
       have P9:=Lib.hid (own_grown (P7.out.drew.alloc (.cells #[.string key, .int .u64 ver, .int .i64 og, .int .i64 ag, .bool gn, .string dt] 157)) hg9 (own_sep P7.out HO7.out (by decide)))
       have Q9:=Lib.hid (own_grown (Q7.out.drew.alloc (.cells #[.string key, .int .u64 ver, .int .i64 og, .int .i64 ag, .bool gn, .string dt] 157)) hg9 (own_sep Q7.out HO7.out (by decide)))
       obtain ⟨a9,c9,rfl, -, -, -⟩:=SlA.of_own ho9
       clear ho9 hg9 g9
       go_wp2_with fail
       refine ⟨⟨⟨_,T9.out.cell 6 _ rfl,BX9.out⟩,rfl⟩,?_⟩
       repeat (refine wpU_q (by rfl) (by rfl) ?_;go_big_quiet_step (exact rfl);refine wpQuiet_nil ?_)
       refine wpU_nil ?_
       simp only [lastQ,List.drop]
       clear x6 k0 k1 k2 k3 k4 k5
       have y4:=T9.out.cell 6 _ rfl
       have z4:=T9.out.z 6
       have fs:=(Fr.refl (fun k=>k=q) w9).setCell (p:=⟨q,6,none⟩) (.inl rfl) (.slice a9 (dr.length+1) c9)
       have T10:=Lib.hid (T9.out.set 6 (.slice a9 (dr.length+1) c9))
       have HO10:=Lib.hid (own_q HO9.out fs hlq)
       have P10:=Lib.hid (own_q P9.out fs hlq)
       have Q10:=Lib.hid (own_q Q9.out fs hlq)
       clear fs
       have HR10:Hid (R=(pMany pRec (cr-(dr.length+1)) s6).bind fun rest l=>K3 (dr++[(⟨key,ver,og,ag,gn,dt⟩:MRec)]++rest) l):=Lib.hid (by
        rw [HR.out,HD2.out]
        simp only [PR.bind]
        cases pMany pRec d s6<;>simp)
       go_wp2_with fail
       go_roundw
       case rel=>exact ⟨dr.length+1,dr++[(⟨key,ver,og,ag,gn,dt⟩:MRec)],_,s6,by go_num,by omega,by simp,T10.out,P10.out,Q10.out,HO10.out,fun e=>absurd e (by simp),HR10.out⟩
       case measure=>simp [intOf];omega
      ·obtain rfl:dr.length=cr:=by omega
       rw [Nat.sub_self] at hR
       have hR2:R= .ok ⟨k,n,wk,hi,done,dn,dr⟩ r:=by
        rw [hR]
        simp only [pMany,PR.bind,List.append_nil]
        rw [HK3.out]
       have P:=Lib.hid (RdSt.fin ST.out O1.out O2.out HO.out Z2.out Z3.out hR2)
       clear hR hR2 hjn
       go_wp2_with fail
       go_end0
       exact P.out
end
section
open Go.RowKit Go.Proofs
abbrev msgZeroV:Value:= .agg #[.int .i64 0, .int .i64 0, .int .i64 0, .bool false, .slice none 0 0, .slice none 0 0, .slice none 0 0]
def DecPost (l:List UInt8) (W:World) (e:Ending) (w':World):Prop:=
 Gr W w'∧match Msg.dec l with
  | .ok m _=>∃ p,e= .returned (.tuple #[m.val p, .int .i64 0])∧MsgOwn W.heap.size w' m p
  | .ref c=>e= .returned (.tuple #[msgZeroV, .int .i64 c])
def RdG (l:List UInt8) (B q:Nat) (x:ROut) (w':World):Prop:=
 match pMsg l with
  | .ok m r=>x= .ok ⟨r.toArray⟩∧∃ p,w'.heap[q]?=some (.cells (m.arr p) 76 (0,0))∧MsgOwn B w' m p
  | .ref c=>x= .ref c
theorem packRead_msg (l:List UInt8) (q:Nat) (W:World) (hl:l.length≤9223372036854775807) (hq:q<W.heap.size) (hb:W.heap[q]?=some (.cells (Msg.zero.arr MsgP.zero) 76 (0,0))):
  Calls Tryz.prog 126 #[.string ⟨l.toArray⟩, .func (.func 127) #[.pointer (some ⟨q,0,none⟩)] #[]] W fun e w'=>∃ w0 x,RdG l (W.heap.size+4) q x w0∧e=x.ending∧Fr (fun k=>k=W.heap.size+3) w0 w'∧W.heap.size≤w0.heap.size∧Fr (fun k=>W.heap.size≤k∨k=q) W w':=by
 refine packReadM_any ⟨l.toArray⟩ 127 (.pointer (some ⟨q,0,none⟩)) W (fun k=>k=q) (RdG l (W.heap.size+4) q) (by rw [mk_size];exact hl) (fun a w=>enters_fn Tryz.func127 (by kernel_rfl) rfl _ w) (fun k h=>h▸hq) (fun w hfw hsz hrd=>?_)
 refine (read_any (W.heap.size+1) q l w ⟨by rw [hfw.block q hq (fun h=>h)];exact hb,hrd,Fr.refl _ _,by omega,by omega,by omega⟩).mono ?_
 rintro e w' ⟨f,h⟩
 refine ⟨f.mono (fun k _ hk=>by rcases hk with hk | hk;left;unfold wS;omega;right;exact hk),?_⟩
 unfold RdG
 cases hp:pMsg l with
 | ref c=>
  rw [hp] at h
  obtain ⟨hc,rfl⟩:=h
  exact ⟨_, .ref c hc,rfl⟩
 | ok m r=>
  rw [hp] at h
  obtain ⟨rfl,hr,p,h1,h2⟩:=h
  exact ⟨_, .ok _ hr,rfl,p,h1,h2.base hsz⟩
theorem fr_stores7 {S:Nat→Prop} {a w:World} (h:Fr S a w) {n:Nat} (hn:S n) (v0 v1 v2 v3 v4 v5 v6:Value):
  Fr S a (((((((w.setCell ⟨n,0,none⟩ v0).setCell ⟨n,1,none⟩ v1).setCell ⟨n,2,none⟩ v2).setCell ⟨n,3,none⟩ v3).setCell ⟨n,4,none⟩ v4).setCell ⟨n,5,none⟩ v5).setCell ⟨n,6,none⟩ v6):=
 ((((((h.setCell (p:=⟨n,0,none⟩) (.inl hn) _).setCell (p:=⟨n,1,none⟩) (.inl hn) _).setCell (p:=⟨n,2,none⟩) (.inl hn) _).setCell (p:=⟨n,3,none⟩) (.inl hn) _).setCell (p:=⟨n,4,none⟩) (.inl hn) _).setCell (p:=⟨n,5,none⟩) (.inl hn) _).setCell (p:=⟨n,6,none⟩) (.inl hn) _
theorem decode_any (l:List UInt8) (hl:l.length≤9223372036854775807) (W:World):Calls Tryz.prog 109 #[.string ⟨l.toArray⟩] W (DecPost l W):=by
 have hmf:∀ (fn:Fn) (first cap:Array Value) (w:World),(Instr.makeFunc fn first cap).run Tryz.prog w= .ok (.func fn first cap) w:=fun _ _ _ _=>rfl
 have hsz:=mk_size l
 by_cases h4:4096<l.length
 ·have hd:Msg.dec l= .ref 3:=by unfold Msg.dec;rw [if_pos h4]
  have HD:=Lib.hid hd
  clear hd
  go_enter Tryz.func109,Tryz.ntmps109
  go_wp2_with fail
  refine bodyPost_ret (v:= .tuple #[msgZeroV, .int .i64 3]) (by simp [results,Tryz.results109,go_sem]) rfl ⟨?_,?_⟩
  ·exact (Fr.refl _ _).alloc _
  ·rw [HD.out]
 ·obtain ⟨w1,hw1⟩:∃ w1,w1=(W.alloc (.cells (Msg.zero.arr MsgP.zero) 76)).alloc (.cells (Msg.zero.arr MsgP.zero) 76):=⟨_,rfl⟩
  have hs1:w1.heap.size=W.heap.size+2:=by rw [hw1];simp
  have hf1:Gr W w1:=by rw [hw1];exact ((Fr.refl _ _).alloc _).alloc _
  have hq:w1.heap[W.heap.size+1]?=some (.cells (Msg.zero.arr MsgP.zero) 76 (0,0)):=by rw [hw1,heap_alloc_if,if_pos (by simp)]
  have ht:w1.heap[W.heap.size]?=some (.cells (Msg.zero.arr MsgP.zero) 76 (0,0)):=by rw [hw1,heap_alloc_if,if_neg (by simp),heap_alloc_if,if_pos rfl]
  have HC:=Lib.hid (packRead_msg l (W.heap.size+1) w1 hl (by omega) hq)
  have HF1:=Lib.hid hf1;clear hf1
  have HT:=Lib.hid ht;clear ht
  have HW1:=Lib.hid hw1;clear hw1
  clear hq
  go_enter Tryz.func109,Tryz.ntmps109
  go_wp2_with fail
  have hw1':w1=(W.alloc (.cells #[.int .i64 0, .int .i64 0, .int .i64 0, .bool false, .slice none 0 0, .slice none 0 0, .slice none 0 0] 76)).alloc (.cells #[.int .i64 0, .int .i64 0, .int .i64 0, .bool false, .slice none 0 0, .slice none 0 0, .slice none 0 0] 76):=HW1.out
  rw [←hw1']
  clear hw1'
  refine HC.out.mono ?_
  rintro e w3 ⟨w0,x,hg,rfl,hf3,hs3,hf4⟩
  have ht3:w3.heap[W.heap.size]?=some (.cells (Msg.zero.arr MsgP.zero) 76 (0,0)):=by
   rw [hf4.block _ (by omega) (by omega)];exact HT.out
  have FR:=Lib.hid ((HF1.out.mono (T:=fun k=>W.heap.size≤k) (fun k _ h=>h.elim)).trans hf4 (by intro k hk;left;omega))
  have t0:w3.cell? ⟨W.heap.size,0,none⟩=some (.int .i64 0):=by rw [Lib.cell_of_heap ht3];rfl
  have t1:w3.cell? ⟨W.heap.size,1,none⟩=some (.int .i64 0):=by rw [Lib.cell_of_heap ht3];rfl
  have t2:w3.cell? ⟨W.heap.size,2,none⟩=some (.int .i64 0):=by rw [Lib.cell_of_heap ht3];rfl
  have t3:w3.cell? ⟨W.heap.size,3,none⟩=some (.bool false):=by rw [Lib.cell_of_heap ht3];rfl
  have t4:w3.cell? ⟨W.heap.size,4,none⟩=some (.slice none 0 0):=by rw [Lib.cell_of_heap ht3];rfl
  have t5:w3.cell? ⟨W.heap.size,5,none⟩=some (.slice none 0 0):=by rw [Lib.cell_of_heap ht3];rfl
  have t6:w3.cell? ⟨W.heap.size,6,none⟩=some (.slice none 0 0):=by rw [Lib.cell_of_heap ht3];rfl
  have z:∀ j,w3.frozen? ⟨W.heap.size,j,none⟩=false:=Lib.frozen_of_heap ht3
  unfold RdG at hg
  cases hp:pMsg l with
  | ref c=>
   rw [hp] at hg
   subst hg
   have hd:Msg.dec l= .ref c:=by unfold Msg.dec;rw [if_neg h4,hp]
   have HD:=Lib.hid hd
   have hc:c≠0:=by rcases tight_msg.2.2.2 _ _ hp with h | h<;>omega
   clear hd hp ht3 hf3 hf4
   show (match ROut.ending (ROut.ref c),w3 with | _,_=>_)
   unfold ROut.ending
   go_wp2_with fail
   refine bodyPost_ret (v:= .tuple #[msgZeroV, .int .i64 c]) (by simp [results,Tryz.results109,go_sem,t0,t1,t2,t3,t4,t5,t6]) rfl ⟨?_,?_⟩
   ·exact Fr.mono (S:=fun k=>W.heap.size≤k) (fr_stores7 FR.out (Nat.le_refl _) _ _ _ _ _ _ _) (fun k hk h=>by omega)
   ·rw [HD.out]
  | ok m r=>
   rw [hp] at hg
   obtain ⟨rfl,p,hb,ho⟩:=hg
   by_cases hr:r=[]
   ·have hb3:w3.heap[W.heap.size+1]?=some (.cells (m.arr p) 76 (0,0)):=by
     rw [hf3.block _ (by omega) (by omega)];exact hb
    have HO:=Lib.hid ((ho.keep hf3 (fun k h=>by omega)).base (B':=W.heap.size+1) (by omega))
    have HM:=Lib.hid (may_any m p)
    have y0:w3.cell? ⟨W.heap.size+1,0,none⟩=some (.int .i64 m.kind):=by rw [Lib.cell_of_heap hb3];rfl
    have y1:w3.cell? ⟨W.heap.size+1,1,none⟩=some (.int .i64 m.node):=by rw [Lib.cell_of_heap hb3];rfl
    have y2:w3.cell? ⟨W.heap.size+1,2,none⟩=some (.int .i64 m.walk):=by rw [Lib.cell_of_heap hb3];rfl
    have y3:w3.cell? ⟨W.heap.size+1,3,none⟩=some (.bool m.high):=by rw [Lib.cell_of_heap hb3];rfl
    have y4:w3.cell? ⟨W.heap.size+1,4,none⟩=some (.slice p.a1 m.nodes.length p.c1):=by rw [Lib.cell_of_heap hb3];rfl
    have y5:w3.cell? ⟨W.heap.size+1,5,none⟩=some (.slice p.a2 m.ids.length p.c2):=by rw [Lib.cell_of_heap hb3];rfl
    have y6:w3.cell? ⟨W.heap.size+1,6,none⟩=some (.slice p.a3 m.recs.length p.c3):=by rw [Lib.cell_of_heap hb3];rfl
    have hx:ROut.ending (ROut.ok ⟨r.toArray⟩)= .returned (.int .i64 0):=by subst hr;rfl
    have hd:Msg.dec l=if m.may=true then .ok m [] else .ref 4:=by unfold Msg.dec;rw [if_neg h4,hp];simp only;rw [if_pos hr]
    have hlt:W.heap.size+1<w3.heap.size:=by
     have:=hf4.size;omega
    have TB:=Lib.hid ht3
    have QB:=Lib.hid hb3
    clear hp ht3 hf3 hf4 hb ho hb3
    rw [hx]
    clear hx hr
    cases hmay:m.may
    ·rw [hmay] at HM hd
     have HD:=Lib.hid hd
     clear hd hmay
     go_wp2_with fail
     refine (HM.out _ HO.out.at).mono ?_
     rintro e w4 ⟨rfl,f4⟩
     have tb:=TB.out
     rw [←f4.block _ (by omega) (fun h=>h)] at tb
     have FR4:=Lib.hid (FR.out.trans f4 (fun _ h=>h.elim))
     clear f4 t0 t1 t2 t3 t4 t5 t6 z y0 y1 y2 y3 y4 y5 y6
     have t0:w4.cell? ⟨W.heap.size,0,none⟩=some (.int .i64 0):=by rw [Lib.cell_of_heap tb];rfl
     have t1:w4.cell? ⟨W.heap.size,1,none⟩=some (.int .i64 0):=by rw [Lib.cell_of_heap tb];rfl
     have t2:w4.cell? ⟨W.heap.size,2,none⟩=some (.int .i64 0):=by rw [Lib.cell_of_heap tb];rfl
     have t3:w4.cell? ⟨W.heap.size,3,none⟩=some (.bool false):=by rw [Lib.cell_of_heap tb];rfl
     have t4:w4.cell? ⟨W.heap.size,4,none⟩=some (.slice none 0 0):=by rw [Lib.cell_of_heap tb];rfl
     have t5:w4.cell? ⟨W.heap.size,5,none⟩=some (.slice none 0 0):=by rw [Lib.cell_of_heap tb];rfl
     have t6:w4.cell? ⟨W.heap.size,6,none⟩=some (.slice none 0 0):=by rw [Lib.cell_of_heap tb];rfl
     have z:∀ j,w4.frozen? ⟨W.heap.size,j,none⟩=false:=Lib.frozen_of_heap tb
     clear tb
     go_wp2_with fail
     refine bodyPost_ret (v:= .tuple #[msgZeroV, .int .i64 4]) (by simp [results,Tryz.results109,go_sem,t0,t1,t2,t3,t4,t5,t6]) rfl ⟨?_,?_⟩
     ·exact Fr.mono (S:=fun k=>W.heap.size≤k) (fr_stores7 FR4.out (Nat.le_refl _) _ _ _ _ _ _ _) (fun k hk h=>by omega)
     ·rw [HD.out];rfl
    ·rw [hmay] at HM hd
     have HD:=Lib.hid hd
     clear hd hmay
     go_wp2_with fail
     refine (HM.out _ HO.out.at).mono ?_
     rintro e w4 ⟨rfl,f4⟩
     have tb:=TB.out
     rw [←f4.block _ (by omega) (fun h=>h)] at tb
     have qb:=QB.out
     rw [←f4.block _ (by omega) (fun h=>h)] at qb
     have FR4:=Lib.hid (FR.out.trans f4 (fun _ h=>h.elim))
     have HO4:=Lib.hid (HO.out.keep f4 (fun _ h=>h.elim))
     clear f4 t0 t1 t2 t3 t4 t5 t6 z y0 y1 y2 y3 y4 y5 y6
     have t0:w4.cell? ⟨W.heap.size,0,none⟩=some (.int .i64 0):=by rw [Lib.cell_of_heap tb];rfl
     have t1:w4.cell? ⟨W.heap.size,1,none⟩=some (.int .i64 0):=by rw [Lib.cell_of_heap tb];rfl
     have t2:w4.cell? ⟨W.heap.size,2,none⟩=some (.int .i64 0):=by rw [Lib.cell_of_heap tb];rfl
     have t3:w4.cell? ⟨W.heap.size,3,none⟩=some (.bool false):=by rw [Lib.cell_of_heap tb];rfl
     have t4:w4.cell? ⟨W.heap.size,4,none⟩=some (.slice none 0 0):=by rw [Lib.cell_of_heap tb];rfl
     have t5:w4.cell? ⟨W.heap.size,5,none⟩=some (.slice none 0 0):=by rw [Lib.cell_of_heap tb];rfl
     have t6:w4.cell? ⟨W.heap.size,6,none⟩=some (.slice none 0 0):=by rw [Lib.cell_of_heap tb];rfl
     have z:∀ j,w4.frozen? ⟨W.heap.size,j,none⟩=false:=Lib.frozen_of_heap tb
     have y0:w4.cell? ⟨W.heap.size+1,0,none⟩=some (.int .i64 m.kind):=by rw [Lib.cell_of_heap qb];rfl
     have y1:w4.cell? ⟨W.heap.size+1,1,none⟩=some (.int .i64 m.node):=by rw [Lib.cell_of_heap qb];rfl
     have y2:w4.cell? ⟨W.heap.size+1,2,none⟩=some (.int .i64 m.walk):=by rw [Lib.cell_of_heap qb];rfl
     have y3:w4.cell? ⟨W.heap.size+1,3,none⟩=some (.bool m.high):=by rw [Lib.cell_of_heap qb];rfl
     have y4:w4.cell? ⟨W.heap.size+1,4,none⟩=some (.slice p.a1 m.nodes.length p.c1):=by rw [Lib.cell_of_heap qb];rfl
     have y5:w4.cell? ⟨W.heap.size+1,5,none⟩=some (.slice p.a2 m.ids.length p.c2):=by rw [Lib.cell_of_heap qb];rfl
     have y6:w4.cell? ⟨W.heap.size+1,6,none⟩=some (.slice p.a3 m.recs.length p.c3):=by rw [Lib.cell_of_heap qb];rfl
     clear tb qb
     go_wp2_with fail
     refine bodyPost_ret (v:= .tuple #[m.val p, .int .i64 0]) (by simp [results,Tryz.results109,go_sem,t0,t1,t2,t3,t4,t5,t6,Msg.val]) rfl ⟨?_,?_⟩
     ·exact Fr.mono (S:=fun k=>W.heap.size≤k) (fr_stores7 FR4.out (Nat.le_refl _) _ _ _ _ _ _ _) (fun k hk h=>by omega)
     ·rw [HD.out]
      exact ⟨p,rfl,(HO4.out.keep (S:=fun k=>k=W.heap.size) (fr_stores7 (Fr.refl (fun k=>k=W.heap.size) _) rfl _ _ _ _ _ _ _) (fun k h=>by omega)).base (by omega)⟩
   ·have hx:ROut.ending (ROut.ok ⟨r.toArray⟩)= .returned (.int .i64 3):=by
     unfold ROut.ending
     have:(ByteArray.mk r.toArray).size≠0:=by
      rw [mk_size];intro h;exact hr (List.eq_nil_of_length_eq_zero h)
     simp [this]
    have hd:Msg.dec l= .ref 3:=by unfold Msg.dec;rw [if_neg h4,hp];simp only;rw [if_neg hr]
    have HD:=Lib.hid hd
    clear hd hp ht3 hf3 hf4 hb ho
    rw [hx]
    clear hx hr
    go_wp2_with fail
    refine bodyPost_ret (v:= .tuple #[msgZeroV, .int .i64 3]) (by simp [results,Tryz.results109,go_sem,t0,t1,t2,t3,t4,t5,t6]) rfl ⟨?_,?_⟩
    ·exact Fr.mono (S:=fun k=>W.heap.size≤k) (fr_stores7 FR.out (Nat.le_refl _) _ _ _ _ _ _ _) (fun k hk h=>by omega)
    ·rw [HD.out]
end
end Go.Proofs.YtelepohdfcjnfaaGreat
