/-
  Package stream: fail, Bad, Left, next.
-/
import Derived.Test.YtelepohdfcjnfaaGreatZStrFrame
import Derived.Test.YtelepohdfcjnfaaGreatZRegionW
import Derived.IntWalk
import Derived.Laws.BitsLemmas
import Derived.Deep.AppendLies
import Derived.Deep.CutBlock
import Derived.Deep.CutRange
namespace Go.Proofs.YtelepohdfcjnfaaGreat
set_option maxHeartbeats 4000000
set_option maxRecDepth 100000
section
open Go.RowKit Go.Proofs
def SplAt (w:World) (q:Nat) (s:List UInt8) (c:Int):Prop:=w.heap[q]?=some (.cells #[.string ⟨s.toArray⟩, .int .i64 c] 47 (0,0))
theorem SplAt.s {w:World} {q:Nat} {s:List UInt8} {c:Int} (h:SplAt w q s c):w.cell? ⟨q,0,none⟩=some (.string ⟨s.toArray⟩):=by rw [Lib.cell_of_heap h];rfl
theorem SplAt.c {w:World} {q:Nat} {s:List UInt8} {c:Int} (h:SplAt w q s c):w.cell? ⟨q,1,none⟩=some (.int .i64 c):=by rw [Lib.cell_of_heap h];rfl
theorem SplAt.z {w:World} {q:Nat} {s:List UInt8} {c:Int} (h:SplAt w q s c) (j:Nat):w.frozen? ⟨q,j,none⟩=false:=Lib.frozen_of_heap h j
theorem SplAt.lt {w:World} {q:Nat} {s:List UInt8} {c:Int} (h:SplAt w q s c):q<w.heap.size:=(Array.getElem?_eq_some_iff.1 h).1
theorem SplAt.keep {S:Nat→Prop} {w w':World} {q:Nat} {s:List UInt8} {c:Int} (h:SplAt w q s c) (f:Fr S w w') (hS:¬ S q):SplAt w' q s c:=by
 unfold SplAt;rw [f.block q h.lt hS];exact h
theorem SplAt.set {w:World} {q:Nat} {s:List UInt8} {c:Int} (h:SplAt w q s c) (t:List UInt8):SplAt (w.setCell ⟨q,0,none⟩ (.string ⟨t.toArray⟩)) q t c:=by
 have:=heap_set1 h 0 (.string ⟨t.toArray⟩)
 simp only [List.setIfInBounds_toArray,List.set_cons_zero] at this
 exact this
theorem SplAt.setc {w:World} {q:Nat} {s:List UInt8} {c:Int} (h:SplAt w q s c) (e:Int):SplAt (w.setCell ⟨q,1,none⟩ (.int .i64 e)) q s e:=by
 have:=heap_set1 h 1 (.int .i64 e)
 simp only [List.setIfInBounds_toArray,List.set_cons_zero,List.set_cons_succ] at this
 exact this
theorem splFail_any {W:World} {q:Nat} {s:List UInt8} {c:Int} (h:SplAt W q s c) (e:Int):
  Calls Tryz.prog 108 #[.pointer (some ⟨q,0,none⟩), .int .i64 e] W fun r w'=>r= .returned (.tuple #[])∧SplAt w' q [] e∧Fr (· =q) W w':=by
 have H:=Lib.hid h
 have y0:=h.s
 have y1:=h.c
 have z0:=h.z 0
 have z1:=h.z 1
 clear h
 go_enter Tryz.func108,Tryz.ntmps108
 go_wp2_with fail
 go_end0
 exact ⟨rfl,(H.out.set []).setc e,((Fr.refl (· =q) W).setCell (p:=⟨q,0,none⟩) (.inl rfl) _).setCell (p:=⟨q,1,none⟩) (.inl rfl) _⟩
theorem splBad_any {W:World} {q:Nat} {s:List UInt8} {c:Int} (h:SplAt W q s c):
  Calls Tryz.prog 41 #[.pointer (some ⟨q,0,none⟩)] W fun r w'=>r= .returned (.int .i64 c)∧W=w':=by
 have y1:=h.c
 clear h
 go_enter Tryz.func41,Tryz.ntmps41
 go_wp2_with fail
 go_ret
 exact ⟨rfl,rfl⟩
def NextPost (W:World) (q:Nat) (r:Option Msg×List UInt8×Int) (e:Ending) (w':World):Prop:=
 Fr (· =q) W w'∧SplAt w' q r.2.1 r.2.2∧match r.1 with
 | none=>e= .returned (.tuple #[msgZeroV, .bool false])
 | some m=>∃ p,e= .returned (.tuple #[m.val p, .bool true])∧MsgOwn W.heap.size w' m p
theorem next_short {W:World} {q:Nat} {s:List UInt8} (h:SplAt W q s 0) (hs:s.length<2):
  Calls Tryz.prog 63 #[.pointer (some ⟨q,0,none⟩)] W (NextPost W q (none,s,0)):=by
 have H:=Lib.hid h
 have y0:=h.s
 have y1:=h.c
 have hq:=h.lt
 have hsz:=mk_size s
 clear h
 go_enter Tryz.func63,Tryz.ntmps63
 go_wp2_with fail
 exact bodyPost_ret (v:= .tuple #[msgZeroV, .bool false]) (by simp [results,Tryz.results63,go_sem]) rfl ⟨(Fr.refl _ _).alloc _,H.out.keep ((Fr.refl (fun _=>False) _).alloc _) (fun h=>h),rfl⟩
theorem index_at (s:ByteArray) (k:Nat) (hk:k<s.size) (w:World):(Instr.index 9 (.string s) (.int .i64 k)).run Tryz.prog w= .ok (.int .u8 s[k].toNat) w:=by
 rw [run_index_string (h:=Tryz.underlying9),dif_pos ⟨by omega,by omega⟩]
 simp
theorem be2 (a b:UInt8):bits .or .i64 ((a.toNat:Int) * 256) (b.toNat:Int)=((256 * a.toNat+b.toNat:Nat):Int):=by
 have ha:=a.toNat_lt
 have hb:=b.toNat_lt
 have e:((a.toNat:Int) * 256)=((a.toNat * 256:Nat):Int):=by simp
 rw [e,(bits_nat .i64 62 (by decide) (fun n h0 h1=>IntWalk.i64_in n ⟨by omega,by omega⟩) _ _ (by omega) (by omega)).2]
 have:=Nat.two_pow_add_eq_or_of_lt (i:=8) (b:=b.toNat) (by omega) a.toNat
 rw [Nat.mul_comm a.toNat 256]
 rw [show (2:Nat) ^ 8=256 from rfl] at this
 rw [this]
theorem next_great {W:World} {q:Nat} {a b:UInt8} {r:List UInt8} (h:SplAt W q (a::b::r) 0) (hl:r.length≤1000000000) (hs:4096<256 * a.toNat+b.toNat):
  Calls Tryz.prog 63 #[.pointer (some ⟨q,0,none⟩)] W (NextPost W q (none,[],3)):=by
 have H:=Lib.hid h
 have y0:=h.s
 have y1:=h.c
 have hq:=h.lt
 have hsz:(ByteArray.mk (a::b::r).toArray).size=r.length+2:=by rw [mk_size];rfl
 have hge:(((r.length+2:Nat):Int)<2)=False:=by simp;omega
 have i0:∀ w,(Instr.index 9 (.string ⟨(a::b::r).toArray⟩) (.int .i64 0)).run Tryz.prog w= .ok (.int .u8 a.toNat) w:=fun w=>index_at _ 0 (by omega) w
 have i1:∀ w,(Instr.index 9 (.string ⟨(a::b::r).toArray⟩) (.int .i64 1)).run Tryz.prog w= .ok (.int .u8 b.toNat) w:=fun w=>index_at _ 1 (by omega) w
 have ha0:(0:Int)≤(a.toNat:Int):=by omega
 have ha1:(a.toNat:Int)<256:=by have:=a.toNat_lt;omega
 have hb0:(0:Int)≤(b.toNat:Int):=by omega
 have hb1:(b.toNat:Int)<256:=by have:=b.toNat_lt;omega
 have hor:=be2 a b
 clear h
 generalize 256 * a.toNat+b.toNat=n at *
 have hn:(4096:Int)<(n:Int):=by omega
 go_enter Tryz.func63,Tryz.ntmps63
 go_wp2_with fail
 go_region
 go_wp2_with fail
 refine (splFail_any (H.out.keep (((Fr.refl (fun _=>False) W).alloc _).drew) (fun h=>h)) 3).mono ?_
 rintro e w2 ⟨rfl,s2,f2⟩
 have tb:w2.heap[W.heap.size]?=some (.cells (Msg.zero.arr MsgP.zero) 76 (0,0)):=by
  rw [f2.block _ (by simp) (by omega)];show (W.alloc _).heap[W.heap.size]?=_;rw [heap_alloc_if,if_pos rfl];rfl
 have t0:w2.cell? ⟨W.heap.size,0,none⟩=some (.int .i64 0):=by rw [Lib.cell_of_heap tb];rfl
 have t1:w2.cell? ⟨W.heap.size,1,none⟩=some (.int .i64 0):=by rw [Lib.cell_of_heap tb];rfl
 have t2:w2.cell? ⟨W.heap.size,2,none⟩=some (.int .i64 0):=by rw [Lib.cell_of_heap tb];rfl
 have t3:w2.cell? ⟨W.heap.size,3,none⟩=some (.bool false):=by rw [Lib.cell_of_heap tb];rfl
 have t4:w2.cell? ⟨W.heap.size,4,none⟩=some (.slice none 0 0):=by rw [Lib.cell_of_heap tb];rfl
 have t5:w2.cell? ⟨W.heap.size,5,none⟩=some (.slice none 0 0):=by rw [Lib.cell_of_heap tb];rfl
 have t6:w2.cell? ⟨W.heap.size,6,none⟩=some (.slice none 0 0):=by rw [Lib.cell_of_heap tb];rfl
 have z:∀ j,w2.frozen? ⟨W.heap.size,j,none⟩=false:=Lib.frozen_of_heap tb
 have TB:=Lib.hid tb
 clear tb
 have F2:=Lib.hid (Fr.trans ((((Fr.refl (fun k=>k=q∨W.heap.size≤k) W).alloc (.cells (Msg.zero.arr MsgP.zero) 76))).drew) f2 (fun k h=> .inl (.inl h)))
 have S2:=Lib.hid s2
 clear f2 s2 y0 y1 i0 i1
 go_wp2_with fail
 refine bodyPost_ret (v:= .tuple #[msgZeroV, .bool false]) (by simp [results,Tryz.results63,go_sem,t0,t1,t2,t3,t4,t5,t6]) rfl ⟨?_,?_,rfl⟩
 ·exact Fr.mono (fr_stores7 F2.out (.inr (Nat.le_refl _)) _ _ _ _ _ _ _) (fun k hk h=>by rcases h with h | h;exact h;omega)
 ·exact S2.out.keep (fr_stores7 (Fr.refl (fun k=>k=W.heap.size) _) rfl _ _ _ _ _ _ _) (by omega)
theorem next_wait {W:World} {q:Nat} {a b:UInt8} {r:List UInt8} (h:SplAt W q (a::b::r) 0) (hl:r.length≤1000000000) (hs:¬ 4096<256 * a.toNat+b.toNat) (hw:r.length<256 * a.toNat+b.toNat):
  Calls Tryz.prog 63 #[.pointer (some ⟨q,0,none⟩)] W (NextPost W q (none,a::b::r,0)):=by
 have H:=Lib.hid h
 have y0:=h.s
 have y1:=h.c
 have hq:=h.lt
 have hsz:(ByteArray.mk (a::b::r).toArray).size=r.length+2:=by rw [mk_size];rfl
 have hge:(((r.length+2:Nat):Int)<2)=False:=by simp;omega
 have i0:∀ w,(Instr.index 9 (.string ⟨(a::b::r).toArray⟩) (.int .i64 0)).run Tryz.prog w= .ok (.int .u8 a.toNat) w:=fun w=>index_at _ 0 (by omega) w
 have i1:∀ w,(Instr.index 9 (.string ⟨(a::b::r).toArray⟩) (.int .i64 1)).run Tryz.prog w= .ok (.int .u8 b.toNat) w:=fun w=>index_at _ 1 (by omega) w
 have ha0:(0:Int)≤(a.toNat:Int):=by omega
 have ha1:(a.toNat:Int)<256:=by have:=a.toNat_lt;omega
 have hb0:(0:Int)≤(b.toNat:Int):=by omega
 have hb1:(b.toNat:Int)<256:=by have:=b.toNat_lt;omega
 have hor:=be2 a b
 clear h
 generalize 256 * a.toNat+b.toNat=n at *
 have hn:(n:Int)≤4096:=by omega
 have hw':(r.length:Int)+2<2+(n:Int):=by omega
 go_enter Tryz.func63,Tryz.ntmps63
 go_wp2_with fail
 go_region
 go_wp2_with fail
 exact bodyPost_ret (v:= .tuple #[msgZeroV, .bool false]) (by simp [results,Tryz.results63,go_sem]) rfl ⟨((Fr.refl _ _).alloc _).drew,H.out.keep (((Fr.refl (fun _=>False) _).alloc _).drew) (fun h=>h),rfl⟩
theorem next_bad {W:World} {q:Nat} {a b:UInt8} {r:List UInt8} (h:SplAt W q (a::b::r) 0) (hl:r.length≤1000000000) (hs:¬ 4096<256 * a.toNat+b.toNat) (hw:256 * a.toNat+b.toNat≤r.length) {c:Int} (hd:Msg.dec (r.take (256 * a.toNat+b.toNat))= .ref c):
  Calls Tryz.prog 63 #[.pointer (some ⟨q,0,none⟩)] W (NextPost W q (none,[],c)):=by
 have H:=Lib.hid h
 have y0:=h.s
 have y1:=h.c
 have hq:=h.lt
 have hsz:(ByteArray.mk (a::b::r).toArray).size=r.length+2:=by rw [mk_size];rfl
 have hge:(((r.length+2:Nat):Int)<2)=False:=by simp;omega
 have i0:∀ w,(Instr.index 9 (.string ⟨(a::b::r).toArray⟩) (.int .i64 0)).run Tryz.prog w= .ok (.int .u8 a.toNat) w:=fun w=>index_at _ 0 (by omega) w
 have i1:∀ w,(Instr.index 9 (.string ⟨(a::b::r).toArray⟩) (.int .i64 1)).run Tryz.prog w= .ok (.int .u8 b.toNat) w:=fun w=>index_at _ 1 (by omega) w
 have ha0:(0:Int)≤(a.toNat:Int):=by omega
 have ha1:(a.toNat:Int)<256:=by have:=a.toNat_lt;omega
 have hb0:(0:Int)≤(b.toNat:Int):=by omega
 have hb1:(b.toNat:Int)<256:=by have:=b.toNat_lt;omega
 have hor:=be2 a b
 clear h
 have HD:=Lib.hid hd;clear hd
 generalize 256 * a.toNat+b.toNat=n at *
 have hn:(n:Int)≤4096:=by omega
 have hw':2+(n:Int)≤(r.length:Int)+2:=by omega
 have hx:(ByteArray.mk (a::b::r).toArray).extract 2 (2+n)=⟨(r.take n).toArray⟩:=by rw [mk_extract,Nat.add_comm 2 n];rfl
 have hx2:(ByteArray.mk (a::b::r).toArray).extract (2+n) (r.length+2)=⟨(r.drop n).toArray⟩:=by
  rw [mk_extract,Nat.add_comm 2 n,List.take_of_length_le (by simp)];rfl
 go_enter Tryz.func63,Tryz.ntmps63
 go_wp2_with fail
 go_region
 go_wp2_with fail
 refine (decode_any (r.take n) (by simp;omega) _).mono ?_
 rintro e w2 ⟨f2,h2⟩
 rw [HD.out] at h2
 simp only at h2
 subst h2
 have hc:(c==0)=false:=by rcases Msg.dec_ref HD.out with h | h | h<;>rw [h]<;>rfl
 have tb:w2.heap[W.heap.size]?=some (.cells (Msg.zero.arr MsgP.zero) 76 (0,0)):=by
  rw [f2.block _ (by simp) (fun h=>h)];show (W.alloc _).heap[W.heap.size]?=_;rw [heap_alloc_if,if_pos rfl];rfl
 have t0:w2.cell? ⟨W.heap.size,0,none⟩=some (.int .i64 0):=by rw [Lib.cell_of_heap tb];rfl
 have t1:w2.cell? ⟨W.heap.size,1,none⟩=some (.int .i64 0):=by rw [Lib.cell_of_heap tb];rfl
 have t2:w2.cell? ⟨W.heap.size,2,none⟩=some (.int .i64 0):=by rw [Lib.cell_of_heap tb];rfl
 have t3:w2.cell? ⟨W.heap.size,3,none⟩=some (.bool false):=by rw [Lib.cell_of_heap tb];rfl
 have t4:w2.cell? ⟨W.heap.size,4,none⟩=some (.slice none 0 0):=by rw [Lib.cell_of_heap tb];rfl
 have t5:w2.cell? ⟨W.heap.size,5,none⟩=some (.slice none 0 0):=by rw [Lib.cell_of_heap tb];rfl
 have t6:w2.cell? ⟨W.heap.size,6,none⟩=some (.slice none 0 0):=by rw [Lib.cell_of_heap tb];rfl
 have z:∀ j,w2.frozen? ⟨W.heap.size,j,none⟩=false:=Lib.frozen_of_heap tb
 have TB:=Lib.hid tb
 clear tb
 have S2:=Lib.hid (H.out.keep (Gr.trans (((Fr.refl (fun _=>False) W).alloc (.cells (Msg.zero.arr MsgP.zero) 76)).drew) f2) (fun h=>h))
 have F2:=Lib.hid (Gr.trans (((Fr.refl (fun _=>False) W).alloc (.cells (Msg.zero.arr MsgP.zero) 76)).drew) f2)
 have hsz2:W.heap.size<w2.heap.size:=by have:=f2.size;simp at this;omega
 clear f2 y0 y1 i0 i1 hx hx2 H
 have y0:=S2.out.s
 have y1:=S2.out.c
 go_wp2_with fail
 refine (splFail_any (S2.out.keep ((Fr.refl (fun _=>False) w2).alloc _) (fun h=>h)) c).mono ?_
 rintro e w3 ⟨rfl,s3,f3⟩
 have F3:=Lib.hid (Fr.trans (Fr.mono (T:=fun k=>k=q∨W.heap.size≤k) (F2.out.alloc (.cells (Msg.zero.arr MsgP.zero) 76)) (fun _ _ h=>h.elim)) f3 (fun k h=> .inl (.inl h)))
 have S3:=Lib.hid s3
 have G3:=Lib.hid (Fr.trans ((Fr.refl (fun k=>k=q) w2).alloc (.cells (Msg.zero.arr MsgP.zero) 76)) f3 (fun k h=> .inl h))
 have TB3:Hid (w3.heap[W.heap.size]?=some (.cells (Msg.zero.arr MsgP.zero) 76 (0,0))):=Lib.hid (by rw [G3.out.block W.heap.size hsz2 (by omega)];exact TB.out)
 clear f3 s3 y0 y1 S2 F2 t0 t1 t2 t3 t4 t5 t6 z TB
 have tb:=TB3.out
 have t0:w3.cell? ⟨W.heap.size,0,none⟩=some (.int .i64 0):=by rw [Lib.cell_of_heap tb];rfl
 have t1:w3.cell? ⟨W.heap.size,1,none⟩=some (.int .i64 0):=by rw [Lib.cell_of_heap tb];rfl
 have t2:w3.cell? ⟨W.heap.size,2,none⟩=some (.int .i64 0):=by rw [Lib.cell_of_heap tb];rfl
 have t3:w3.cell? ⟨W.heap.size,3,none⟩=some (.bool false):=by rw [Lib.cell_of_heap tb];rfl
 have t4:w3.cell? ⟨W.heap.size,4,none⟩=some (.slice none 0 0):=by rw [Lib.cell_of_heap tb];rfl
 have t5:w3.cell? ⟨W.heap.size,5,none⟩=some (.slice none 0 0):=by rw [Lib.cell_of_heap tb];rfl
 have t6:w3.cell? ⟨W.heap.size,6,none⟩=some (.slice none 0 0):=by rw [Lib.cell_of_heap tb];rfl
 have z:∀ j,w3.frozen? ⟨W.heap.size,j,none⟩=false:=Lib.frozen_of_heap tb
 clear tb
 go_wp2_with fail
 refine bodyPost_ret (v:= .tuple #[msgZeroV, .bool false]) (by simp [results,Tryz.results63,go_sem,t0,t1,t2,t3,t4,t5,t6]) rfl ⟨?_,?_,rfl⟩
 ·exact Fr.mono (fr_stores7 F3.out (.inr (Nat.le_refl _)) _ _ _ _ _ _ _) (fun k hk h=>by rcases h with h | h;exact h;omega)
 ·exact S3.out.keep (fr_stores7 (Fr.refl (fun k=>k=W.heap.size) _) rfl _ _ _ _ _ _ _) (by omega)
theorem next_ok {W:World} {q:Nat} {a b:UInt8} {r:List UInt8} (h:SplAt W q (a::b::r) 0) (hl:r.length≤1000000000) (hs:¬ 4096<256 * a.toNat+b.toNat) (hw:256 * a.toNat+b.toNat≤r.length) {m:Msg} {t:List UInt8} (hd:Msg.dec (r.take (256 * a.toNat+b.toNat))= .ok m t):
  Calls Tryz.prog 63 #[.pointer (some ⟨q,0,none⟩)] W (NextPost W q (some m,r.drop (256 * a.toNat+b.toNat),0)):=by
 have H:=Lib.hid h
 have y0:=h.s
 have y1:=h.c
 have hq:=h.lt
 have hsz:(ByteArray.mk (a::b::r).toArray).size=r.length+2:=by rw [mk_size];rfl
 have hge:(((r.length+2:Nat):Int)<2)=False:=by simp;omega
 have i0:∀ w,(Instr.index 9 (.string ⟨(a::b::r).toArray⟩) (.int .i64 0)).run Tryz.prog w= .ok (.int .u8 a.toNat) w:=fun w=>index_at _ 0 (by omega) w
 have i1:∀ w,(Instr.index 9 (.string ⟨(a::b::r).toArray⟩) (.int .i64 1)).run Tryz.prog w= .ok (.int .u8 b.toNat) w:=fun w=>index_at _ 1 (by omega) w
 have ha0:(0:Int)≤(a.toNat:Int):=by omega
 have ha1:(a.toNat:Int)<256:=by have:=a.toNat_lt;omega
 have hb0:(0:Int)≤(b.toNat:Int):=by omega
 have hb1:(b.toNat:Int)<256:=by have:=b.toNat_lt;omega
 have hor:=be2 a b
 clear h
 have HD:=Lib.hid hd;clear hd
 generalize 256 * a.toNat+b.toNat=n at *
 have hn:(n:Int)≤4096:=by omega
 have hw':2+(n:Int)≤(r.length:Int)+2:=by omega
 have hx:(ByteArray.mk (a::b::r).toArray).extract 2 (2+n)=⟨(r.take n).toArray⟩:=by rw [mk_extract,Nat.add_comm 2 n];rfl
 have hx2:(ByteArray.mk (a::b::r).toArray).extract (2+n) (r.length+2)=⟨(r.drop n).toArray⟩:=by
  rw [mk_extract,Nat.add_comm 2 n,List.take_of_length_le (by simp)];rfl
 go_enter Tryz.func63,Tryz.ntmps63
 go_wp2_with fail
 go_region
 go_wp2_with fail
 refine (decode_any (r.take n) (by simp;omega) _).mono ?_
 rintro e w2 ⟨f2,h2⟩
 rw [HD.out] at h2
 obtain ⟨p,rfl,ho⟩:=h2
 have tb:w2.heap[W.heap.size]?=some (.cells (Msg.zero.arr MsgP.zero) 76 (0,0)):=by
  rw [f2.block _ (by simp) (fun h=>h)];show (W.alloc _).heap[W.heap.size]?=_;rw [heap_alloc_if,if_pos rfl];rfl
 have t0:w2.cell? ⟨W.heap.size,0,none⟩=some (.int .i64 0):=by rw [Lib.cell_of_heap tb];rfl
 have t1:w2.cell? ⟨W.heap.size,1,none⟩=some (.int .i64 0):=by rw [Lib.cell_of_heap tb];rfl
 have t2:w2.cell? ⟨W.heap.size,2,none⟩=some (.int .i64 0):=by rw [Lib.cell_of_heap tb];rfl
 have t3:w2.cell? ⟨W.heap.size,3,none⟩=some (.bool false):=by rw [Lib.cell_of_heap tb];rfl
 have t4:w2.cell? ⟨W.heap.size,4,none⟩=some (.slice none 0 0):=by rw [Lib.cell_of_heap tb];rfl
 have t5:w2.cell? ⟨W.heap.size,5,none⟩=some (.slice none 0 0):=by rw [Lib.cell_of_heap tb];rfl
 have t6:w2.cell? ⟨W.heap.size,6,none⟩=some (.slice none 0 0):=by rw [Lib.cell_of_heap tb];rfl
 have z:∀ j,w2.frozen? ⟨W.heap.size,j,none⟩=false:=Lib.frozen_of_heap tb
 have TB:=Lib.hid tb
 clear tb
 have S2:=Lib.hid (H.out.keep (Gr.trans (((Fr.refl (fun _=>False) W).alloc (.cells (Msg.zero.arr MsgP.zero) 76)).drew) f2) (fun h=>h))
 have F2:=Lib.hid (Gr.trans (((Fr.refl (fun _=>False) W).alloc (.cells (Msg.zero.arr MsgP.zero) 76)).drew) f2)
 have hsz2:W.heap.size<w2.heap.size:=by have:=f2.size;simp at this;omega
 have hq2:q<w2.heap.size:=by omega
 have HO:=Lib.hid ho
 clear f2 y0 y1 i0 i1 H ho
 have y0:=S2.out.s
 have y1:=S2.out.c
 have z0:=S2.out.z 0
 go_wp2_with fail
 refine bodyPost_ret (v:= .tuple #[m.val p, .bool true]) (by simp [results,Tryz.results63,go_sem,t0,t1,t2,t3,t4,t5,t6,Msg.val,hsz2]) rfl ⟨?_,?_,p,rfl,?_⟩
 ·exact Fr.mono (S:=fun k=>k=q∨W.heap.size≤k) ((fr_stores7 ((Fr.mono F2.out (fun _ _ h=>h.elim)).setCell (p:=⟨q,0,none⟩) (.inl (.inl rfl)) _) (.inr (Nat.le_refl _)) _ _ _ _ _ _ _).alloc _) (fun k hk h=>by rcases h with h | h;exact h;omega)
 ·exact (S2.out.set _).keep ((fr_stores7 (Fr.refl (fun k=>k=W.heap.size) _) rfl _ _ _ _ _ _ _).alloc _) (by omega)
 ·exact (HO.out.keep (S:=fun k=>k=q∨k=W.heap.size) ((fr_stores7 ((Fr.refl _ _).setCell (p:=⟨q,0,none⟩) (.inl (.inl rfl)) _) (.inr rfl) _ _ _ _ _ _ _).alloc _) (fun k h=>by simp;omega)).base (by simp)
theorem next_any {W:World} {q:Nat} {s:List UInt8} (h:SplAt W q s 0) (hl:s.length≤1000000000):Calls Tryz.prog 63 #[.pointer (some ⟨q,0,none⟩)] W (NextPost W q (nextS s)):=by
 rcases s with _ | ⟨a,_ | ⟨b,r⟩⟩
 ·exact next_short h (by simp)
 ·exact next_short h (by simp)
 ·have hg:getNum ((a::b::r).take 2)=256 * a.toNat+b.toNat:=by simp [getNum]
  have hl':r.length≤1000000000:=by simp at hl;omega
  unfold nextS
  rw [hg,if_neg (by simp)]
  by_cases h1:4096<256 * a.toNat+b.toNat
  ·rw [if_pos h1];exact next_great h hl' h1
  ·rw [if_neg h1]
   by_cases h2:r.length<256 * a.toNat+b.toNat
   ·rw [if_pos (by simp;omega)];exact next_wait h hl' h1 h2
   ·rw [if_neg (by simp;omega)]
    have hd:((a::b::r).drop 2)=r:=rfl
    have hd2:(a::b::r).drop (2+(256 * a.toNat+b.toNat))=r.drop (256 * a.toNat+b.toNat):=by rw [←List.drop_drop,hd]
    rw [hd,hd2]
    cases hc:Msg.dec (r.take (256 * a.toNat+b.toNat)) with
    | ref c=>exact next_bad h hl' h1 (by omega) hc
    | ok m t=>exact next_ok h hl' h1 (by omega) hc
end
section
open Go.RowKit Go.Proofs
theorem Tryz.infoMsg:(Tryz.prog.info? 76).map (fun i=>(i.zero,i.size,i.bytes))=some (some msgZeroV,7,104):=by kernel_rfl
abbrev mpCells (x:Msg×MsgP):List Value:=x.1.cells x.2
structure MsgsOwn (B:Nat) (w:World) (L:List (Msg×MsgP)) (v:Value):Prop where
 row:w.ownsRow B 76 7 v L.length (L.flatMap mpCells)
 own:∀ x∈L,MsgOwn B w x.1 x.2
theorem MsgsOwn.nil (B:Nat) (w:World):MsgsOwn B w [] (.slice none 0 0):=⟨World.ownsRow_nil _ _ _ _,fun _ h=>by cases h⟩
theorem MsgsOwn.keep {B:Nat} {S:Nat→Prop} {w w':World} {L:List (Msg×MsgP)} {v:Value} (h:MsgsOwn B w L v) (f:Fr S w w') (hS:∀ k,S k→k<B):MsgsOwn B w' L v:=
 ⟨own_fr h.row f (fun q hq hs=>by have:=(h.row.lt q hq).1;have:=hS q hs;omega),fun x hx=>(h.own x hx).keep f hS⟩
theorem MsgsOwn.base {B B':Nat} {w:World} {L:List (Msg×MsgP)} {v:Value} (h:MsgsOwn B w L v) (hb:B'≤B):MsgsOwn B' w L v:=⟨own_base h.row hb,fun x hx=>(h.own x hx).base hb⟩
theorem MsgOwn.other {B B':Nat} {w w':World} {m:Msg} {p:MsgP} {v:Value} {n:Nat} {cs:List Value} (h:MsgOwn B w m p) (r:w.ownsRow B' 76 7 v n cs) (g:w.grownBy w' v.ownBlock):MsgOwn B w' m p:=
 ⟨own_grown h.nodes g (own_sep h.nodes r (by decide)),own_grown h.ids g (own_sep h.ids r (by decide)),own_grown h.recs g (own_sep h.recs r (by decide)),h.z2,h.z3⟩
theorem own_box {B g:Nat} {w w':World} {e e':TypeId} {s:Nat} {v:Value} {n:Nat} {cs:List Value} {c:Array Value} {fz:Nat×Nat} (h:w.ownsRow B e s v n cs) (hb:w.heap[g]?=some (.cells c e' fz)) (f:Fr (fun k=>k=g) w w') (he:e≠e'):w'.ownsRow B e s v n cs:=by
 refine own_fr h f (fun q hq hk=>?_)
 have hk:q=g:=hk
 subst hk
 rcases h.2 with ⟨rfl,_⟩ | ⟨x,cap,cur,rfl,_,hx,_⟩
 ·cases hq
 ·simp only [Value.ownBlock,Option.some.injEq] at hq
  subst hq
  rw [hb] at hx
  simp only [Option.some.injEq,Obj.cells.injEq] at hx
  exact he hx.2.1.symm
theorem MsgOwn.box {B g:Nat} {w w':World} {m:Msg} {p:MsgP} {c:Array Value} {fz:Nat×Nat} (h:MsgOwn B w m p) (hb:w.heap[g]?=some (.cells c 76 fz)) (f:Fr (fun k=>k=g) w w'):MsgOwn B w' m p:=
 ⟨own_box h.nodes hb f (by decide),own_box h.ids hb f (by decide),own_box h.recs hb f (by decide),h.z2,h.z3⟩
def FeedPost (W:World) (q:Nat) (r:List Msg×List UInt8×Int) (e:Ending) (w':World):Prop:=
 Fr (· =q) W w'∧SplAt w' q r.2.1 r.2.2∧∃ L v,L.map Prod.fst=r.1∧e= .returned v∧MsgsOwn W.heap.size w' L v
theorem next_ends {W w':World} {q:Nat} {r:Option Msg×List UInt8×Int} {e:Ending} (h:NextPost W q r e w'):
  ∃ (m:Msg) (p:MsgP) (ok:Bool),e= .returned (.tuple #[m.val p, .bool ok])∧(r.1=if ok then some m else none)∧(ok=true→MsgOwn W.heap.size w' m p):=by
 obtain ⟨_,_,h⟩:=h
 obtain ⟨o,u,c⟩:=r
 cases o with
 | none=>exact ⟨Msg.zero,MsgP.zero,false,h,rfl,fun h=>by cases h⟩
 | some m=>
  obtain ⟨p,h1,h2⟩:=h
  exact ⟨m,p,true,h1,rfl,fun _=>h2⟩
def okN (v:Value):Nat:=match v with | .bool true=>1 | _=>0
structure FdSt (W:World) (q:Nat) (tot:List Msg×List UInt8×Int) (w:World) (L:List (Msg×MsgP)) (v:Value) (m:Msg) (p:MsgP) (ok:Bool) (u:List UInt8) (c:Int) (g:Nat):Prop where
 out:MsgsOwn W.heap.size w L v
 fr:Fr (· =q) W w
 spl:SplAt w q u c
 lq:q<W.heap.size
 ge:W.heap.size≤g
 box:w.heap[g]?=some (.cells (m.arr p) 76 (0,0))
 sep:∀ k,v.ownBlock=some k→k≠g
 cur:ok=true→MsgOwn W.heap.size w m p∧c=0
 tot:tot=if ok then (L.map Prod.fst++m::(feed u).1,(feed u).2) else (L.map Prod.fst,u,c)
 small:u.length+L.length+okN (.bool ok)≤1000001
theorem tot_of {l:List Msg} {s u:List UInt8} {c:Int} {m:Msg} {ok:Bool} (h:nextS s=(if ok then some m else none,u,c)):
  (l++(feed s).1,(feed s).2)=(if ok then (l++m::(feed u).1,(feed u).2) else (l,u,c))∧(ok=true→c=0∧u.length+2≤s.length)∧u.length≤s.length:=by
 cases ok with
 | false=>
  rw [feed_none h]
  refine ⟨by simp,(fun h=>by cases h),?_⟩
  rcases nextS_bad h with ⟨_,rfl⟩ | ⟨_,rfl⟩<;>simp
 | true=>
  rw [feed_some h]
  have:=nextS_some h
  exact ⟨rfl,fun _=>⟨this.2,this.1⟩,by omega⟩
theorem heap_set7 {w:World} {n:Nat} {a0 a1 a2 a3 a4 a5 a6:Value} {e:TypeId} {fz:Nat×Nat} (h:w.heap[n]?=some (.cells #[a0,a1,a2,a3,a4,a5,a6] e fz)) (v0 v1 v2 v3 v4 v5 v6:Value):
  (((((((w.setCell ⟨n,0,none⟩ v0).setCell ⟨n,1,none⟩ v1).setCell ⟨n,2,none⟩ v2).setCell ⟨n,3,none⟩ v3).setCell ⟨n,4,none⟩ v4).setCell ⟨n,5,none⟩ v5).setCell ⟨n,6,none⟩ v6).heap[n]?=some (.cells #[v0,v1,v2,v3,v4,v5,v6] e fz):=by
 have:=heap_set1 (heap_set1 (heap_set1 (heap_set1 (heap_set1 (heap_set1 (heap_set1 h 0 v0) 1 v1) 2 v2) 3 v3) 4 v4) 5 v5) 6 v6
 simpa using this
def splLen (w:World) (q:Nat):Nat:=match w.cell? ⟨q,0,none⟩ with | some (.string s)=>s.size | _=>0
theorem SplAt.len {w:World} {q:Nat} {s:List UInt8} {c:Int} (h:SplAt w q s c):splLen w q=s.length:=by unfold splLen;rw [h.s];exact mk_size s
theorem feed_any {W:World} {q:Nat} {s t:List UInt8} (h:SplAt W q s 0) (hl:s.length+t.length≤1000000):
  Calls Tryz.prog 27 #[.pointer (some ⟨q,0,none⟩), .string ⟨t.toArray⟩] W (FeedPost W q (feed (s++t))):=by
 obtain ⟨i1,hi1,hi2,hi3,hi4⟩:=info_parts Tryz.infoMsg
 have H:=Lib.hid h
 have y0:=h.s
 have y1:=h.c
 have z0:=h.z 0
 have hq:=h.lt
 have hs1:=mk_size s
 have hs2:=mk_size t
 clear h
 go_enter Tryz.func27,Tryz.ntmps27
 have happ:(⟨s.toArray⟩:ByteArray)++⟨t.toArray⟩=⟨(s++t).toArray⟩:=by
  apply ByteArray.ext;simp
 have S1:=Lib.hid (H.out.set (s++t))
 have hlen:(s++t).length≤1000000:=by rw [List.length_append];omega
 go_wp2_with fail
 generalize s++t=u0 at *
 generalize hw1:W.setCell ⟨q,0,none⟩ (.string ⟨u0.toArray⟩)=w1 at *
 have F1:Hid (Fr (· =q) W w1):=Lib.hid (by rw [←hw1];exact (Fr.refl (· =q) W).setCell (p:=⟨q,0,none⟩) (.inl rfl) _)
 clear hw1 happ y0 y1 z0 hs1 hs2 hl H
 refine (next_any S1.out (by omega)).mono ?_
 rintro e w2 hp2
 obtain ⟨m,p,ok,rfl,hr,ho⟩:=next_ends hp2
 obtain ⟨f2,s2, -⟩:=hp2
 obtain ⟨u,c,hn⟩:∃ u c,nextS u0=(if ok then some m else none,u,c):=⟨_,_,by rw [←hr]⟩
 rw [hn] at s2
 obtain ⟨ht1,ht2,ht3⟩:=tot_of (l:=[]) hn
 have ST:Hid (FdSt W q (feed u0) (w2.alloc (.cells (m.arr p) 76)) [] (.slice none 0 0) m p ok u c w2.heap.size):=Lib.hid (by
  have f3:=(Fr.refl (fun _=>False) w2).alloc (.cells (m.arr p) 76)
  refine ⟨MsgsOwn.nil _ _,(Fr.trans F1.out f2 (fun k h=> .inl h)).alloc _,s2.keep f3 (fun h=>h),hq,?_,?_,(fun k h=>by cases h),fun h=>⟨((ho h).keep f3 (fun _ h=>h.elim)).base F1.out.size,(ht2 h).1⟩,by simpa using ht1,?_⟩
  ·exact Nat.le_trans F1.out.size f2.size
  ·rw [heap_alloc_if,if_pos rfl]
  ·cases ok<;>simp [okN]<;>omega)
 clear hr ho f2 s2 hn ht1 ht2 ht3 S1 F1 hlen
 go_wp2_with fail
 obtain ⟨w3,hw3⟩:∃ w3,w3=w2.alloc (.cells #[.int .i64 m.kind, .int .i64 m.node, .int .i64 m.walk, .bool m.high, .slice p.a1 m.nodes.length p.c1, .slice p.a2 m.ids.length p.c2, .slice p.a3 m.recs.length p.c3] 76):=⟨_,rfl⟩
 have ST3:Hid (FdSt W q (feed u0) w3 [] (.slice none 0 0) m p ok u c w2.heap.size):=Lib.hid (by rw [hw3];exact ST.out)
 rw [←hw3]
 clear hw3 ST
 generalize feed u0=tot at *
 go_loopw [5,6,7] (fun v bx okv wr=>∃ (L:List (Msg×MsgP)) (m:Msg) (p:MsgP) (ok:Bool) (u:List UInt8) (c:Int) (g:Nat),bx= .pointer (some ⟨g,0,none⟩)∧okv= .bool ok∧FdSt W q tot wr L v m p ok u c g) (fun _ _ okv wr=>splLen wr q+okN okv)
 case atStart=>exact ⟨[],m,p,ok,u,c,_,rfl,rfl,ST3.out⟩
 case round=>
  clear ST3
  obtain ⟨L,m,p,ok,u,c,g,rfl,rfl,hst⟩:=hrel
  have ST:=Lib.hid hst
  clear hst
  cases ok with
  | false=>
   have htot:=ST.out.tot
   simp only [Bool.false_eq_true,if_false] at htot
   have HT:=Lib.hid htot
   clear htot
   go_wp2_with fail
   go_ret
   exact ⟨ST.out.fr,by rw [HT.out];exact ST.out.spl,L,_,by rw [HT.out],rfl,ST.out.out⟩
  | true=>
   have y0:wr.cell? ⟨g,0,none⟩=some (.int .i64 m.kind):=by rw [Lib.cell_of_heap ST.out.box];rfl
   have y1:wr.cell? ⟨g,1,none⟩=some (.int .i64 m.node):=by rw [Lib.cell_of_heap ST.out.box];rfl
   have y2:wr.cell? ⟨g,2,none⟩=some (.int .i64 m.walk):=by rw [Lib.cell_of_heap ST.out.box];rfl
   have y3:wr.cell? ⟨g,3,none⟩=some (.bool m.high):=by rw [Lib.cell_of_heap ST.out.box];rfl
   have y4:wr.cell? ⟨g,4,none⟩=some (.slice p.a1 m.nodes.length p.c1):=by rw [Lib.cell_of_heap ST.out.box];rfl
   have y5:wr.cell? ⟨g,5,none⟩=some (.slice p.a2 m.ids.length p.c2):=by rw [Lib.cell_of_heap ST.out.box];rfl
   have y6:wr.cell? ⟨g,6,none⟩=some (.slice p.a3 m.recs.length p.c3):=by rw [Lib.cell_of_heap ST.out.box];rfl
   obtain ⟨w4,hw4⟩:∃ w4,w4=wr.alloc (.cells #[.int .i64 m.kind, .int .i64 m.node, .int .i64 m.walk, .bool m.high, .slice p.a1 m.nodes.length p.c1, .slice p.a2 m.ids.length p.c2, .slice p.a3 m.recs.length p.c3] 76):=⟨_,rfl⟩
   have f4:Gr wr w4:=by rw [hw4];exact (Fr.refl _ _).alloc _
   have n4:∀ (j:Nat) (x:Value),(m.cells p)[j]?=some x→w4.cell? ((⟨wr.heap.size,0,none⟩:Addr).add j)=some x:=by rw [hw4];exact news_cells wr (m.arr p) 76
   have O4:=Lib.hid (ST.out.out.keep f4 (fun _ h=>h.elim))
   have sz4:wr.heap.size+1=w4.heap.size:=by rw [hw4];simp
   have HW4:=Lib.hid hw4
   have N4:=Lib.hid n4
   have SM:Hid (u.length+L.length+1≤1000001):=Lib.hid ST.out.small
   have GE:=Lib.hid (Nat.le_trans ST.out.fr.size f4.size)
   clear hw4 n4
   go_wp2_with (at_builtin;rw [←HW4.out];refine wpList_append_lies _ rfl _ _ 34 rfl W.heap.size 76 i1 msgZeroV 7 104 Tryz.underlying34 hi1 hi2 hi3 hi4 rfl (by decide) _ _ _ rfl O4.out.row ⟨wr.heap.size,0,none⟩ 1 1 (m.cells p) rfl rfl N4.out (by intro u hu;simp at hu;rcases hu with rfl | rfl | rfl | rfl | rfl | rfl | rfl<;>rfl) (by decide) (by have:=SM.out;unfold maxLen;omega) (by have:=SM.out;omega) GE.out _ rfl ?_)
   intro g5 c5 w5 ho hg hat hlt
   have f5:Fr (fun k=>u5.ownBlock=some k) w4 w5:=(Fr.refl _ _).grown hg (fun q hq=> .inl hq)
   have row:=O4.out.row
   have hgl:g<wr.heap.size:=(Array.getElem?_eq_some_iff.1 ST.out.box).1
   have S5:=Lib.hid ((ST.out.spl.keep f4 (fun h=>h)).keep f5 (fun h=>by have:=(row.lt q h).1;omega))
   have B5:Hid (w5.heap[g]?=some (.cells (m.arr p) 76 (0,0))):=Lib.hid (by
    rw [f5.block g (by have:=f4.size;omega) (fun h=>ST.out.sep g h rfl),f4.block g hgl (fun h=>h)];exact ST.out.box)
   have M5:Hid (MsgsOwn W.heap.size w5 (L++[(m,p)]) (.slice (some ⟨g5,0,none⟩) (L.length+1) c5)):=Lib.hid (by
    refine ⟨by simpa using ho,fun x hx=>?_⟩
    rcases List.mem_append.1 hx with hx | hx
    ·exact (O4.out.own x hx).other row hg
    ·simp only [List.mem_singleton] at hx
     subst hx
     exact ((ST.out.cur rfl).1.keep f4 (fun _ h=>h.elim)).other row hg)
   have F5:Hid (Fr (· =q) W w5):=Lib.hid (Fr.trans (Fr.trans ST.out.fr f4 (fun _ h=>h.elim)) f5 (fun k h=> .inr (row.lt k h).1))
   have hc:c=0:=(ST.out.cur rfl).2
   have htot:=ST.out.tot
   simp only [if_true] at htot
   have HT:=Lib.hid htot
   have HL0:=Lib.hid ST.out.spl.len
   have hsm:u.length+L.length+1≤1000001:=ST.out.small
   subst hc
   clear ho hg hat f5 row hgl htot N4 O4 HW4 GE f4 ST y0 y1 y2 y3 y4 y5 y6 sz4
   have y0:w5.cell? ⟨g,0,none⟩=some (.int .i64 m.kind):=by rw [Lib.cell_of_heap B5.out];rfl
   have y1:w5.cell? ⟨g,1,none⟩=some (.int .i64 m.node):=by rw [Lib.cell_of_heap B5.out];rfl
   have y2:w5.cell? ⟨g,2,none⟩=some (.int .i64 m.walk):=by rw [Lib.cell_of_heap B5.out];rfl
   have y3:w5.cell? ⟨g,3,none⟩=some (.bool m.high):=by rw [Lib.cell_of_heap B5.out];rfl
   have y4:w5.cell? ⟨g,4,none⟩=some (.slice p.a1 m.nodes.length p.c1):=by rw [Lib.cell_of_heap B5.out];rfl
   have y5:w5.cell? ⟨g,5,none⟩=some (.slice p.a2 m.ids.length p.c2):=by rw [Lib.cell_of_heap B5.out];rfl
   have y6:w5.cell? ⟨g,6,none⟩=some (.slice p.a3 m.recs.length p.c3):=by rw [Lib.cell_of_heap B5.out];rfl
   obtain ⟨w6,hw6⟩:∃ w6,w6=w5.alloc (.cells #[.int .i64 m.kind, .int .i64 m.node, .int .i64 m.walk, .bool m.high, .slice p.a1 m.nodes.length p.c1, .slice p.a2 m.ids.length p.c2, .slice p.a3 m.recs.length p.c3] 76):=⟨_,rfl⟩
   have f6:Gr w5 w6:=by rw [hw6];exact (Fr.refl _ _).alloc _
   have B6:Hid (w6.heap[w5.heap.size]?=some (.cells (m.arr p) 76 (0,0))):=Lib.hid (by rw [hw6,heap_alloc_if,if_pos rfl])
   have S6:=Lib.hid (S5.out.keep f6 (fun h=>h))
   have M6:=Lib.hid (M5.out.keep f6 (fun _ h=>h.elim))
   have F6:=Lib.hid (Fr.trans F5.out f6 (fun _ h=>h.elim))
   have L6:Hid (∀ k,(Value.slice (some ⟨g5,0,none⟩) (L.length+1) c5).ownBlock=some k→k≠w5.heap.size):=Lib.hid (fun k hk=>by have:=(M5.out.row.lt k hk).2;omega)
   have HW6:=Lib.hid hw6
   have hq6:=F5.out.size
   have hs6:w6.heap.size=w5.heap.size+1:=by rw [hw6];simp
   clear hw6 f6 S5 M5 F5 B5
   go_wp2_with fail
   rw [←HW6.out]
   clear HW6 y0 y1 y2 y3 y4 y5 y6
   refine (next_any S6.out (by omega)).mono ?_
   rintro e w7 hp2
   obtain ⟨m',p',ok',rfl,hr,ho'⟩:=next_ends hp2
   obtain ⟨f7,s7, -⟩:=hp2
   obtain ⟨u',c',hn⟩:∃ u' c',nextS u=(if ok' then some m' else none,u',c'):=⟨_,_,by rw [←hr]⟩
   rw [hn] at s7
   obtain ⟨ht1,ht2,ht3⟩:=tot_of (l:=(L++[(m,p)]).map Prod.fst) hn
   have tb:w7.heap[w5.heap.size]?=some (.cells (m.arr p) 76 (0,0)):=by rw [f7.block _ (by omega) (by omega)];exact B6.out
   have F7:Hid (Fr (· =q) W w7):=Lib.hid (Fr.trans F6.out f7 (fun k h=> .inl h))
   have M7:=Lib.hid (M6.out.keep f7 (fun k h=>by omega))
   have S7:=Lib.hid s7
   have HO:Hid (ok'=true→MsgOwn W.heap.size w7 m' p'):=Lib.hid (fun h=>(ho' h).base (by omega))
   have T1:=Lib.hid ht1
   have T2:=Lib.hid ht2
   have t0:w7.cell? ⟨w5.heap.size,0,none⟩=some (.int .i64 m.kind):=by rw [Lib.cell_of_heap tb];rfl
   have t1:w7.cell? ⟨w5.heap.size,1,none⟩=some (.int .i64 m.node):=by rw [Lib.cell_of_heap tb];rfl
   have t2:w7.cell? ⟨w5.heap.size,2,none⟩=some (.int .i64 m.walk):=by rw [Lib.cell_of_heap tb];rfl
   have t3:w7.cell? ⟨w5.heap.size,3,none⟩=some (.bool m.high):=by rw [Lib.cell_of_heap tb];rfl
   have t4:w7.cell? ⟨w5.heap.size,4,none⟩=some (.slice p.a1 m.nodes.length p.c1):=by rw [Lib.cell_of_heap tb];rfl
   have t5:w7.cell? ⟨w5.heap.size,5,none⟩=some (.slice p.a2 m.ids.length p.c2):=by rw [Lib.cell_of_heap tb];rfl
   have t6:w7.cell? ⟨w5.heap.size,6,none⟩=some (.slice p.a3 m.recs.length p.c3):=by rw [Lib.cell_of_heap tb];rfl
   have z:∀ j,w7.frozen? ⟨w5.heap.size,j,none⟩=false:=Lib.frozen_of_heap tb
   have TB:=Lib.hid tb
   have hsz7:=f7.size
   clear tb f7 s7 hr ho' hn ht1 ht2 S6 M6 F6 B6
   go_wp2_with fail
   have fst:Fr (fun k=>k=w5.heap.size) w7 _:=fr_stores7 (Fr.refl (fun k=>k=w5.heap.size) w7) rfl (.int .i64 m'.kind) (.int .i64 m'.node) (.int .i64 m'.walk) (.bool m'.high) (.slice p'.a1 m'.nodes.length p'.c1) (.slice p'.a2 m'.ids.length p'.c2) (.slice p'.a3 m'.recs.length p'.c3)
   have bst:=heap_set7 TB.out (.int .i64 m'.kind) (.int .i64 m'.node) (.int .i64 m'.walk) (.bool m'.high) (.slice p'.a1 m'.nodes.length p'.c1) (.slice p'.a2 m'.ids.length p'.c2) (.slice p'.a3 m'.recs.length p'.c3)
   have s8:=S7.out.keep fst (by omega)
   refine ⟨⟨L++[(m,p)],m',p',ok',u',c',_,rfl,rfl,?_⟩,?_⟩
   ·refine ⟨⟨own_fr M7.out.row fst (fun k hk h=>L6.out k hk h),fun x hx=>(M7.out.own x hx).box TB.out fst⟩,Fr.trans F7.out fst (fun k h=> .inr (by omega)),s8,hq,hq6,bst,L6.out,fun h=>⟨(HO.out h).box TB.out fst,(T2.out h).1⟩,?_,?_⟩
    ·rw [HT.out, ←T1.out];simp
    ·cases ok' with
     | true=>have:=(T2.out rfl).2;simp [okN];omega
     | false=>simp [okN];omega
   ·rw [HL0.out,s8.len]
    cases ok' with
    | true=>have:=(T2.out rfl).2;simp [okN];omega
    | false=>simp [okN];omega
end
section
open Go.RowKit Go.Proofs
theorem feed_ends {W w':World} {q:Nat} {r:List Msg×List UInt8×Int} {e:Ending} (h:FeedPost W q r e w'):
  Fr (· =q) W w'∧SplAt w' q r.2.1 r.2.2∧∃ (L:List (Msg×MsgP)) (a:Option Addr) (cap:Nat),L.map Prod.fst=r.1∧e= .returned (.slice a L.length cap)∧MsgsOwn W.heap.size w' L (.slice a L.length cap):=by
 obtain ⟨h1,h2,L,v,h3,rfl,h4⟩:=h
 obtain ⟨a,cap,rfl,_⟩:=SlA.of_own h4.row
 exact ⟨h1,h2,L,a,cap,h3,rfl,h4⟩
theorem MsgsOwn.get {B:Nat} {w:World} {L:List (Msg×MsgP)} {a:Option Addr} {cap:Nat} (h:MsgsOwn B w L (.slice a L.length cap)) (i:Nat) (hi:i<L.length):
  ∃ b o,a=some ⟨b,o,none⟩∧∀ j v,(mpCells L[i])[j]?=some v→w.cell? ⟨b,o+i * 7+j,none⟩=some v:=by
 obtain ⟨a',cap',e,hs,_⟩:=SlA.of_own h.row
 cases e
 exact hs.elem (f:=mpCells) (n:=7) (fun _=>rfl) (by decide) i hi
theorem one_of {L:List (Msg×MsgP)} {m:Msg} (h:L.map Prod.fst=[m]):∃ p,L=[(m,p)]:=by
 rcases L with _ | ⟨⟨m',p⟩,_ | ⟨y,l⟩⟩
 ·cases h
 ·simp only [List.map_cons,List.map_nil,List.cons.injEq,and_true] at h
  exact ⟨p,by rw [h]⟩
 ·simp at h
end
end Go.Proofs.YtelepohdfcjnfaaGreat
