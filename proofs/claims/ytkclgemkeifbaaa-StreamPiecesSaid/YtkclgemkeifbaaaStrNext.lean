/-
  Package stream: fail, Bad, Left, next.
-/
import Derived.Test.YtkclgemkeifbaaaStrFrame
import Derived.Test.YtkclgemkeifbaaaRegionW
import Derived.IntWalk
import Derived.Laws.BitsLemmas
namespace Go.Proofs.Ytkclgemkeifbaaa
open Go.RowKit Go.Proofs

/-- a splitter at block q: the bytes that wait, what is wrong -/
def SplAt (w : World) (q : Nat) (s : List UInt8) (c : Int) : Prop := w.heap[q]? = some (.cells #[.string ⟨s.toArray⟩, .int .i64 c] 54 (0, 0))
theorem SplAt.s {w : World} {q : Nat} {s : List UInt8} {c : Int} (h : SplAt w q s c) : w.cell? ⟨q, 0, none⟩ = some (.string ⟨s.toArray⟩) := by rw [Lib.cell_of_heap h]; rfl
theorem SplAt.c {w : World} {q : Nat} {s : List UInt8} {c : Int} (h : SplAt w q s c) : w.cell? ⟨q, 1, none⟩ = some (.int .i64 c) := by rw [Lib.cell_of_heap h]; rfl
theorem SplAt.z {w : World} {q : Nat} {s : List UInt8} {c : Int} (h : SplAt w q s c) (j : Nat) : w.frozen? ⟨q, j, none⟩ = false := Lib.frozen_of_heap h j
theorem SplAt.lt {w : World} {q : Nat} {s : List UInt8} {c : Int} (h : SplAt w q s c) : q < w.heap.size := (Array.getElem?_eq_some_iff.1 h).1
theorem SplAt.keep {S : Nat → Prop} {w w' : World} {q : Nat} {s : List UInt8} {c : Int} (h : SplAt w q s c) (f : Fr S w w') (hS : ¬ S q) : SplAt w' q s c := by
  unfold SplAt; rw [f.block q h.lt hS]; exact h
theorem SplAt.set {w : World} {q : Nat} {s : List UInt8} {c : Int} (h : SplAt w q s c) (t : List UInt8) : SplAt (w.setCell ⟨q, 0, none⟩ (.string ⟨t.toArray⟩)) q t c := by
  have := heap_set1 h 0 (.string ⟨t.toArray⟩)
  simp only [List.setIfInBounds_toArray, List.set_cons_zero] at this
  exact this
theorem SplAt.setc {w : World} {q : Nat} {s : List UInt8} {c : Int} (h : SplAt w q s c) (e : Int) : SplAt (w.setCell ⟨q, 1, none⟩ (.int .i64 e)) q s e := by
  have := heap_set1 h 1 (.int .i64 e)
  simp only [List.setIfInBounds_toArray, List.set_cons_zero, List.set_cons_succ] at this
  exact this

set_option maxHeartbeats 1000000 in
set_option maxRecDepth 100000 in
theorem splFail_any {W : World} {q : Nat} {s : List UInt8} {c : Int} (h : SplAt W q s c) (e : Int) :
    Calls Try.prog 98 #[.pointer (some ⟨q, 0, none⟩), .int .i64 e] W fun r w' => r = .returned (.tuple #[]) ∧ SplAt w' q [] e ∧ Fr (· = q) W w' := by
  have H := Lib.hid h
  have y0 := h.s
  have y1 := h.c
  have z0 := h.z 0
  have z1 := h.z 1
  clear h
  go_enter Try.func98, Try.ntmps98
  go_wp2_with fail
  go_end0
  exact ⟨rfl, (H.out.set []).setc e, ((Fr.refl (· = q) W).setCell (p := ⟨q, 0, none⟩) (.inl rfl) _).setCell (p := ⟨q, 1, none⟩) (.inl rfl) _⟩
theorem splBad_any {W : World} {q : Nat} {s : List UInt8} {c : Int} (h : SplAt W q s c) :
    Calls Try.prog 25 #[.pointer (some ⟨q, 0, none⟩)] W fun r w' => r = .returned (.int .i64 c) ∧ W = w' := by
  have y1 := h.c
  clear h
  go_enter Try.func25, Try.ntmps25
  go_wp2_with fail
  go_ret
  exact ⟨rfl, rfl⟩
theorem splBad_nil (W : World) : Calls Try.prog 25 #[.pointer none] W fun r w' => r = .returned (.int .i64 1) ∧ W = w' := by
  go_enter Try.func25, Try.ntmps25
  go_wp2_with fail
  go_ret
  exact ⟨rfl, rfl⟩
theorem splLeft_any {W : World} {q : Nat} {s : List UInt8} {c : Int} (h : SplAt W q s c) :
    Calls Try.prog 26 #[.pointer (some ⟨q, 0, none⟩)] W fun r w' => r = .returned (.int .i64 s.length) ∧ W = w' := by
  have y0 := h.s
  have hsz := mk_size s
  clear h
  go_enter Try.func26, Try.ntmps26
  go_wp2_with fail
  go_ret
  exact ⟨rfl, rfl⟩
theorem splLeft_nil (W : World) : Calls Try.prog 26 #[.pointer none] W fun r w' => r = .returned (.int .i64 0) ∧ W = w' := by
  go_enter Try.func26, Try.ntmps26
  go_wp2_with fail
  go_ret
  exact ⟨rfl, rfl⟩

/-- what next leaves -/
def NextPost (W : World) (q : Nat) (r : Option Msg × List UInt8 × Int) (e : Ending) (w' : World) : Prop :=
  Fr (· = q) W w' ∧ SplAt w' q r.2.1 r.2.2 ∧ match r.1 with
  | none => e = .returned (.tuple #[msgZeroV, .bool false])
  | some m => ∃ p, e = .returned (.tuple #[m.val p, .bool true]) ∧ MsgOwn W.heap.size w' m p

set_option maxHeartbeats 4000000 in
set_option maxRecDepth 100000 in
theorem next_short {W : World} {q : Nat} {s : List UInt8} (h : SplAt W q s 0) (hs : s.length < 2) :
    Calls Try.prog 61 #[.pointer (some ⟨q, 0, none⟩)] W (NextPost W q (none, s, 0)) := by
  have H := Lib.hid h
  have y0 := h.s
  have y1 := h.c
  have hq := h.lt
  have hsz := mk_size s
  clear h
  go_enter Try.func61, Try.ntmps61
  go_wp2_with fail
  exact bodyPost_ret (v := .tuple #[msgZeroV, .bool false]) (by simp [results, Try.results61, go_sem]) rfl ⟨(Fr.refl _ _).alloc _, H.out.keep ((Fr.refl (fun _ => False) _).alloc _) (fun h => h), rfl⟩

theorem index_at (s : ByteArray) (k : Nat) (hk : k < s.size) (w : World) : (Instr.index 9 (.string s) (.int .i64 k)).run Try.prog w = .ok (.int .u8 s[k].toNat) w := by
  rw [run_index_string (h := Try.underlying9), dif_pos ⟨by omega, by omega⟩]
  simp
theorem be2 (a b : UInt8) : bits .or .i64 ((a.toNat : Int) * 256) (b.toNat : Int) = ((256 * a.toNat + b.toNat : Nat) : Int) := by
  have ha := a.toNat_lt
  have hb := b.toNat_lt
  have e : ((a.toNat : Int) * 256) = ((a.toNat * 256 : Nat) : Int) := by simp
  rw [e, (bits_nat .i64 62 (by decide) (fun n h0 h1 => IntWalk.i64_in n ⟨by omega, by omega⟩) _ _ (by omega) (by omega)).2]
  have := Nat.two_pow_add_eq_or_of_lt (i := 8) (b := b.toNat) (by omega) a.toNat
  rw [Nat.mul_comm a.toNat 256]
  rw [show (2 : Nat) ^ 8 = 256 from rfl] at this
  rw [this]

set_option maxHeartbeats 4000000 in
set_option maxRecDepth 100000 in
theorem next_great {W : World} {q : Nat} {a b : UInt8} {r : List UInt8} (h : SplAt W q (a :: b :: r) 0) (hl : r.length ≤ 1000000000) (hs : 4096 < 256 * a.toNat + b.toNat) :
    Calls Try.prog 61 #[.pointer (some ⟨q, 0, none⟩)] W (NextPost W q (none, [], 3)) := by
  have H := Lib.hid h
  have y0 := h.s
  have y1 := h.c
  have hq := h.lt
  have hsz : (ByteArray.mk (a :: b :: r).toArray).size = r.length + 2 := by rw [mk_size]; rfl
  have hge : (((r.length + 2 : Nat) : Int) < 2) = False := by simp; omega
  have i0 : ∀ w, (Instr.index 9 (.string ⟨(a :: b :: r).toArray⟩) (.int .i64 0)).run Try.prog w = .ok (.int .u8 a.toNat) w := fun w => index_at _ 0 (by omega) w
  have i1 : ∀ w, (Instr.index 9 (.string ⟨(a :: b :: r).toArray⟩) (.int .i64 1)).run Try.prog w = .ok (.int .u8 b.toNat) w := fun w => index_at _ 1 (by omega) w
  have ha0 : (0 : Int) ≤ (a.toNat : Int) := by omega
  have ha1 : (a.toNat : Int) < 256 := by have := a.toNat_lt; omega
  have hb0 : (0 : Int) ≤ (b.toNat : Int) := by omega
  have hb1 : (b.toNat : Int) < 256 := by have := b.toNat_lt; omega
  have hor := be2 a b
  clear h
  generalize 256 * a.toNat + b.toNat = n at *
  have hn : (4096 : Int) < (n : Int) := by omega
  go_enter Try.func61, Try.ntmps61
  go_wp2_with fail
  go_region
  go_wp2_with fail
  refine (splFail_any (H.out.keep (((Fr.refl (fun _ => False) W).alloc _).drew) (fun h => h)) 3).mono ?_
  rintro e w2 ⟨rfl, s2, f2⟩
  have tb : w2.heap[W.heap.size]? = some (.cells (Msg.zero.arr MsgP.zero) 30 (0, 0)) := by
    rw [f2.block _ (by simp) (by omega)]; show (W.alloc _).heap[W.heap.size]? = _; rw [heap_alloc_if, if_pos rfl]; rfl
  have t0 : w2.cell? ⟨W.heap.size, 0, none⟩ = some (.int .i64 0) := by rw [Lib.cell_of_heap tb]; rfl
  have t1 : w2.cell? ⟨W.heap.size, 1, none⟩ = some (.int .i64 0) := by rw [Lib.cell_of_heap tb]; rfl
  have t2 : w2.cell? ⟨W.heap.size, 2, none⟩ = some (.int .i64 0) := by rw [Lib.cell_of_heap tb]; rfl
  have t3 : w2.cell? ⟨W.heap.size, 3, none⟩ = some (.bool false) := by rw [Lib.cell_of_heap tb]; rfl
  have t4 : w2.cell? ⟨W.heap.size, 4, none⟩ = some (.slice none 0 0) := by rw [Lib.cell_of_heap tb]; rfl
  have t5 : w2.cell? ⟨W.heap.size, 5, none⟩ = some (.slice none 0 0) := by rw [Lib.cell_of_heap tb]; rfl
  have t6 : w2.cell? ⟨W.heap.size, 6, none⟩ = some (.slice none 0 0) := by rw [Lib.cell_of_heap tb]; rfl
  have z : ∀ j, w2.frozen? ⟨W.heap.size, j, none⟩ = false := Lib.frozen_of_heap tb
  have TB := Lib.hid tb
  clear tb
  have F2 := Lib.hid (Fr.trans ((((Fr.refl (fun k => k = q ∨ W.heap.size ≤ k) W).alloc (.cells (Msg.zero.arr MsgP.zero) 30))).drew) f2 (fun k h => .inl (.inl h)))
  have S2 := Lib.hid s2
  clear f2 s2 y0 y1 i0 i1
  go_wp2_with fail
  refine bodyPost_ret (v := .tuple #[msgZeroV, .bool false]) (by simp [results, Try.results61, go_sem, t0, t1, t2, t3, t4, t5, t6]) rfl ⟨?_, ?_, rfl⟩
  · exact Fr.mono (fr_stores7 F2.out (.inr (Nat.le_refl _)) _ _ _ _ _ _ _) (fun k hk h => by rcases h with h | h; exact h; omega)
  · exact S2.out.keep (fr_stores7 (Fr.refl (fun k => k = W.heap.size) _) rfl _ _ _ _ _ _ _) (by omega)

set_option maxHeartbeats 4000000 in
set_option maxRecDepth 100000 in
theorem next_wait {W : World} {q : Nat} {a b : UInt8} {r : List UInt8} (h : SplAt W q (a :: b :: r) 0) (hl : r.length ≤ 1000000000) (hs : ¬ 4096 < 256 * a.toNat + b.toNat) (hw : r.length < 256 * a.toNat + b.toNat) :
    Calls Try.prog 61 #[.pointer (some ⟨q, 0, none⟩)] W (NextPost W q (none, a :: b :: r, 0)) := by
  have H := Lib.hid h
  have y0 := h.s
  have y1 := h.c
  have hq := h.lt
  have hsz : (ByteArray.mk (a :: b :: r).toArray).size = r.length + 2 := by rw [mk_size]; rfl
  have hge : (((r.length + 2 : Nat) : Int) < 2) = False := by simp; omega
  have i0 : ∀ w, (Instr.index 9 (.string ⟨(a :: b :: r).toArray⟩) (.int .i64 0)).run Try.prog w = .ok (.int .u8 a.toNat) w := fun w => index_at _ 0 (by omega) w
  have i1 : ∀ w, (Instr.index 9 (.string ⟨(a :: b :: r).toArray⟩) (.int .i64 1)).run Try.prog w = .ok (.int .u8 b.toNat) w := fun w => index_at _ 1 (by omega) w
  have ha0 : (0 : Int) ≤ (a.toNat : Int) := by omega
  have ha1 : (a.toNat : Int) < 256 := by have := a.toNat_lt; omega
  have hb0 : (0 : Int) ≤ (b.toNat : Int) := by omega
  have hb1 : (b.toNat : Int) < 256 := by have := b.toNat_lt; omega
  have hor := be2 a b
  clear h
  generalize 256 * a.toNat + b.toNat = n at *
  have hn : (n : Int) ≤ 4096 := by omega
  have hw' : (r.length : Int) + 2 < 2 + (n : Int) := by omega
  go_enter Try.func61, Try.ntmps61
  go_wp2_with fail
  go_region
  go_wp2_with fail
  exact bodyPost_ret (v := .tuple #[msgZeroV, .bool false]) (by simp [results, Try.results61, go_sem]) rfl ⟨((Fr.refl _ _).alloc _).drew, H.out.keep (((Fr.refl (fun _ => False) _).alloc _).drew) (fun h => h), rfl⟩

set_option maxHeartbeats 4000000 in
set_option maxRecDepth 100000 in
theorem next_bad {W : World} {q : Nat} {a b : UInt8} {r : List UInt8} (h : SplAt W q (a :: b :: r) 0) (hl : r.length ≤ 1000000000) (hs : ¬ 4096 < 256 * a.toNat + b.toNat) (hw : 256 * a.toNat + b.toNat ≤ r.length) {c : Int} (hd : Msg.dec (r.take (256 * a.toNat + b.toNat)) = .ref c) :
    Calls Try.prog 61 #[.pointer (some ⟨q, 0, none⟩)] W (NextPost W q (none, [], c)) := by
  have H := Lib.hid h
  have y0 := h.s
  have y1 := h.c
  have hq := h.lt
  have hsz : (ByteArray.mk (a :: b :: r).toArray).size = r.length + 2 := by rw [mk_size]; rfl
  have hge : (((r.length + 2 : Nat) : Int) < 2) = False := by simp; omega
  have i0 : ∀ w, (Instr.index 9 (.string ⟨(a :: b :: r).toArray⟩) (.int .i64 0)).run Try.prog w = .ok (.int .u8 a.toNat) w := fun w => index_at _ 0 (by omega) w
  have i1 : ∀ w, (Instr.index 9 (.string ⟨(a :: b :: r).toArray⟩) (.int .i64 1)).run Try.prog w = .ok (.int .u8 b.toNat) w := fun w => index_at _ 1 (by omega) w
  have ha0 : (0 : Int) ≤ (a.toNat : Int) := by omega
  have ha1 : (a.toNat : Int) < 256 := by have := a.toNat_lt; omega
  have hb0 : (0 : Int) ≤ (b.toNat : Int) := by omega
  have hb1 : (b.toNat : Int) < 256 := by have := b.toNat_lt; omega
  have hor := be2 a b
  clear h
  have HD := Lib.hid hd; clear hd
  generalize 256 * a.toNat + b.toNat = n at *
  have hn : (n : Int) ≤ 4096 := by omega
  have hw' : 2 + (n : Int) ≤ (r.length : Int) + 2 := by omega
  have hx : (ByteArray.mk (a :: b :: r).toArray).extract 2 (2 + n) = ⟨(r.take n).toArray⟩ := by rw [mk_extract, Nat.add_comm 2 n]; rfl
  have hx2 : (ByteArray.mk (a :: b :: r).toArray).extract (2 + n) (r.length + 2) = ⟨(r.drop n).toArray⟩ := by
    rw [mk_extract, Nat.add_comm 2 n, List.take_of_length_le (by simp)]; rfl
  go_enter Try.func61, Try.ntmps61
  go_wp2_with fail
  go_region
  go_wp2_with fail
  refine (decode_any (r.take n) (by simp; omega) _).mono ?_
  rintro e w2 ⟨f2, h2⟩
  rw [HD.out] at h2
  simp only at h2
  subst h2
  have hc : (c == 0) = false := by rcases Msg.dec_ref HD.out with h | h | h <;> rw [h] <;> rfl
  have tb : w2.heap[W.heap.size]? = some (.cells (Msg.zero.arr MsgP.zero) 30 (0, 0)) := by
    rw [f2.block _ (by simp) (fun h => h)]; show (W.alloc _).heap[W.heap.size]? = _; rw [heap_alloc_if, if_pos rfl]; rfl
  have t0 : w2.cell? ⟨W.heap.size, 0, none⟩ = some (.int .i64 0) := by rw [Lib.cell_of_heap tb]; rfl
  have t1 : w2.cell? ⟨W.heap.size, 1, none⟩ = some (.int .i64 0) := by rw [Lib.cell_of_heap tb]; rfl
  have t2 : w2.cell? ⟨W.heap.size, 2, none⟩ = some (.int .i64 0) := by rw [Lib.cell_of_heap tb]; rfl
  have t3 : w2.cell? ⟨W.heap.size, 3, none⟩ = some (.bool false) := by rw [Lib.cell_of_heap tb]; rfl
  have t4 : w2.cell? ⟨W.heap.size, 4, none⟩ = some (.slice none 0 0) := by rw [Lib.cell_of_heap tb]; rfl
  have t5 : w2.cell? ⟨W.heap.size, 5, none⟩ = some (.slice none 0 0) := by rw [Lib.cell_of_heap tb]; rfl
  have t6 : w2.cell? ⟨W.heap.size, 6, none⟩ = some (.slice none 0 0) := by rw [Lib.cell_of_heap tb]; rfl
  have z : ∀ j, w2.frozen? ⟨W.heap.size, j, none⟩ = false := Lib.frozen_of_heap tb
  have TB := Lib.hid tb
  clear tb
  have S2 := Lib.hid (H.out.keep (Gr.trans (((Fr.refl (fun _ => False) W).alloc (.cells (Msg.zero.arr MsgP.zero) 30)).drew) f2) (fun h => h))
  have F2 := Lib.hid (Gr.trans (((Fr.refl (fun _ => False) W).alloc (.cells (Msg.zero.arr MsgP.zero) 30)).drew) f2)
  have hsz2 : W.heap.size < w2.heap.size := by have := f2.size; simp at this; omega
  clear f2 y0 y1 i0 i1 hx hx2 H
  have y0 := S2.out.s
  have y1 := S2.out.c
  go_wp2_with fail
  refine (splFail_any (S2.out.keep ((Fr.refl (fun _ => False) w2).alloc _) (fun h => h)) c).mono ?_
  rintro e w3 ⟨rfl, s3, f3⟩
  have F3 := Lib.hid (Fr.trans (Fr.mono (T := fun k => k = q ∨ W.heap.size ≤ k) (F2.out.alloc (.cells (Msg.zero.arr MsgP.zero) 30)) (fun _ _ h => h.elim)) f3 (fun k h => .inl (.inl h)))
  have S3 := Lib.hid s3
  have G3 := Lib.hid (Fr.trans ((Fr.refl (fun k => k = q) w2).alloc (.cells (Msg.zero.arr MsgP.zero) 30)) f3 (fun k h => .inl h))
  have TB3 : Hid (w3.heap[W.heap.size]? = some (.cells (Msg.zero.arr MsgP.zero) 30 (0, 0))) := Lib.hid (by rw [G3.out.block W.heap.size hsz2 (by omega)]; exact TB.out)
  clear f3 s3 y0 y1 S2 F2 t0 t1 t2 t3 t4 t5 t6 z TB
  have tb := TB3.out
  have t0 : w3.cell? ⟨W.heap.size, 0, none⟩ = some (.int .i64 0) := by rw [Lib.cell_of_heap tb]; rfl
  have t1 : w3.cell? ⟨W.heap.size, 1, none⟩ = some (.int .i64 0) := by rw [Lib.cell_of_heap tb]; rfl
  have t2 : w3.cell? ⟨W.heap.size, 2, none⟩ = some (.int .i64 0) := by rw [Lib.cell_of_heap tb]; rfl
  have t3 : w3.cell? ⟨W.heap.size, 3, none⟩ = some (.bool false) := by rw [Lib.cell_of_heap tb]; rfl
  have t4 : w3.cell? ⟨W.heap.size, 4, none⟩ = some (.slice none 0 0) := by rw [Lib.cell_of_heap tb]; rfl
  have t5 : w3.cell? ⟨W.heap.size, 5, none⟩ = some (.slice none 0 0) := by rw [Lib.cell_of_heap tb]; rfl
  have t6 : w3.cell? ⟨W.heap.size, 6, none⟩ = some (.slice none 0 0) := by rw [Lib.cell_of_heap tb]; rfl
  have z : ∀ j, w3.frozen? ⟨W.heap.size, j, none⟩ = false := Lib.frozen_of_heap tb
  clear tb
  go_wp2_with fail
  refine bodyPost_ret (v := .tuple #[msgZeroV, .bool false]) (by simp [results, Try.results61, go_sem, t0, t1, t2, t3, t4, t5, t6]) rfl ⟨?_, ?_, rfl⟩
  · exact Fr.mono (fr_stores7 F3.out (.inr (Nat.le_refl _)) _ _ _ _ _ _ _) (fun k hk h => by rcases h with h | h; exact h; omega)
  · exact S3.out.keep (fr_stores7 (Fr.refl (fun k => k = W.heap.size) _) rfl _ _ _ _ _ _ _) (by omega)

set_option maxHeartbeats 4000000 in
set_option maxRecDepth 100000 in
theorem next_ok {W : World} {q : Nat} {a b : UInt8} {r : List UInt8} (h : SplAt W q (a :: b :: r) 0) (hl : r.length ≤ 1000000000) (hs : ¬ 4096 < 256 * a.toNat + b.toNat) (hw : 256 * a.toNat + b.toNat ≤ r.length) {m : Msg} {t : List UInt8} (hd : Msg.dec (r.take (256 * a.toNat + b.toNat)) = .ok m t) :
    Calls Try.prog 61 #[.pointer (some ⟨q, 0, none⟩)] W (NextPost W q (some m, r.drop (256 * a.toNat + b.toNat), 0)) := by
  have H := Lib.hid h
  have y0 := h.s
  have y1 := h.c
  have hq := h.lt
  have hsz : (ByteArray.mk (a :: b :: r).toArray).size = r.length + 2 := by rw [mk_size]; rfl
  have hge : (((r.length + 2 : Nat) : Int) < 2) = False := by simp; omega
  have i0 : ∀ w, (Instr.index 9 (.string ⟨(a :: b :: r).toArray⟩) (.int .i64 0)).run Try.prog w = .ok (.int .u8 a.toNat) w := fun w => index_at _ 0 (by omega) w
  have i1 : ∀ w, (Instr.index 9 (.string ⟨(a :: b :: r).toArray⟩) (.int .i64 1)).run Try.prog w = .ok (.int .u8 b.toNat) w := fun w => index_at _ 1 (by omega) w
  have ha0 : (0 : Int) ≤ (a.toNat : Int) := by omega
  have ha1 : (a.toNat : Int) < 256 := by have := a.toNat_lt; omega
  have hb0 : (0 : Int) ≤ (b.toNat : Int) := by omega
  have hb1 : (b.toNat : Int) < 256 := by have := b.toNat_lt; omega
  have hor := be2 a b
  clear h
  have HD := Lib.hid hd; clear hd
  generalize 256 * a.toNat + b.toNat = n at *
  have hn : (n : Int) ≤ 4096 := by omega
  have hw' : 2 + (n : Int) ≤ (r.length : Int) + 2 := by omega
  have hx : (ByteArray.mk (a :: b :: r).toArray).extract 2 (2 + n) = ⟨(r.take n).toArray⟩ := by rw [mk_extract, Nat.add_comm 2 n]; rfl
  have hx2 : (ByteArray.mk (a :: b :: r).toArray).extract (2 + n) (r.length + 2) = ⟨(r.drop n).toArray⟩ := by
    rw [mk_extract, Nat.add_comm 2 n, List.take_of_length_le (by simp)]; rfl
  go_enter Try.func61, Try.ntmps61
  go_wp2_with fail
  go_region
  go_wp2_with fail
  refine (decode_any (r.take n) (by simp; omega) _).mono ?_
  rintro e w2 ⟨f2, h2⟩
  rw [HD.out] at h2
  obtain ⟨p, rfl, ho⟩ := h2
  have tb : w2.heap[W.heap.size]? = some (.cells (Msg.zero.arr MsgP.zero) 30 (0, 0)) := by
    rw [f2.block _ (by simp) (fun h => h)]; show (W.alloc _).heap[W.heap.size]? = _; rw [heap_alloc_if, if_pos rfl]; rfl
  have t0 : w2.cell? ⟨W.heap.size, 0, none⟩ = some (.int .i64 0) := by rw [Lib.cell_of_heap tb]; rfl
  have t1 : w2.cell? ⟨W.heap.size, 1, none⟩ = some (.int .i64 0) := by rw [Lib.cell_of_heap tb]; rfl
  have t2 : w2.cell? ⟨W.heap.size, 2, none⟩ = some (.int .i64 0) := by rw [Lib.cell_of_heap tb]; rfl
  have t3 : w2.cell? ⟨W.heap.size, 3, none⟩ = some (.bool false) := by rw [Lib.cell_of_heap tb]; rfl
  have t4 : w2.cell? ⟨W.heap.size, 4, none⟩ = some (.slice none 0 0) := by rw [Lib.cell_of_heap tb]; rfl
  have t5 : w2.cell? ⟨W.heap.size, 5, none⟩ = some (.slice none 0 0) := by rw [Lib.cell_of_heap tb]; rfl
  have t6 : w2.cell? ⟨W.heap.size, 6, none⟩ = some (.slice none 0 0) := by rw [Lib.cell_of_heap tb]; rfl
  have z : ∀ j, w2.frozen? ⟨W.heap.size, j, none⟩ = false := Lib.frozen_of_heap tb
  have TB := Lib.hid tb
  clear tb
  have S2 := Lib.hid (H.out.keep (Gr.trans (((Fr.refl (fun _ => False) W).alloc (.cells (Msg.zero.arr MsgP.zero) 30)).drew) f2) (fun h => h))
  have F2 := Lib.hid (Gr.trans (((Fr.refl (fun _ => False) W).alloc (.cells (Msg.zero.arr MsgP.zero) 30)).drew) f2)
  have hsz2 : W.heap.size < w2.heap.size := by have := f2.size; simp at this; omega
  have hq2 : q < w2.heap.size := by omega
  have HO := Lib.hid ho
  clear f2 y0 y1 i0 i1 H ho
  have y0 := S2.out.s
  have y1 := S2.out.c
  have z0 := S2.out.z 0
  go_wp2_with fail
  refine bodyPost_ret (v := .tuple #[m.val p, .bool true]) (by simp [results, Try.results61, go_sem, t0, t1, t2, t3, t4, t5, t6, Msg.val, hsz2]) rfl ⟨?_, ?_, p, rfl, ?_⟩
  · exact Fr.mono (S := fun k => k = q ∨ W.heap.size ≤ k) ((fr_stores7 ((Fr.mono F2.out (fun _ _ h => h.elim)).setCell (p := ⟨q, 0, none⟩) (.inl (.inl rfl)) _) (.inr (Nat.le_refl _)) _ _ _ _ _ _ _).alloc _) (fun k hk h => by rcases h with h | h; exact h; omega)
  · exact (S2.out.set _).keep ((fr_stores7 (Fr.refl (fun k => k = W.heap.size) _) rfl _ _ _ _ _ _ _).alloc _) (by omega)
  · exact (HO.out.keep (S := fun k => k = q ∨ k = W.heap.size) ((fr_stores7 ((Fr.refl _ _).setCell (p := ⟨q, 0, none⟩) (.inl (.inl rfl)) _) (.inr rfl) _ _ _ _ _ _ _).alloc _) (fun k h => by simp; omega)).base (by simp)

theorem next_any {W : World} {q : Nat} {s : List UInt8} (h : SplAt W q s 0) (hl : s.length ≤ 1000000000) : Calls Try.prog 61 #[.pointer (some ⟨q, 0, none⟩)] W (NextPost W q (nextS s)) := by
  rcases s with _ | ⟨a, _ | ⟨b, r⟩⟩
  · exact next_short h (by simp)
  · exact next_short h (by simp)
  · have hg : getNum ((a :: b :: r).take 2) = 256 * a.toNat + b.toNat := by simp [getNum]
    have hl' : r.length ≤ 1000000000 := by simp at hl; omega
    unfold nextS
    rw [hg, if_neg (by simp)]
    by_cases h1 : 4096 < 256 * a.toNat + b.toNat
    · rw [if_pos h1]; exact next_great h hl' h1
    · rw [if_neg h1]
      by_cases h2 : r.length < 256 * a.toNat + b.toNat
      · rw [if_pos (by simp; omega)]; exact next_wait h hl' h1 h2
      · rw [if_neg (by simp; omega)]
        have hd : ((a :: b :: r).drop 2) = r := rfl
        have hd2 : (a :: b :: r).drop (2 + (256 * a.toNat + b.toNat)) = r.drop (256 * a.toNat + b.toNat) := by rw [← List.drop_drop, hd]
        rw [hd, hd2]
        cases hc : Msg.dec (r.take (256 * a.toNat + b.toNat)) with
        | ref c => exact next_bad h hl' h1 (by omega) hc
        | ok m t => exact next_ok h hl' h1 (by omega) hc
end Go.Proofs.Ytkclgemkeifbaaa
