/-
  The parameter of ReplyParses read as plain data (printed by gen_spoiltopen.py).
-/
import Derived.Test.YtkclgemkeifbaaaRepOpen
namespace Go.Proofs.Ytkclgemkeifbaaa
open Go.RowKit Go.Proofs Go.ChangeShapes Go.WideShapes

abbrev Spoilt.arr (s : List UInt8) (p0 p1 : Int) (y : LQ) (a : Option Addr) (cap : Nat) (a1 : Option Addr) (cap1 n : Nat) : Array Value :=
  #[.string ⟨s.toArray⟩, .int .u8 p0, .int .u8 p1, .int .u16 y.id, .int .u8 y.op, .bool y.des, .bool y.asked, .slice a y.name.length cap, .int .u16 y.t, .int .u16 y.c, .int .i64 y.code, .slice a1 n cap1]
section
variable {H : Type} {enc : TypeId × Value → H} {w : World} {base : Nat} {spare : Nat → Bool} {held : Bool}

set_option maxRecDepth 100000 in
set_option maxHeartbeats 1000000 in
/-- a query of the statements, of its cells -/
theorem lqueryc_of {cs : List Value} {n : Nat} {x : DataW H × List MemPlace}
    (hm : DataW.trod enc Try.prog w base spare held n 92 cs = some x) : ∃ (y : LQ) (a : Option Addr) (cap : Nat), cs = (y.arr a cap).toList ∧ SlA w a y.name.length cap (strVs y.name) ∧ y.Fits := by
  obtain ⟨xs, n', _, hx, hlen, hxl, hf⟩ := DataW.trod_struct Try.underlying92 hm
  have hc : Try.prog.cellsOf 92 = 8 := by kernel_rfl
  rw [hc] at hlen
  have c1 : Try.prog.cellsOf 61 = 1 := by kernel_rfl
  have c2 : Try.prog.cellsOf 5 = 1 := by kernel_rfl
  have c3 : Try.prog.cellsOf 4 = 1 := by kernel_rfl
  have c4 : Try.prog.cellsOf 65 = 1 := by kernel_rfl
  have c5 : Try.prog.cellsOf 3 = 1 := by kernel_rfl
  match cs, hlen with
  | [v0, v1, v2, v3, v4, v5, v6, v7], _ =>
    match xs, hxl with
    | [y0, y1, y2, y3, y4, y5, y6, y7], _ =>
      have h0 := hf 0 _ rfl
      have h1 := hf 1 _ rfl
      have h2 := hf 2 _ rfl
      have h3 := hf 3 _ rfl
      have h4 := hf 4 _ rfl
      have h5 := hf 5 _ rfl
      have h6 := hf 6 _ rfl
      have h7 := hf 7 _ rfl
      obtain ⟨a0, e0, _, w0⟩ := DataW.trod_int Try.underlying61 h0
      obtain ⟨a1, e1, _, w1⟩ := DataW.trod_int Try.underlying5 h1
      obtain ⟨a2, e2, _⟩ := DataW.trod_bool Try.underlying4 h2
      obtain ⟨a3, e3, _⟩ := DataW.trod_bool Try.underlying4 h3
      obtain ⟨a5, e5, _, w5⟩ := DataW.trod_int Try.underlying61 h5
      obtain ⟨a6, e6, _, w6⟩ := DataW.trod_int Try.underlying61 h6
      obtain ⟨a7, e7, _, w7⟩ := DataW.trod_int Try.underlying3 h7
      have f0 : List.take (Try.prog.cellsOf 61) [v0, v1, v2, v3, v4, v5, v6, v7] = [.int .u16 a0] := e0
      have f1 : List.take (Try.prog.cellsOf 5) [v1, v2, v3, v4, v5, v6, v7] = [.int .u8 a1] := e1
      have f2 : List.take (Try.prog.cellsOf 4) [v2, v3, v4, v5, v6, v7] = [.bool a2] := e2
      have f3 : List.take (Try.prog.cellsOf 4) [v3, v4, v5, v6, v7] = [.bool a3] := e3
      have f5 : List.take (Try.prog.cellsOf 61) [v5, v6, v7] = [.int .u16 a5] := e5
      have f6 : List.take (Try.prog.cellsOf 61) [v6, v7] = [.int .u16 a6] := e6
      have f7 : List.take (Try.prog.cellsOf 3) [v7] = [.int .i64 a7] := e7
      have h4' : DataW.trod enc Try.prog w base spare held n' 65 (List.take (Try.prog.cellsOf 65) [v4, v5, v6, v7]) = some y4 := h4
      rw [c1] at f0 f5 f6
      rw [c2] at f1
      rw [c3] at f2 f3
      rw [c4] at h4'
      rw [c5] at f7
      obtain ⟨A, C, l, q4, hs⟩ := strs_of h4'
      clear e0 e1 e2 e3 e5 e6 e7 h0 h1 h2 h3 h4 h5 h6 h7 h4' hf hx hm
      simp at f0 f1 f2 f3 f5 f6 f7 q4
      subst f0 f1 f2 f3 f5 f6 f7 q4
      exact ⟨⟨a0, a1, a2, a3, l, a5, a6, a7⟩, A, C, rfl, hs, ⟨bounds_u16 w0, bounds_u8 w1, bounds_u16 w5, bounds_u16 w6, bounds_i64 w7⟩⟩

set_option maxRecDepth 100000 in
set_option maxHeartbeats 1000000 in
theorem spoilt_of {v : Value} {r : Reach} {b : Nat} (ok : Value.okWide Try.prog w r b 116 v) (h : ∃ n x, DataW.trod enc Try.prog w base spare held n 116 v.cells.toList = some x) :
    ∃ (s : List UInt8) (p0 p1 : Int) (y : LQ) (a : Option Addr) (cap : Nat) (a1 : Option Addr) (cap1 : Nat) (L : List RowR), v = .agg (Spoilt.arr s p0 p1 y a cap a1 cap1 L.length) ∧ s.length ≤ 9223372036854775807 ∧ (0 ≤ p0 ∧ p0 ≤ 255) ∧ (0 ≤ p1 ∧ p1 ≤ 255) ∧
      SlA w a y.name.length cap (strVs y.name) ∧ y.Fits ∧ RowsAt w a1 cap1 L := by
  obtain ⟨cs, rfl, _⟩ := okWide_struct Try.underlying116 ok
  obtain ⟨n, x, hm⟩ := h
  obtain ⟨xs, n', _, hx, hlen, hxl, hf⟩ := DataW.trod_struct Try.underlying116 hm
  have hc : Try.prog.cellsOf 116 = 12 := by kernel_rfl
  rw [hc] at hlen
  have c1 : Try.prog.cellsOf 9 = 1 := by kernel_rfl
  have c2 : Try.prog.cellsOf 114 = 2 := by kernel_rfl
  have c3 : Try.prog.cellsOf 92 = 8 := by kernel_rfl
  have c4 : Try.prog.cellsOf 93 = 1 := by kernel_rfl
  obtain ⟨l, rfl⟩ : ∃ l : List Value, cs = l.toArray := ⟨cs.toList, by simp⟩
  simp only [Value.cells] at hlen hf
  match l, hlen with
  | [v0, v1, v2, v3, v4, v5, v6, v7, v8, v9, v10, v11], _ =>
    match xs, hxl with
    | [y0, y1, y2, y3], _ =>
      have h0 := hf 0 _ rfl
      have h1 := hf 1 _ rfl
      have h2 := hf 2 _ rfl
      have h3 := hf 3 _ rfl
      have h0' : DataW.trod enc Try.prog w base spare held n' 9 (List.take (Try.prog.cellsOf 9) [v0, v1, v2, v3, v4, v5, v6, v7, v8, v9, v10, v11]) = some y0 := h0
      have h1' : DataW.trod enc Try.prog w base spare held n' 114 (List.take (Try.prog.cellsOf 114) [v1, v2, v3, v4, v5, v6, v7, v8, v9, v10, v11]) = some y1 := h1
      have h2' : DataW.trod enc Try.prog w base spare held n' 92 (List.take (Try.prog.cellsOf 92) [v3, v4, v5, v6, v7, v8, v9, v10, v11]) = some y2 := h2
      have h3' : DataW.trod enc Try.prog w base spare held n' 93 (List.take (Try.prog.cellsOf 93) [v11]) = some y3 := h3
      rw [c1] at h0'
      rw [c2] at h1'
      rw [c3] at h2'
      rw [c4] at h3'
      have g0 := flat_of 8 9 [.str] _ (by kernel_rfl) ⟨_, _, h0'⟩
      have g1 := flat_of 8 114 [.int .u8, .int .u8] _ (by kernel_rfl) ⟨_, _, h1'⟩
      obtain ⟨_, _, q0, ⟨s, rfl, hsz⟩, rfl⟩ := g0
      obtain ⟨_, _, q1, ⟨b0, rfl, u0⟩, _, _, rfl, ⟨b1, rfl, u1⟩, rfl⟩ := g1
      obtain ⟨y, a, cap, q2, hs, hy⟩ := lqueryc_of h2'
      obtain ⟨a1, cap1, L, q3, hL⟩ := lrecs_of h3'
      clear h0 h1 h2 h3 h0' h1' h2' h3' hf hx hm ok
      simp at q0 q1 q2 q3
      obtain ⟨rfl, rfl⟩ := q1
      obtain ⟨rfl, rfl, rfl, rfl, rfl, rfl, rfl, rfl⟩ := q2
      subst q0 q3
      have hsl : s.data.toList.length ≤ 9223372036854775807 := by
        have e : s.data.toList.length = s.size := by simp
        rw [e]; exact hsz
      exact ⟨s.data.toList, b0, b1, y, a, cap, a1, cap1, L, by simp [Spoilt.arr], hsl, bounds_u8 u0, bounds_u8 u1, hs, hy, hL⟩
end
end Go.Proofs.Ytkclgemkeifbaaa
