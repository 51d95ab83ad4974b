/-
  A message among the arguments of a statement, read as plain data.
-/
import Derived.Test.YtkclgemkeifbaaaMsgBothA
import Derived.Test.YtkclgemkeifbaaaFlat
import Derived.WalkArith
namespace Go.Proofs.Ytkclgemkeifbaaa
open Go.RowKit Go.Proofs Go.ChangeShapes Go.WideShapes

theorem flatMap_int (l : List Int) : l.flatMap MInt.cells = l.map (Value.int .i64) := by
  induction l with
  | nil => rfl
  | cons x r ih => simp [ih]
theorem flatten_map {α : Type} (f : α → List Value) (l : List α) : (l.map f).flatten = l.flatMap f := by rw [List.flatMap_def]

theorem rec_of_fits {c : List Value} (h : FitsAll [.str, .int .u64, .int .i64, .int .i64, .bool, .str] c) :
    ∃ r : MRec, c = r.cells ∧ (r.key.size ≤ 9223372036854775807 ∧ r.data.size ≤ 9223372036854775807 ∧ (0 ≤ r.ver ∧ r.ver < 18446744073709551616)) := by
  obtain ⟨_, _, rfl, ⟨k, rfl, hk⟩, _, _, rfl, ⟨v, rfl, hv⟩, _, _, rfl, ⟨o, rfl, _⟩, _, _, rfl, ⟨a, rfl, _⟩, _, _, rfl, ⟨g, rfl⟩, _, _, rfl, ⟨d, rfl, hd⟩, rfl⟩ := h
  have := bounds_u64 hv
  unfold maxLen at hk hd
  exact ⟨⟨k, v, o, a, g, d⟩, rfl, hk, hd, by simp only; omega, by simp only; omega⟩

set_option maxRecDepth 100000 in
set_option maxHeartbeats 1000000 in
theorem lmsg_of {H : Type} {enc : TypeId × Value → H} {w : World} {base : Nat} {spare : Nat → Bool} {held : Bool} {v : Value} {r : Reach} {b : Nat} (ok : Value.okWide Try.prog w r b 25 v)
    (h : ∃ n x, DataW.trod enc Try.prog w base spare held n 25 v.cells.toList = some x) : ∃ (m : LMsg) (p : MsgP), v = m.val p ∧ LMsgAt w m p ∧ m.Ok := by
  obtain ⟨cs, rfl, _⟩ := okWide_struct Try.underlying25 ok
  obtain ⟨n, x, hm⟩ := h
  obtain ⟨xs, n', _, hx, hlen, hxl, hf⟩ := DataW.trod_struct Try.underlying25 hm
  have hc : Try.prog.cellsOf 25 = 7 := by kernel_rfl
  rw [hc] at hlen
  have c1 : Try.prog.cellsOf 3 = 1 := by kernel_rfl
  have c2 : Try.prog.cellsOf 4 = 1 := by kernel_rfl
  have c3 : Try.prog.cellsOf 22 = 1 := by kernel_rfl
  have c4 : Try.prog.cellsOf 23 = 1 := by kernel_rfl
  obtain ⟨l, rfl⟩ : ∃ l : List Value, cs = l.toArray := ⟨cs.toList, by simp⟩
  simp only [Value.cells] at hlen hf
  match l, hlen with
  | [v0, v1, v2, v3, v4, v5, v6], _ =>
    match xs, hxl with
    | [y0, y1, y2, y3, y4, y5, y6], _ =>
      have h0 := hf 0 _ rfl
      have h1 := hf 1 _ rfl
      have h2 := hf 2 _ rfl
      have h3 := hf 3 _ rfl
      have h4 := hf 4 _ rfl
      have h5 := hf 5 _ rfl
      have h6 := hf 6 _ rfl
      obtain ⟨a0, e0, _, w0⟩ := DataW.trod_int Try.underlying3 h0
      obtain ⟨a1, e1, _, w1⟩ := DataW.trod_int Try.underlying3 h1
      obtain ⟨a2, e2, _, w2⟩ := DataW.trod_int Try.underlying3 h2
      obtain ⟨a3, e3, _⟩ := DataW.trod_bool Try.underlying4 h3
      have f0 : List.take (Try.prog.cellsOf 3) [v0, v1, v2, v3, v4, v5, v6] = [.int .i64 a0] := e0
      have f1 : List.take (Try.prog.cellsOf 3) [v1, v2, v3, v4, v5, v6] = [.int .i64 a1] := e1
      have f2 : List.take (Try.prog.cellsOf 3) [v2, v3, v4, v5, v6] = [.int .i64 a2] := e2
      have f3 : List.take (Try.prog.cellsOf 4) [v3, v4, v5, v6] = [.bool a3] := e3
      rw [c1] at f0 f1 f2
      rw [c2] at f3
      have h4' : DataW.trod enc Try.prog w base spare held n' 22 (List.take (Try.prog.cellsOf 22) [v4, v5, v6]) = some y4 := h4
      have h5' : DataW.trod enc Try.prog w base spare held n' 23 (List.take (Try.prog.cellsOf 23) [v5, v6]) = some y5 := h5
      have h6' : DataW.trod enc Try.prog w base spare held n' 23 (List.take (Try.prog.cellsOf 23) [v6]) = some y6 := h6
      rw [c3] at h4'
      rw [c4] at h5' h6'
      obtain ⟨A1, C1, L1, g1, s1, t1⟩ := flat_slice (d := 8) (ls := [.int .i64]) Try.underlying22 (by kernel_rfl) (by kernel_rfl) (by decide) h4'
      obtain ⟨A2, C2, L2, g2, s2, t2⟩ := flat_slice (d := 8) (ls := [.str, .int .u64, .int .i64, .int .i64, .bool, .str]) Try.underlying23 (by kernel_rfl) (by kernel_rfl) (by decide) h5'
      obtain ⟨A3, C3, L3, g3, s3, t3⟩ := flat_slice (d := 8) (ls := [.str, .int .u64, .int .i64, .int .i64, .bool, .str]) Try.underlying23 (by kernel_rfl) (by kernel_rfl) (by decide) h6'
      clear e0 e1 e2 e3 h0 h1 h2 h3 h4 h5 h6 h4' h5' h6' hf hx hm ok
      simp at f0 f1 f2 f3 g1 g2 g3
      subst f0 f1 f2 f3 g1 g2 g3
      obtain ⟨l1, rfl⟩ := rows_map (f := MInt.cells) (L := L1) (fun c hc => by
        obtain ⟨_, _, rfl, ⟨n, rfl, _⟩, rfl⟩ := t1 c hc
        exact ⟨n, rfl⟩)
      obtain ⟨l2, rfl, k2⟩ := rows_map' (f := MRec.cells) (L := L2) (fun c hc => rec_of_fits (t2 c hc))
      obtain ⟨l3, rfl, k3⟩ := rows_map' (f := MRec.cells) (L := L3) (fun c hc => rec_of_fits (t3 c hc))
      rw [List.length_map, flatten_map] at s1 s2 s3
      refine ⟨⟨a0, a1, a2, a3, l1, l2, l3⟩, ⟨A1, C1, A2, C2, A3, C3⟩, by simp [LMsg.val], ⟨s1, s2, s3⟩, ⟨fun x hx => ⟨(k2 x hx).1, (k2 x hx).2.2⟩, fun x hx => k3 x hx⟩⟩
end Go.Proofs.Ytkclgemkeifbaaa
