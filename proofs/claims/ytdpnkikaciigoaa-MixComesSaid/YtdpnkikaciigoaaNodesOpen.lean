/-
  Rows of numbers in an array among the arguments of a statement.
-/
import Derived.Test.YtdpnkikaciigoaaBase
import Derived.Test.YtdpnkikaciigoaaFlat
import Derived.WalkArith
namespace Go.Proofs.Ytdpnkikaciigoaa
open Go.RowKit Go.Proofs Go.ChangeShapes Go.WideShapes
section
variable {H : Type} {enc : TypeId × Value → H} {w : World} {base : Nat} {held : Bool}

/-- a row of integers -/
theorem ints_in {n : Nat} {cs : List Value} {x : DataW H × List MemPlace} (h : DataW.trod enc Try.prog w base (fun _ => true) held n 22 cs = some x) :
    ∃ (a : Option Addr) (cap : Nat) (l : List Int), cs = [.slice a l.length cap] ∧ SlA w a l.length cap (l.map (Value.int .i64)) := by
  rcases open_ints Try.underlying22 Try.underlying3 (by kernel_rfl) h with ⟨hcs, _⟩ | ⟨a, len, cap, zs, hcs, _, hl, hm, hzl, hx, hcell, hwz⟩
  · exact ⟨none, 0, [], hcs, SlA.nil w⟩
  · obtain ⟨l, hlen, hs, _⟩ := sla_of_row (w := w) (a := some a) (len := len) (cap := cap) (k := .i64) (.inr ⟨a, rfl, hl, hm, by simpa using hzl, hcell, hwz⟩)
    subst hlen
    exact ⟨some a, cap, l, hcs, hs⟩

set_option maxRecDepth 100000 in
theorem nodes2_of {v : Value} {r : Reach} {b : Nat} (ok : Value.okWide Try.prog w r b 75 v)
    (h : ∃ n x, DataW.trod enc Try.prog w base (fun _ => true) held n 75 v.cells.toList = some x) :
    ∃ (a0 : Option Addr) (c0 : Nat) (l0 : List Int) (a1 : Option Addr) (c1 : Nat) (l1 : List Int), v = .agg #[.slice a0 l0.length c0, .slice a1 l1.length c1] ∧ SlA w a0 l0.length c0 (l0.map (Value.int .i64)) ∧ SlA w a1 l1.length c1 (l1.map (Value.int .i64)) := by
  obtain ⟨cs, rfl, _⟩ := okWide_array Try.underlying75 ok
  obtain ⟨n, x, hm⟩ := h
  obtain ⟨xs, m, _, -, hlen, hxl, hf⟩ := DataW.trod_array Try.underlying75 hm
  have hc : Try.prog.cellsOf 75 = 2 := by kernel_rfl
  have hc1 : Try.prog.cellsOf 22 = 1 := by kernel_rfl
  rw [hc] at hlen
  obtain ⟨l, rfl⟩ : ∃ l : List Value, cs = l.toArray := ⟨cs.toList, by simp⟩
  simp only [Value.cells] at hlen hf
  rw [hc1] at hf
  match l, hlen with
  | [v0, v1], _ =>
    match xs, hxl with
    | [y0, y1], _ =>
      have h0 := hf 0 (by omega)
      have h1 := hf 1 (by omega)
      simp only [List.drop, List.take] at h0
      obtain ⟨a0, c0, l0, e0, s0⟩ := ints_in (show DataW.trod enc Try.prog w base (fun _ => true) held m 22 [v0] = some y0 from h0)
      simp only [List.drop, List.take] at h1
      obtain ⟨a1, c1, l1, e1, s1⟩ := ints_in (show DataW.trod enc Try.prog w base (fun _ => true) held m 22 [v1] = some y1 from h1)
      simp only [List.cons.injEq, and_true] at e0
      simp only [List.cons.injEq, and_true] at e1
      subst e0 e1
      exact ⟨a0, c0, l0, a1, c1, l1, rfl, s0, s1⟩
set_option maxRecDepth 100000 in
theorem nodes3_of {v : Value} {r : Reach} {b : Nat} (ok : Value.okWide Try.prog w r b 94 v)
    (h : ∃ n x, DataW.trod enc Try.prog w base (fun _ => true) held n 94 v.cells.toList = some x) :
    ∃ (a0 : Option Addr) (c0 : Nat) (l0 : List Int) (a1 : Option Addr) (c1 : Nat) (l1 : List Int) (a2 : Option Addr) (c2 : Nat) (l2 : List Int), v = .agg #[.slice a0 l0.length c0, .slice a1 l1.length c1, .slice a2 l2.length c2] ∧ SlA w a0 l0.length c0 (l0.map (Value.int .i64)) ∧ SlA w a1 l1.length c1 (l1.map (Value.int .i64)) ∧ SlA w a2 l2.length c2 (l2.map (Value.int .i64)) := by
  obtain ⟨cs, rfl, _⟩ := okWide_array Try.underlying94 ok
  obtain ⟨n, x, hm⟩ := h
  obtain ⟨xs, m, _, -, hlen, hxl, hf⟩ := DataW.trod_array Try.underlying94 hm
  have hc : Try.prog.cellsOf 94 = 3 := by kernel_rfl
  have hc1 : Try.prog.cellsOf 22 = 1 := by kernel_rfl
  rw [hc] at hlen
  obtain ⟨l, rfl⟩ : ∃ l : List Value, cs = l.toArray := ⟨cs.toList, by simp⟩
  simp only [Value.cells] at hlen hf
  rw [hc1] at hf
  match l, hlen with
  | [v0, v1, v2], _ =>
    match xs, hxl with
    | [y0, y1, y2], _ =>
      have h0 := hf 0 (by omega)
      have h1 := hf 1 (by omega)
      have h2 := hf 2 (by omega)
      simp only [List.drop, List.take] at h0
      obtain ⟨a0, c0, l0, e0, s0⟩ := ints_in (show DataW.trod enc Try.prog w base (fun _ => true) held m 22 [v0] = some y0 from h0)
      simp only [List.drop, List.take] at h1
      obtain ⟨a1, c1, l1, e1, s1⟩ := ints_in (show DataW.trod enc Try.prog w base (fun _ => true) held m 22 [v1] = some y1 from h1)
      simp only [List.drop, List.take] at h2
      obtain ⟨a2, c2, l2, e2, s2⟩ := ints_in (show DataW.trod enc Try.prog w base (fun _ => true) held m 22 [v2] = some y2 from h2)
      simp only [List.cons.injEq, and_true] at e0
      simp only [List.cons.injEq, and_true] at e1
      simp only [List.cons.injEq, and_true] at e2
      subst e0 e1 e2
      exact ⟨a0, c0, l0, a1, c1, l1, a2, c2, l2, rfl, s0, s1, s2⟩
end
end Go.Proofs.Ytdpnkikaciigoaa
