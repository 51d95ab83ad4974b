/-
  Links of six nodes among the arguments of a statement.
-/
import Derived.Test.YtdpnkikaciigoaaWELaw
import Derived.Test.YtdpnkikaciigoaaFlat
import Derived.WalkArith
import Derived.SizedLaws
namespace Go.Proofs.Ytdpnkikaciigoaa
open Go.RowKit Go.Proofs Go.ChangeShapes Go.WideShapes
section
variable {H : Type} {enc : TypeId × Value → H} {w : World} {base : Nat} {held : Bool}

/-- a row of numbers in a struct -/
theorem row_in {n : Nat} {cs : List Value} {x : DataW H × List MemPlace} (h : DataW.trod enc Try.prog w base (fun _ => true) held n 49 cs = some x)
    (hz : ∀ elems sp, x.1 = .slice elems sp → (elems.length + sp.length) * 4 ≤ reachBytes) :
    ∃ (a : Option Addr) (cap : Nat) (l : List Int), cs = [.slice a l.length cap] ∧ SlA w a l.length cap (l.map (Value.int .u32)) ∧ (∀ m ∈ l, (Lit.int .u32 m).wf = true) ∧ l.length * 4 ≤ 140737488351232 := by
  rcases open_ints Try.underlying49 Try.underlying24 (by kernel_rfl) h with ⟨hcs, _⟩ | ⟨a, len, cap, zs, hcs, _, hl, hm, hzl, hx, hcell, hwz⟩
  · exact ⟨none, 0, [], hcs, SlA.nil w, by simp, by simp⟩
  · obtain ⟨l, hlen, hs, hw⟩ := sla_of_row (w := w) (a := some a) (len := len) (cap := cap) (k := .u32) (.inr ⟨a, rfl, hl, hm, by simpa using hzl, hcell, hwz⟩)
    subst hlen
    have hs2 := hz _ _ (by rw [hx])
    simp only [lits, List.length_map, List.length_take, List.length_drop, reachBytes] at hs2
    have hz2 : l.length ≤ zs.length := by rw [hzl]; split <;> omega
    exact ⟨some a, cap, l, hcs, hs, hw, by omega⟩

set_option maxRecDepth 100000 in
set_option maxHeartbeats 1000000 in
theorem links_of {v : Value} {r : Reach} {b : Nat} {d : DataW H} {pl : List MemPlace} (ok : Value.okWide Try.prog w r b 73 v)
    (h : ∃ n, DataW.trod enc Try.prog w base (fun _ => true) held n 73 v.cells.toList = some (d, pl))
    (hz : ∀ n ∈ d.weights Try.prog 73, n ≤ reachBytes) :
    ∃ (l0 l1 l2 l3 l4 l5 nd lf : Int) (a : Option Addr) (cap : Nat) (l : List Int), v = .agg #[.int .u8 l0, .int .u8 l1, .int .u8 l2, .int .u8 l3, .int .u8 l4, .int .u8 l5, .int .u8 nd, .int .u8 lf, .slice a l.length cap] ∧
      SlA w a l.length cap (l.map (Value.int .u32)) ∧ (∀ m ∈ l, 0 ≤ m ∧ m < 4294967296) ∧ l.length * 4 ≤ 140737488355328 ∧
      (0 ≤ l0 ∧ l0 ≤ 255) ∧ (0 ≤ l1 ∧ l1 ≤ 255) ∧ (0 ≤ l2 ∧ l2 ≤ 255) ∧ (0 ≤ l3 ∧ l3 ≤ 255) ∧ (0 ≤ l4 ∧ l4 ≤ 255) ∧ (0 ≤ l5 ∧ l5 ≤ 255) ∧ (0 ≤ nd ∧ nd ≤ 255) ∧ (0 ≤ lf ∧ lf ≤ 255) := by
  obtain ⟨cs, rfl, _⟩ := okWide_struct Try.underlying73 ok
  obtain ⟨n, hm⟩ := h
  obtain ⟨xs, n', _, hx, hlen, hxl, hf⟩ := DataW.trod_struct Try.underlying73 hm
  have hc : Try.prog.cellsOf 73 = 9 := by kernel_rfl
  rw [hc] at hlen
  have c1 : Try.prog.cellsOf 71 = 6 := by kernel_rfl
  have c2 : Try.prog.cellsOf 5 = 1 := by kernel_rfl
  have c4 : Try.prog.cellsOf 49 = 1 := by kernel_rfl
  obtain ⟨l, rfl⟩ : ∃ l : List Value, cs = l.toArray := ⟨cs.toList, by simp⟩
  simp only [Value.cells] at hlen hf
  match l, hlen with
  | [v0, v1, v2, v3, v4, v5, v6, v7, v8], _ =>
    match xs, hxl with
    | [y0, y1, y2, y3], _ =>
      have h0 := hf 0 _ rfl
      have h1 := hf 1 _ rfl
      have h2 := hf 2 _ rfl
      have h3 := hf 3 _ rfl
      obtain ⟨a1, e1, _, w1⟩ := DataW.trod_int Try.underlying5 h1
      obtain ⟨a2, e2, _, w2⟩ := DataW.trod_int Try.underlying5 h2
      have f1 : List.take (Try.prog.cellsOf 5) [v6, v7, v8] = [.int .u8 a1] := e1
      have f2 : List.take (Try.prog.cellsOf 5) [v7, v8] = [.int .u8 a2] := e2
      have h0' : DataW.trod enc Try.prog w base (fun _ => true) held n' 71 (List.take (Try.prog.cellsOf 71) [v0, v1, v2, v3, v4, v5, v6, v7, v8]) = some y0 := h0
      have h3' : DataW.trod enc Try.prog w base (fun _ => true) held n' 49 (List.take (Try.prog.cellsOf 49) [v8]) = some y3 := h3
      rw [c2] at f1 f2
      rw [c1] at h0'
      rw [c4] at h3'
      have hd : d = .agg [y0.1, y1.1, y2.1, y3.1] := congrArg Prod.fst hx
      have g0 := flat_of 8 71 [.int .u8, .int .u8, .int .u8, .int .u8, .int .u8, .int .u8] _ (by kernel_rfl) ⟨_, _, h0'⟩
      obtain ⟨_, _, q2, ⟨b0, rfl, u0⟩, _, _, rfl, ⟨b1, rfl, u1⟩, _, _, rfl, ⟨b2, rfl, u2⟩, _, _, rfl, ⟨b3, rfl, u3⟩, _, _, rfl, ⟨b4, rfl, u4⟩, _, _, rfl, ⟨b5, rfl, u5⟩, rfl⟩ := g0
      obtain ⟨A, C, l, q6, hs, hw, hb⟩ := row_in h3' (fun elems sp e => by
        apply hz
        rw [hd, e]
        have hu := Try.underlying73
        have hu2 := Try.underlying49
        have hb4 : Try.prog.bytesOf 24 = 4 := by kernel_rfl
        simp [DataW.weights, DataW.weightsEach, hu, hu2, hb4])
      clear e1 e2 h0 h1 h2 h3 h0' h3' hf hx hm ok hz
      simp at f1 f2 q2 q6
      obtain ⟨rfl, rfl, rfl, rfl, rfl, rfl⟩ := q2
      subst f1 f2 q6
      exact ⟨b0, b1, b2, b3, b4, b5, a1, a2, A, C, l, rfl, hs, (fun m hm => by have := bounds_u32 (hw m hm); omega), by omega, bounds_u8 u0, bounds_u8 u1, bounds_u8 u2, bounds_u8 u3, bounds_u8 u4, bounds_u8 u5, bounds_u8 w1, bounds_u8 w2⟩
end
end Go.Proofs.Ytdpnkikaciigoaa
