/-
  Queries and records among the arguments of a statement, read as plain data.
-/
import Derived.Test.YtkclgemkeifbaaaRepBoth
import Derived.Test.YtkclgemkeifbaaaFlat
import Derived.WalkArith
namespace Go.Proofs.Ytkclgemkeifbaaa
open Go.RowKit Go.Proofs Go.ChangeShapes Go.WideShapes
section
variable {H : Type} {enc : TypeId × Value → H} {w : World} {base : Nat} {spare : Nat → Bool} {held : Bool}

/-- a slice of elements of which something is known where they are read -/
theorem pred_slice {t e : TypeId} {fuel : Nat} {cs : List Value} {x : DataW H × List MemPlace} {k : Nat} {pred : List Value → Prop} (ht : Try.prog.underlying t = some (.slice e))
    (hp : ∀ n cs x, DataW.trod enc Try.prog w base spare held n e cs = some x → pred cs ∧ cs.length = k) (hc : Try.prog.cellsOf e = k) (h0 : 0 < k)
    (h : DataW.trod enc Try.prog w base spare held fuel t cs = some x) :
    ∃ (a : Option Addr) (cap : Nat) (L : List (List Value)), cs = [.slice a L.length cap] ∧ SlA w a L.length cap L.flatten ∧ ∀ c ∈ L, pred c ∧ c.length = k := by
  rcases Go.Deep.open_slice ht h with ⟨hc, _⟩ | ⟨a, len, cap, m, n, D, Pl, hcs, _, hle, hm, hmm, _, hi⟩
  · exact ⟨none, 0, [], hc, SlA.nil w, fun p h => by cases h⟩
  · have hml : len ≤ m := by rw [hmm]; split <;> omega
    have each : ∀ i, ∃ c : List Value, i < len → (pred c ∧ c.length = k) ∧ ∀ r, r < k → w.cell? (a.add (i * k + r)) = c[r]? := by
      intro i
      by_cases hil : i < len
      · obtain ⟨cs', hcs, ht⟩ := hi i (by omega)
        have hf := hp _ cs' _ ht
        rw [hc] at hcs
        obtain ⟨_, _, hat⟩ := World.cells?_some hcs
        refine ⟨cs', fun _ => ⟨hf, fun r hr => ?_⟩⟩
        have := hat r hr
        rw [← this, Go.Deep.add_add]
      · exact ⟨[], fun h => absurd h hil⟩
    let f : Nat → List Value := fun i => Classical.choose (each i)
    have hf : ∀ i, i < len → (pred (f i) ∧ (f i).length = k) ∧ ∀ r, r < k → w.cell? (a.add (i * k + r)) = (f i)[r]? := fun i => Classical.choose_spec (each i)
    have hmem : ∀ c ∈ (List.range len).map f, pred c ∧ c.length = k := by
      intro c hc
      obtain ⟨i, hi, rfl⟩ := List.mem_map.1 hc
      exact (hf i (by simpa using hi)).1
    refine ⟨some a, cap, (List.range len).map f, by simpa using hcs, ⟨by simpa using hle, hm, fun j u hj => ?_⟩, hmem⟩
    obtain ⟨i, r, c, rfl, hr, hic, hu⟩ := flat_flatten _ k (fun c hc => (hmem c hc).2) j u hj
    have hil : i < len := by
      have := (List.getElem?_eq_some_iff.1 hic).1
      simpa using this
    have hpe : c = f i := by
      rw [List.getElem?_map, List.getElem?_range hil] at hic
      simpa using hic.symm
    have hcell := (hf i hil).2 r hr
    rw [← hpe, hu] at hcell
    have h00 := (hf 0 (by omega)).2 0 h0
    have ha0 : a.add (0 * k + 0) = a := by simp [Addr.add]
    rw [ha0] at h00
    have hl0 := ((hf 0 (by omega)).1).2
    have hs : a.spot = none := spot_free (v := (f 0)[0]'(by omega)) (by rw [h00]; simp)
    obtain ⟨b, o, sp⟩ := a
    simp only at hs
    subst hs
    refine ⟨b, o, rfl, ?_⟩
    rw [← hcell, Addr.add_lit]

theorem flat_strs (l : List Lbl) : (l.map fun x : Lbl => [strV x]).flatten = strVs l := by
  induction l with
  | nil => rfl
  | cons x l ih => rw [List.map_cons, List.flatten_cons, ih]; rfl
/-- a slice of strings -/
theorem strs_of {n : Nat} {cs : List Value} {x : DataW H × List MemPlace} (h : DataW.trod enc Try.prog w base spare held n 65 cs = some x) :
    ∃ (a : Option Addr) (cap : Nat) (l : List Lbl), cs = [.slice a l.length cap] ∧ SlA w a l.length cap (strVs l) := by
  obtain ⟨a, cap, L, hcs, hs, hf⟩ := flat_slice (d := 8) (ls := [.str]) Try.underlying65 (by kernel_rfl) (by kernel_rfl) (by decide) h
  obtain ⟨l, rfl⟩ := rows_map (f := fun x : Lbl => [strV x]) (L := L) (fun c hc => by
    obtain ⟨_, _, rfl, ⟨s, rfl, _⟩, rfl⟩ := hf c hc
    exact ⟨s.data.toList, by simp [strV]⟩)
  rw [List.length_map] at hcs hs
  refine ⟨a, cap, l, hcs, ?_⟩
  rwa [flat_strs] at hs

set_option maxRecDepth 100000 in
set_option maxHeartbeats 1000000 in
/-- a record of the statements -/
theorem lrec_of {n : Nat} {cs : List Value} {x : DataW H × List MemPlace} (h : DataW.trod enc Try.prog w base spare held n 152 cs = some x) :
    (∃ y : RowR, cs = RowR.cells y ∧ SlA w y.2.1 y.1.target.length y.2.2 (strVs y.1.target) ∧ y.1.Fits) ∧ cs.length = 10 := by
  obtain ⟨xs, n', _, hx, hlen, hxl, hf⟩ := DataW.trod_struct Try.underlying152 h
  have hc : Try.prog.cellsOf 152 = 10 := by kernel_rfl
  rw [hc] at hlen
  have c1 : Try.prog.cellsOf 61 = 1 := by kernel_rfl
  have c2 : Try.prog.cellsOf 107 = 1 := by kernel_rfl
  have c3 : Try.prog.cellsOf 108 = 4 := by kernel_rfl
  have c4 : Try.prog.cellsOf 65 = 1 := by kernel_rfl
  refine ⟨?_, hlen⟩
  match cs, hlen with
  | [v0, v1, v2, v3, v4, v5, v6, v7, v8, v9], _ =>
    match xs, hxl with
    | [y0, y1, y2, y3, y4, y5, y6], _ =>
      have h0 := hf 0 _ rfl
      have h1 := hf 1 _ rfl
      have h2 := hf 2 _ rfl
      have h3 := hf 3 _ rfl
      have h4 := hf 4 _ rfl
      have h5 := hf 5 _ rfl
      have h6 := hf 6 _ rfl
      obtain ⟨a0, e0, _, w0⟩ := DataW.trod_int Try.underlying61 h0
      obtain ⟨a1, e1, _, w1⟩ := DataW.trod_int Try.underlying107 h1
      obtain ⟨a3, e3, _, w3⟩ := DataW.trod_int Try.underlying61 h3
      obtain ⟨a4, e4, _, w4⟩ := DataW.trod_int Try.underlying61 h4
      obtain ⟨a5, e5, _, w5⟩ := DataW.trod_int Try.underlying61 h5
      have f0 : List.take (Try.prog.cellsOf 61) [v0, v1, v2, v3, v4, v5, v6, v7, v8, v9] = [.int .u16 a0] := e0
      have f1 : List.take (Try.prog.cellsOf 107) [v1, v2, v3, v4, v5, v6, v7, v8, v9] = [.int .u32 a1] := e1
      have f3 : List.take (Try.prog.cellsOf 61) [v6, v7, v8, v9] = [.int .u16 a3] := e3
      have f4 : List.take (Try.prog.cellsOf 61) [v7, v8, v9] = [.int .u16 a4] := e4
      have f5 : List.take (Try.prog.cellsOf 61) [v8, v9] = [.int .u16 a5] := e5
      have h2' : DataW.trod enc Try.prog w base spare held n' 108 (List.take (Try.prog.cellsOf 108) [v2, v3, v4, v5, v6, v7, v8, v9]) = some y2 := h2
      have h6' : DataW.trod enc Try.prog w base spare held n' 65 (List.take (Try.prog.cellsOf 65) [v9]) = some y6 := h6
      rw [c1] at f0 f3 f4 f5
      rw [c2] at f1
      rw [c3] at h2'
      rw [c4] at h6'
      have g2 := flat_of 8 108 [.int .u8, .int .u8, .int .u8, .int .u8] _ (by kernel_rfl) ⟨_, _, h2'⟩
      obtain ⟨_, _, q2, ⟨b0, rfl, u0⟩, _, _, rfl, ⟨b1, rfl, u1⟩, _, _, rfl, ⟨b2, rfl, u2⟩, _, _, rfl, ⟨b3, rfl, u3⟩, rfl⟩ := g2
      obtain ⟨A, C, l, q6, hs⟩ := strs_of h6'
      clear e0 e1 e3 e4 e5 h0 h1 h2 h3 h4 h5 h6 h2' h6' hf hx h
      simp at f0 f1 f3 f4 f5 q2 q6
      obtain ⟨rfl, rfl, rfl, rfl⟩ := q2
      subst f0 f1 f3 f4 f5 q6
      refine ⟨(⟨a0, a1, b0, b1, b2, b3, a3, a4, a5, l⟩, A, C), rfl, hs, ?_⟩
      exact ⟨bounds_u16 w0, by have := bounds_u32 w1; simp only; omega, bounds_u8 u0, bounds_u8 u1, bounds_u8 u2, bounds_u8 u3, bounds_u16 w3, bounds_u16 w4, bounds_u16 w5⟩

/-- a row of records -/
theorem lrecs_of {n : Nat} {cs : List Value} {x : DataW H × List MemPlace} (h : DataW.trod enc Try.prog w base spare held n 93 cs = some x) :
    ∃ (a : Option Addr) (cap : Nat) (L : List RowR), cs = [.slice a L.length cap] ∧ RowsAt w a cap L := by
  obtain ⟨a, cap, L0, hcs, hs, hp⟩ := pred_slice (k := 10) (pred := fun cs => ∃ y : RowR, cs = RowR.cells y ∧ SlA w y.2.1 y.1.target.length y.2.2 (strVs y.1.target) ∧ y.1.Fits) Try.underlying93 (fun n cs x h => lrec_of h) (by kernel_rfl) (by decide) h
  obtain ⟨L, rfl, hL⟩ := rows_map' (f := RowR.cells) (p := fun y => SlA w y.2.1 y.1.target.length y.2.2 (strVs y.1.target) ∧ y.1.Fits) (L := L0) (fun c hc => by
    obtain ⟨y, h1, h2, h3⟩ := (hp c hc).1
    exact ⟨y, h1, h2, h3⟩)
  rw [List.length_map] at hcs hs
  rw [show (L.map RowR.cells).flatten = L.flatMap RowR.cells by rw [List.flatMap_def]] at hs
  exact ⟨a, cap, L, hcs, hs, fun y hy => (hL y hy).1, fun y hy => (hL y hy).2⟩

set_option maxRecDepth 100000 in
theorem open_lrecs {v : Value} {r : Reach} {b : Nat} (ok : Value.okWide Try.prog w r b 93 v) (h : ∃ n x, DataW.trod enc Try.prog w base spare held n 93 v.cells.toList = some x) :
    ∃ (a : Option Addr) (cap : Nat) (L : List RowR), v = .slice a L.length cap ∧ RowsAt w a cap L := by
  obtain ⟨a1, len1, cap1, rfl⟩ := okWide_slice Try.underlying93 ok
  obtain ⟨n, x, hm⟩ := h
  obtain ⟨a', cap', L, hcs, hL⟩ := lrecs_of hm
  simp [Value.cells] at hcs
  obtain ⟨rfl, rfl, rfl⟩ := hcs
  exact ⟨_, _, L, rfl, hL⟩

set_option maxRecDepth 100000 in
set_option maxHeartbeats 1000000 in
/-- a query of the statements -/
theorem lquery_of {v : Value} {r : Reach} {b : Nat} (ok : Value.okWide Try.prog w r b 92 v)
    (h : ∃ n x, DataW.trod enc Try.prog w base spare held n 92 v.cells.toList = some x) : ∃ (y : LQ) (a : Option Addr) (cap : Nat), v = .agg (y.arr a cap) ∧ SlA w a y.name.length cap (strVs y.name) ∧ y.Fits := by
  obtain ⟨cs, rfl, _⟩ := okWide_struct Try.underlying92 ok
  obtain ⟨n, x, hm⟩ := h
  obtain ⟨xs, n', _, hx, hlen, hxl, hf⟩ := DataW.trod_struct Try.underlying92 hm
  have hc : Try.prog.cellsOf 92 = 8 := by kernel_rfl
  rw [hc] at hlen
  have c1 : Try.prog.cellsOf 61 = 1 := by kernel_rfl
  have c2 : Try.prog.cellsOf 5 = 1 := by kernel_rfl
  have c3 : Try.prog.cellsOf 4 = 1 := by kernel_rfl
  have c4 : Try.prog.cellsOf 65 = 1 := by kernel_rfl
  have c5 : Try.prog.cellsOf 3 = 1 := by kernel_rfl
  obtain ⟨l, rfl⟩ : ∃ l : List Value, cs = l.toArray := ⟨cs.toList, by simp⟩
  simp only [Value.cells] at hlen hf
  match l, hlen with
  | [v0, v1, v2, v3, v4, v5, v6, v7], _ =>
    match xs, hxl with
    | [y0, y1, y2, y3, y4, y5, y6, y7], _ =>
      have h0 := hf 0 _ rfl
      have h1 := hf 1 _ rfl
      have h2 := hf 2 _ rfl
      have h3 := hf 3 _ rfl
      have h4 := hf 4 _ rfl
      have h5 := hf 5 _ rfl
      have h6 := hf 6 _ rfl
      have h7 := hf 7 _ rfl
      obtain ⟨a0, e0, _, w0⟩ := DataW.trod_int Try.underlying61 h0
      obtain ⟨a1, e1, _, w1⟩ := DataW.trod_int Try.underlying5 h1
      obtain ⟨a2, e2, _⟩ := DataW.trod_bool Try.underlying4 h2
      obtain ⟨a3, e3, _⟩ := DataW.trod_bool Try.underlying4 h3
      obtain ⟨a5, e5, _, w5⟩ := DataW.trod_int Try.underlying61 h5
      obtain ⟨a6, e6, _, w6⟩ := DataW.trod_int Try.underlying61 h6
      obtain ⟨a7, e7, _, w7⟩ := DataW.trod_int Try.underlying3 h7
      have f0 : List.take (Try.prog.cellsOf 61) [v0, v1, v2, v3, v4, v5, v6, v7] = [.int .u16 a0] := e0
      have f1 : List.take (Try.prog.cellsOf 5) [v1, v2, v3, v4, v5, v6, v7] = [.int .u8 a1] := e1
      have f2 : List.take (Try.prog.cellsOf 4) [v2, v3, v4, v5, v6, v7] = [.bool a2] := e2
      have f3 : List.take (Try.prog.cellsOf 4) [v3, v4, v5, v6, v7] = [.bool a3] := e3
      have f5 : List.take (Try.prog.cellsOf 61) [v5, v6, v7] = [.int .u16 a5] := e5
      have f6 : List.take (Try.prog.cellsOf 61) [v6, v7] = [.int .u16 a6] := e6
      have f7 : List.take (Try.prog.cellsOf 3) [v7] = [.int .i64 a7] := e7
      have h4' : DataW.trod enc Try.prog w base spare held n' 65 (List.take (Try.prog.cellsOf 65) [v4, v5, v6, v7]) = some y4 := h4
      rw [c1] at f0 f5 f6
      rw [c2] at f1
      rw [c3] at f2 f3
      rw [c4] at h4'
      rw [c5] at f7
      obtain ⟨A, C, l, q4, hs⟩ := strs_of h4'
      clear e0 e1 e2 e3 e5 e6 e7 h0 h1 h2 h3 h4 h5 h6 h7 h4' hf hx hm ok
      simp at f0 f1 f2 f3 f5 f6 f7 q4
      subst f0 f1 f2 f3 f5 f6 f7 q4
      exact ⟨⟨a0, a1, a2, a3, l, a5, a6, a7⟩, A, C, rfl, hs, ⟨bounds_u16 w0, bounds_u8 w1, bounds_u16 w5, bounds_u16 w6, bounds_i64 w7⟩⟩
end
end Go.Proofs.Ytkclgemkeifbaaa
