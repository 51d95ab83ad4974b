/-
  A slice of parts (what, a number, a size, a text) among the arguments, read as a list.
-/
import Derived.Test.YtoniebocphjmgaaBase
import Derived.Deep.Slices
import Derived.Deep.Fields
import Derived.SliceStrings
namespace Go.Proofs.Ytoniebocphjmgaa
open Go.RowKit Go.Proofs Go.ChangeShapes Go.WideShapes

structure Part where
  what : Int
  n : Int
  size : Int
  text : ByteArray

def Part.cells (p : Part) : List Value := [.int .i64 p.what, .int .u64 p.n, .int .i64 p.size, .string p.text]
def Part.fits (p : Part) : Prop := (Lit.int .i64 p.what).wf = true ∧ (Lit.int .u64 p.n).wf = true ∧ (Lit.int .i64 p.size).wf = true ∧ p.text.size ≤ maxLen

set_option maxRecDepth 100000 in
set_option maxHeartbeats 1000000 in
theorem part_of {H : Type} {enc : TypeId × Value → H} {w : World} {base : Nat} {spare : Nat → Bool} {held : Bool} {fuel : Nat} {cs : List Value} {x : DataW H × List MemPlace}
    (h : DataW.trod enc Try.prog w base spare held fuel 52 cs = some x) : ∃ p : Part, cs = p.cells ∧ p.fits ∧ ∃ d0 d1 d2, x.1 = .agg [d0, d1, d2, .lit (.string p.text.data.toList)] := by
  obtain ⟨xs, n, _, hx, hlen, hxl, hf⟩ := DataW.trod_struct Try.underlying52 h
  have hc : Try.prog.cellsOf 52 = 4 := by kernel_rfl
  rw [hc] at hlen
  have c1 : Try.prog.cellsOf 3 = 1 := by kernel_rfl
  have c2 : Try.prog.cellsOf 42 = 1 := by kernel_rfl
  have c3 : Try.prog.cellsOf 9 = 1 := by kernel_rfl
  match cs, hlen with
  | [v0, v1, v2, v3], _ =>
    match xs, hxl with
    | [y0, y1, y2, y3], _ =>
      have h0 := hf 0 _ rfl
      have h1 := hf 1 _ rfl
      have h2 := hf 2 _ rfl
      have h3 := hf 3 _ rfl
      obtain ⟨a0, e0, _, w0⟩ := DataW.trod_int Try.underlying3 h0
      obtain ⟨a1, e1, _, w1⟩ := DataW.trod_int Try.underlying42 h1
      obtain ⟨a2, e2, _, w2⟩ := DataW.trod_int Try.underlying3 h2
      obtain ⟨a3, e3, g3, w3⟩ := DataW.trod_string Try.underlying9 h3
      have f0 : List.take (Try.prog.cellsOf 3) [v0, v1, v2, v3] = [.int .i64 a0] := e0
      have f1 : List.take (Try.prog.cellsOf 42) [v1, v2, v3] = [.int .u64 a1] := e1
      have f2 : List.take (Try.prog.cellsOf 3) [v2, v3] = [.int .i64 a2] := e2
      have f3 : List.take (Try.prog.cellsOf 9) [v3] = [.string a3] := e3
      rw [c1] at f0 f2
      rw [c2] at f1
      rw [c3] at f3
      clear e0 e1 e2 e3
      simp at f0 f1 f2 f3
      subst f0 f1 f2 f3
      exact ⟨⟨a0, a1, a2, a3⟩, rfl, ⟨w0, w1, w2, w3⟩, y0.1, y1.1, y2.1, by rw [hx, g3]; rfl⟩

theorem flat_parts (l : List Part) : ∀ (j : Nat) (u : Value), (l.flatMap Part.cells)[j]? = some u → ∃ i r p, j = i * 4 + r ∧ r < 4 ∧ l[i]? = some p ∧ p.cells[r]? = some u := by
  induction l with
  | nil => intro j u h; simp at h
  | cons p l ih =>
    intro j u h
    rw [List.flatMap_cons] at h
    have hp : p.cells.length = 4 := rfl
    rcases Nat.lt_or_ge j 4 with hj | hj
    · rw [List.getElem?_append_left (by omega)] at h
      exact ⟨0, j, p, by omega, hj, rfl, h⟩
    · rw [List.getElem?_append_right (by omega), hp] at h
      obtain ⟨i, r, q, h1, h2, h3, h4⟩ := ih (j - 4) u h
      exact ⟨i + 1, r, q, by omega, h2, by simpa using h3, h4⟩

theorem spot_none {w : World} {a : Addr} {v : Value} (h : w.cell? a = some v) : a.spot = none := by
  cases hs : a.spot with
  | none => rfl
  | some q =>
    unfold World.cell? at h
    split at h
    · simp [hs] at h
    · cases h

set_option maxRecDepth 100000 in
theorem sla_of_parts {H : Type} {enc : TypeId × Value → H} {w : World} {base : Nat} {spare : Nat → Bool} {held : Bool} {fuel : Nat} {cs : List Value} {x : DataW H × List MemPlace}
    (h : DataW.trod enc Try.prog w base spare held fuel 50 cs = some x) : ∃ (a : Option Addr) (cap : Nat) (l : List Part), cs = [.slice a l.length cap] ∧ SlA w a l.length cap (l.flatMap Part.cells) ∧ (∀ p ∈ l, p.fits) ∧ ((l = []) ∨ ∃ elems spare, x.1 = .slice elems spare ∧ ∀ p ∈ l, ∃ d0 d1 d2, DataW.agg [d0, d1, d2, .lit (.string p.text.data.toList)] ∈ elems) := by
  rcases Go.Deep.open_slice Try.underlying50 h with ⟨hc, _⟩ | ⟨a, len, cap, m, n, D, Pl, hc, _, hl, hm, hmm, hx, hi⟩
  · exact ⟨none, 0, [], hc, SlA.nil w, (fun p h => by cases h), .inl rfl⟩
  · have hml : len ≤ m := by rw [hmm]; split <;> omega
    have hc4 : Try.prog.cellsOf 52 = 4 := by kernel_rfl
    have each : ∀ i, ∃ p : Part, i < len → (p.fits ∧ ∃ d0 d1 d2, D i = .agg [d0, d1, d2, .lit (.string p.text.data.toList)]) ∧ ∀ r, r < 4 → w.cell? (a.add (i * 4 + r)) = p.cells[r]? := by
      intro i
      by_cases hil : i < len
      · obtain ⟨cs', hcs, ht⟩ := hi i (by omega)
        obtain ⟨p, rfl, hf, hdd⟩ := part_of ht
        rw [hc4] at hcs
        obtain ⟨_, _, hat⟩ := World.cells?_some hcs
        refine ⟨p, fun _ => ⟨⟨hf, hdd⟩, fun r hr => ?_⟩⟩
        have := hat r hr
        rw [← this, Go.Deep.add_add]
      · exact ⟨⟨0, 0, 0, ByteArray.empty⟩, fun h => absurd h hil⟩
    let f : Nat → Part := fun i => Classical.choose (each i)
    have hf : ∀ i, i < len → ((f i).fits ∧ ∃ d0 d1 d2, D i = .agg [d0, d1, d2, .lit (.string (f i).text.data.toList)]) ∧ ∀ r, r < 4 → w.cell? (a.add (i * 4 + r)) = (f i).cells[r]? := fun i => Classical.choose_spec (each i)
    refine ⟨some a, cap, (List.range len).map f, by simpa using hc, ⟨by simpa using hl, hm, fun j u hj => ?_⟩, fun p hp => ?_, .inr ⟨_, _, by rw [hx], fun p hp => ?_⟩⟩
    · obtain ⟨i, r, p, rfl, hr, hip, hu⟩ := flat_parts _ j u hj
      have hil : i < len := by
        have := (List.getElem?_eq_some_iff.1 hip).1
        simpa using this
      have hpe : p = f i := by
        rw [List.getElem?_map, List.getElem?_range hil] at hip
        simpa using hip.symm
      have hcell := (hf i hil).2 r hr
      rw [← hpe, hu] at hcell
      have h00 := (hf 0 (by omega)).2 0 (by omega)
      have ha0 : a.add (0 * 4 + 0) = a := by simp [Addr.add]
      rw [ha0] at h00
      have hs := spot_none (v := .int .i64 (f 0).what) h00
      obtain ⟨b, o, sp⟩ := a
      simp only at hs
      subst hs
      refine ⟨b, o, rfl, ?_⟩
      rw [← hcell, Addr.add_lit]
    · obtain ⟨i, hi, rfl⟩ := List.mem_map.1 hp
      exact (hf i (by simpa using hi)).1.1
    · obtain ⟨i, hi, rfl⟩ := List.mem_map.1 hp
      obtain ⟨d0, d1, d2, hd⟩ := (hf i (by simpa using hi)).1.2
      exact ⟨d0, d1, d2, by rw [← hd]; exact List.mem_map.2 ⟨i, hi, rfl⟩⟩
end Go.Proofs.Ytoniebocphjmgaa
