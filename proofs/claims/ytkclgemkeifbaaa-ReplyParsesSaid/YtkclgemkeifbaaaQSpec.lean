/-
  What any bytes are as a query, in plain Lean.
-/
import Derived.Test.YtkclgemkeifbaaaQry
import Derived.Test.YtkclgemkeifbaaaBlk
namespace Go.Proofs.Ytkclgemkeifbaaa
open Go.RowKit Go.Proofs

/-- what any bytes are as a query: the head, the question, the code, the error -/
def qOut (s : List UInt8) : Hd × Option (List Lbl × Int × Int) × Int × Int :=
  if s.length < 12 then (hdZero, none, 0, 2) else
  if (hdRead s).resp = true then (hdZero, none, 0, 8) else
  if (hdRead s).op ≠ 0 then (hdRead s, none, 4, 0) else
  match qQuest s with
  | none => (hdRead s, none, 1, 0)
  | some (l, t, c) => (hdRead s, some (l, t, c), if (t = 1 ∨ t = 33) ∧ c = 1 then 0 else 4, 0)
theorem gr_of_new {W w : World} (f : Fr (fun k => W.heap.size ≤ k) W w) : Gr W w := f.mono (fun k hk h => by omega)
theorem new_of_gr {W w : World} (f : Gr W w) : Fr (fun k => W.heap.size ≤ k) W w := Fr.mono (S := fun _ => False) f (fun _ _ h => h.elim)
/-- strings are kept where a block of no strings is written -/
theorem sla_str {w w' : World} {a : Option Addr} {n cap b : Nat} {l : List Lbl} {vs : Array Value} {e : TypeId} {fz : Nat × Nat} (h : SlA w a n cap (strVs l)) (f : Fr (fun k => k = b) w w') (hb : w.heap[b]? = some (.cells vs e fz)) (hv : ∀ (i : Nat) (x : ByteArray), vs[i]? ≠ some (Value.string x)) : SlA w' a n cap (strVs l) :=
  ⟨h.le, h.max, fun j u hj => by
    obtain ⟨bb, o, rfl, hc⟩ := h.cell j u hj
    refine ⟨bb, o, rfl, f.cell hc ?_⟩
    intro hk
    simp only at hk
    subst hk
    rw [Lib.cell_of_heap hb] at hc
    rw [List.getElem?_map] at hj
    obtain ⟨x, _, rfl⟩ := Option.map_eq_some_iff.1 hj
    exact hv _ _ hc⟩
end Go.Proofs.Ytkclgemkeifbaaa
