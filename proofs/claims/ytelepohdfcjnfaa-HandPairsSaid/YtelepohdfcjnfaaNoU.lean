/-
  Rows of u32 and blocks without any.
-/
import Derived.Test.YtelepohdfcjnfaaDrawV
import Derived.Test.YtelepohdfcjnfaaGr
namespace Go.Proofs.Ytelepohdfcjnfaa
open Go.RowKit Go.Proofs

def NoU32 (cs : Array Value) : Prop := ∀ (i : Nat) (x : Int), cs[i]? ≠ some (.int .u32 x)
theorem dr_keep {w w' : World} {b : Nat} {n dc : Nat} {da : Option Addr} {ds : List Int} {cs : Array Value} {T : TypeId} {fz : Nat × Nat} (h : SlA w da n dc (ds.map (Value.int .u32))) (f : Fr (fun k => k = b) w w') (hb : w.heap[b]? = some (.cells cs T fz)) (hcs : NoU32 cs) : SlA w' da n dc (ds.map (Value.int .u32)) :=
  ⟨h.le, h.max, fun j u hj => by
    obtain ⟨b', o, e, hc⟩ := h.cell j u hj
    refine ⟨b', o, e, f.cell hc ?_⟩
    intro e2
    simp only at e2
    subst e2
    obtain ⟨x, _, rfl⟩ := List.mem_map.1 (List.mem_of_getElem? hj)
    rw [Lib.cell_of_heap hb] at hc
    exact hcs _ _ hc⟩
end Go.Proofs.Ytelepohdfcjnfaa
