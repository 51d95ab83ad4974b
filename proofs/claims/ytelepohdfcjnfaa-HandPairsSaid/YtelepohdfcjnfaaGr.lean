/-
  Memory that has grown: words for all seats.
-/
import Derived.Test.YtelepohdfcjnfaaBase
import Derived.Lib.Builder
namespace Go.Proofs.Ytelepohdfcjnfaa
open Go.RowKit Go.Proofs

abbrev Gr (w w' : World) : Prop := Fr (fun _ => False) w w'
theorem Gr.trans {a b c : World} (h : Gr a b) (k : Gr b c) : Gr a c := Fr.trans h k (fun _ h => h.elim)
theorem Gr.of_below {a b : World} (h : Below a.heap.size a b) : Gr a b := Fr.of_below h (fun k h1 h2 => absurd h2 (by omega))
theorem heap_alloc_if (w : World) (o : Obj) (k : Nat) : (w.alloc o).heap[k]? = if k = w.heap.size then some o else w.heap[k]? := by
  by_cases h : k = w.heap.size
  · subst h; rw [if_pos rfl]; exact by simp [World.alloc, -World.alloc_eq]
  · rw [if_neg h]
    rcases Nat.lt_or_ge k w.heap.size with h1 | h1
    · exact Lib.alloc_old w o k h1
    · rw [Array.getElem?_eq_none (by simp; omega), Array.getElem?_eq_none h1]
theorem SlA.old {S : Nat → Prop} {w w' : World} {a : Option Addr} {n cap : Nat} {cs : List Value} (h : SlA w a n cap cs) (f : Fr S w w') (hS : ∀ k, S k → w.heap.size ≤ k) : SlA w' a n cap cs :=
  ⟨h.le, h.max, fun j u hj => by
    obtain ⟨b, o, rfl, hc⟩ := h.cell j u hj
    exact ⟨b, o, rfl, f.cell hc (fun hs => by have := hS _ hs; have := lt_of_cell hc; simp only at *; omega)⟩⟩
/-- a block whose first cells read as cs -/
def Bx (w : World) (q : Nat) (cs : List Value) : Prop := ∀ j v, cs[j]? = some v → w.cell? ⟨q, j, none⟩ = some v
theorem Bx.keep {S : Nat → Prop} {w w' : World} {q : Nat} {cs : List Value} (a : Bx w q cs) (f : Fr S w w') (hq : ¬ S q) : Bx w' q cs := fun j v hv => f.cell (a j v hv) hq
theorem Bx.new (w : World) (cs : Array Value) (e : TypeId) : Bx (w.alloc (.cells cs e)) w.heap.size cs.toList := by
  intro j v hv
  rw [World.cell?_alloc_at _ _ _ _ rfl]
  simpa using hv
theorem Gr.bx {w w' : World} {cs : Array Value} {e : TypeId} (f : Gr (w.alloc (.cells cs e)) w') : Bx w' w.heap.size cs.toList := (Bx.new w cs e).keep f (fun h => h)

theorem flatMap_get {α : Type} (f : α → List Value) (n : Nat) (hn : ∀ x, (f x).length = n) (l : List α) (i j : Nat) (hi : i < l.length) (hj : j < n) : (l.flatMap f)[i * n + j]? = (f l[i])[j]? := by
  induction l generalizing i with
  | nil => simp at hi
  | cons x r ih =>
    rw [List.flatMap_cons]
    cases i with
    | zero => rw [List.getElem?_append_left (by rw [hn]; omega)]; simp
    | succ i =>
      rw [List.getElem?_append_right (by rw [hn, Nat.add_mul]; omega), hn]
      rw [show (i + 1) * n + j - n = i * n + j by rw [Nat.add_mul]; omega]
      simpa using ih i (by simpa using hi)
theorem SlA.elem {α : Type} {f : α → List Value} {n : Nat} (hn : ∀ x, (f x).length = n) (h0 : 0 < n) {w : World} {a : Option Addr} {cap : Nat} {l : List α} (h : SlA w a l.length cap (l.flatMap f)) (i : Nat) (hi : i < l.length) :
    ∃ b o, a = some ⟨b, o, none⟩ ∧ ∀ j v, (f l[i])[j]? = some v → w.cell? ⟨b, o + i * n + j, none⟩ = some v := by
  have h1 := flatMap_get f n hn l i 0 hi h0
  obtain ⟨b, o, rfl, _⟩ := h.cell (i * n + 0) ((f l[i])[0]'(by rw [hn]; exact h0)) (by rw [h1]; exact List.getElem?_eq_getElem _)
  refine ⟨b, o, rfl, fun j v hv => ?_⟩
  have hj : j < n := by rw [← hn l[i]]; exact (List.getElem?_eq_some_iff.1 hv).1
  obtain ⟨b', o', e, hc⟩ := h.cell (i * n + j) v (by rw [flatMap_get f n hn l i j hi hj]; exact hv)
  cases e
  rw [Nat.add_assoc]; exact hc

theorem SlA.at1 {α : Type} {f : α → Value} {w : World} {a : Option Addr} {n cap : Nat} {l : List α} (h : SlA w a n cap (l.map f)) (k : Nat) (hk : k < l.length) :
    ∃ b o, a = some ⟨b, o, none⟩ ∧ w.cell? ⟨b, o + k, none⟩ = some (f l[k]) :=
  h.cell k (f l[k]) (by rw [List.getElem?_map, List.getElem?_eq_getElem hk]; rfl)

end Go.Proofs.Ytelepohdfcjnfaa
