/-
  A block that is known whole: read and written whole.
-/
import Derived.Test.YtelepohdfcjnfaaGr
import Derived.Deep.MidRow
namespace Go.Proofs.Ytelepohdfcjnfaa
open Go.RowKit Go.Proofs

theorem heap_setCells (b : Nat) : ∀ (vs : List Value) (o : Nat) (w : World) (c : Array Value) (e : TypeId) (fz : Nat × Nat), w.heap[b]? = some (.cells c e fz) → o + vs.length ≤ c.size →
    ∃ c', (w.setCells b o vs).heap[b]? = some (.cells c' e fz) ∧ c'.size = c.size ∧ (∀ j, j < o → c'[j]? = c[j]?) ∧ (∀ j u, vs[j]? = some u → c'[o + j]? = some u) ∧ (∀ j, o + vs.length ≤ j → c'[j]? = c[j]?)
  | [], o, w, c, e, fz, h, _ => ⟨c, h, rfl, fun _ _ => rfl, fun j u hj => by simp at hj, fun _ _ => rfl⟩
  | v :: r, o, w, c, e, fz, h, hs => by
    have h1 : (w.setCell ⟨b, o, none⟩ v).heap[b]? = some (.cells (c.setIfInBounds o v) e fz) := by
      simp [World.setCell, Array.getElem?_modify, h]
    simp only [List.length_cons] at hs
    obtain ⟨c', g1, g2, g3, g4, g5⟩ := heap_setCells b r (o + 1) (w.setCell ⟨b, o, none⟩ v) (c.setIfInBounds o v) e fz h1 (by simp; omega)
    refine ⟨c', g1, by simpa using g2, fun j hj => ?_, fun j u hj => ?_, fun j hj => ?_⟩
    · rw [g3 j (by omega), Array.getElem?_setIfInBounds_ne (by omega)]
    · cases j with
      | zero =>
        simp at hj
        subst hj
        rw [g3 (o + 0) (by omega)]
        simp [show o < c.size by omega]
      | succ j => rw [show o + (j + 1) = o + 1 + j by omega]; exact g4 j u (by simpa using hj)
    · simp only [List.length_cons] at hj
      rw [g5 j (by omega), Array.getElem?_setIfInBounds_ne (by omega)]
theorem fr_setCells (b : Nat) : ∀ (vs : List Value) (o : Nat) (w : World), Fr (· = b) w (w.setCells b o vs)
  | [], _, w => Fr.refl _ w
  | v :: r, o, w => ((Fr.refl (· = b) w).setCell (p := ⟨b, o, none⟩) (.inl rfl) v).trans (fr_setCells b r (o + 1) _) (fun _ h => .inl h)
theorem blk_all {w : World} {b : Nat} {c : Array Value} {e : TypeId} {fz : Nat × Nat} (h : w.heap[b]? = some (.cells c e fz)) (vs : Array Value) (hl : vs.size = c.size) : (w.setCells b 0 vs.toList).heap[b]? = some (.cells vs e fz) := by
  obtain ⟨c', g1, g2, _, g4, _⟩ := heap_setCells b vs.toList 0 w c e fz h (by simp; omega)
  rw [g1]
  congr 2
  apply Array.ext
  · omega
  · intro i h1 h2
    have := g4 i vs[i] (by simp [h2])
    rw [Nat.zero_add] at this
    rw [Array.getElem?_eq_getElem h1] at this
    simpa using this
theorem blk_there {w : World} {b : Nat} {c : Array Value} {e : TypeId} (h : w.heap[b]? = some (.cells c e (0, 0))) (n : Nat) (hn : n ≤ c.size) : w.there b 0 n := by
  intro j hj
  rw [Nat.zero_add]
  refine ⟨?_, Lib.frozen_of_heap h j⟩
  rw [Lib.cell_of_heap h, Array.getElem?_eq_getElem (by omega)]
  rfl
theorem blk_range {w : World} {b : Nat} {c : Array Value} {e : TypeId} {fz : Nat × Nat} (h : w.heap[b]? = some (.cells c e fz)) : w.rangeAt b 0 c.toList := by
  intro j v hj
  rw [Nat.zero_add, Lib.cell_of_heap h]
  simpa using hj
end Go.Proofs.Ytelepohdfcjnfaa
