/-
  Views in variables: rows that lie apart.
-/
import Derived.Test.YtelepohdfcjnfaaZViewOps
namespace Go.Proofs.Ytelepohdfcjnfaa
open Go.RowKit Go.Proofs

/-- a view's rows that hold something lie outside of S -/
def VwApart (S : Nat → Prop) (v : Vw) (y : VwP) : Prop := (v.act ≠ [] → ∀ q, y.aa = some q → ¬ S q.block) ∧ (v.pas ≠ [] → ∀ q, y.pa = some q → ¬ S q.block)
theorem SlA.keepNE {S : Nat → Prop} {w w' : World} {a : Option Addr} {n cap : Nat} {l : List Int} (h : SlA w a n cap (ints l)) (f : Fr S w w') (hS : l ≠ [] → ∀ p, a = some p → ¬ S p.block) : SlA w' a n cap (ints l) := by
  by_cases hl : l = []
  · subst hl
    exact ⟨h.le, h.max, fun j u hj => by simp at hj⟩
  · exact h.keep f (hS hl)
theorem VwAt.keepA {S : Nat → Prop} {w w' : World} {v : Vw} {y : VwP} (h : VwAt w v y) (f : Fr S w w') (a : VwApart S v y) : VwAt w' v y := ⟨h.act.keepNE f a.1, h.pas.keepNE f a.2, h.good⟩
theorem SlA.ltNE {w : World} {a : Option Addr} {n cap : Nat} {l : List Int} (h : SlA w a n cap (ints l)) (hl : l ≠ []) : ∀ q, a = some q → q.block < w.heap.size := by
  intro q hq
  obtain ⟨b, o, e, hlt⟩ := h.lt (by cases l with | nil => exact absurd rfl hl | cons x r => simp)
  rw [e] at hq
  cases hq
  exact hlt
theorem VwApart.new {S : Nat → Prop} {w : World} {v : Vw} {y : VwP} (h : VwAt w v y) (hS : ∀ k, S k → w.heap.size ≤ k) : VwApart S v y :=
  ⟨fun hl q hq hs => by have := h.act.ltNE hl q hq; have := hS _ hs; omega, fun hl q hq hs => by have := h.pas.ltNE hl q hq; have := hS _ hs; omega⟩
theorem VwApart.next {S : Nat → Prop} {w : World} {v v' : Vw} {y y' : VwP} (h : VwApart S v y) (k : VwFrom w v y v' y') (hS : ∀ k, S k → k < w.heap.size) : VwApart S v' y' :=
  ⟨fun hl q hq hs => by
    rcases k.1 q hq with h1 | h1
    · exact h.1 (by rw [← h1.2]; exact hl) q h1.1 hs
    · have := hS _ hs; omega, fun hl q hq hs => by
    rcases k.2 q hq with h1 | h1
    · exact h.2 (by rw [← h1.2]; exact hl) q h1.1 hs
    · have := hS _ hs; omega⟩
theorem VwApart.none (S : Nat → Prop) (v : Vw) : VwApart S v vwNone := by
  constructor <;> (intro _ q h; cases h)
theorem gr_of_pnone {w w' : World} (f : Fr (pblk (.pointer none)) w w') : Gr w w' := f.mono (fun k _ h => by unfold pblk at h; cases h)
end Go.Proofs.Ytelepohdfcjnfaa
