/-
  The choices of HandPairs out of what the frame of a row hands over.
-/
import Derived.Test.YtelepohdfcjnfaaHandPairs
import Derived.Test.YtelepohdfcjnfaaFlat
namespace Go.Proofs.Ytelepohdfcjnfaa
open Go.RowKit Go.Proofs

theorem lchs_of {L : List (List Value)} (f : ∀ c ∈ L, FitsAll [.int .u8, .int .u8, .int .u8, .bool] c) : ∃ l : List LCh, L = l.map LCh.cells ∧ ∀ x ∈ l, x.Ok := by
  refine rows_map' (p := fun x : LCh => x.Ok) (f := LCh.cells) (fun c hc => ?_)
  obtain ⟨_, _, rfl, ⟨a, rfl, wa⟩, _, _, rfl, ⟨b, rfl, wb⟩, _, _, rfl, ⟨d, rfl, wd⟩, _, _, rfl, ⟨k, rfl⟩, rfl⟩ := f c hc
  exact ⟨⟨a, b, d, k⟩, rfl, by have := bounds_u8 wa; simp only; omega, by have := bounds_u8 wb; simp only; omega, by have := bounds_u8 wd; simp only; omega⟩
theorem flatten_lchs (l : List LCh) : (l.map LCh.cells).flatten = l.flatMap LCh.cells := by rw [List.flatMap_def]
end Go.Proofs.Ytelepohdfcjnfaa
