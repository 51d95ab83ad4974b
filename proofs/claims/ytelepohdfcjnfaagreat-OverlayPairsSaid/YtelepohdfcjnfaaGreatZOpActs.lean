/-
  The choices of OverlayPairs out of what the frame of a row hands over.
-/
import Derived.Test.YtelepohdfcjnfaaGreatZOverlayPairs
import Derived.Test.YtelepohdfcjnfaaGreatZFlat
namespace Go.Proofs.YtelepohdfcjnfaaGreat
open Go.RowKit Go.Proofs

theorem ochs_of {L : List (List Value)} (f : ∀ c ∈ L, FitsAll [.int .u8, .int .u8, .int .u8] c) : ∃ l : List OCh, L = l.map OCh.cells ∧ ∀ x ∈ l, x.Ok := by
  refine rows_map' (p := fun x : OCh => x.Ok) (f := OCh.cells) (fun c hc => ?_)
  obtain ⟨_, _, rfl, ⟨a, rfl, wa⟩, _, _, rfl, ⟨b, rfl, wb⟩, _, _, rfl, ⟨d, rfl, wd⟩, rfl⟩ := f c hc
  exact ⟨⟨a, b, d⟩, rfl, by have := bounds_u8 wa; simp only; omega, by have := bounds_u8 wb; simp only; omega, by have := bounds_u8 wd; simp only; omega⟩
theorem flatten_ochs (l : List OCh) : (l.map OCh.cells).flatten = l.flatMap OCh.cells := by rw [List.flatMap_def]
end Go.Proofs.YtelepohdfcjnfaaGreat
