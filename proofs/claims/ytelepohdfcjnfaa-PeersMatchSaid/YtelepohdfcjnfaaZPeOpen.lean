/-
  The pairs of numbers of the statements on peers, out of what the frame of a row hands over.
-/
import Derived.Test.YtelepohdfcjnfaaZPeLaw
import Derived.Test.YtelepohdfcjnfaaZFlat
namespace Go.Proofs.Ytelepohdfcjnfaa
open Go.RowKit Go.Proofs

theorem pc2_of {L : List (List Value)} (f : ∀ c ∈ L, FitsAll [.int .i64, .int .i64] c) : ∃ l : List (Int × Int), L = l.map pc2 := by
  obtain ⟨l, h, _⟩ := rows_map' (p := fun _ : Int × Int => True) (f := pc2) (fun c hc => by
    obtain ⟨_, _, rfl, ⟨a, rfl, -⟩, _, _, rfl, ⟨b, rfl, -⟩, rfl⟩ := f c hc
    exact ⟨(a, b), rfl, trivial⟩)
  exact ⟨l, h⟩
theorem flatten_pc2 (l : List (Int × Int)) : (l.map pc2).flatten = l.flatMap pc2 := by rw [List.flatMap_def]
end Go.Proofs.Ytelepohdfcjnfaa
