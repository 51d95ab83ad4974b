/-
  The acts of HandPlays out of what the frame of a row hands over.
-/
import Derived.Test.YtdpnkikaciigoaaHandPlays
import Derived.Test.YtdpnkikaciigoaaFlat
namespace Go.Proofs.Ytdpnkikaciigoaa
open Go.RowKit Go.Proofs

theorem hacts_of {L : List (List Value)} (f : ∀ c ∈ L, FitsAll [.int .i64, .int .i64, .bool] c) : ∃ l : List HAct, L = l.map HAct.cells := by
  obtain ⟨l, h, _⟩ := rows_map' (p := fun _ : HAct => True) (f := HAct.cells) (fun c hc => by
    obtain ⟨_, _, rfl, ⟨a, rfl, -⟩, _, _, rfl, ⟨b, rfl, -⟩, _, _, rfl, ⟨k, rfl⟩, rfl⟩ := f c hc
    exact ⟨⟨a, b, k⟩, rfl, trivial⟩)
  exact ⟨l, h⟩
theorem flatten_hacts (l : List HAct) : (l.map HAct.cells).flatten = l.flatMap HAct.cells := by rw [List.flatMap_def]
end Go.Proofs.Ytdpnkikaciigoaa
