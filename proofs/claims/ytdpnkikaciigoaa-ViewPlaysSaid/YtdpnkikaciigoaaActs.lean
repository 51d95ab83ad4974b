/-
  The acts of ViewPlays out of what the frame of a row hands over.
-/
import Derived.Test.YtdpnkikaciigoaaViewPlays
import Derived.Test.YtdpnkikaciigoaaFlat
namespace Go.Proofs.Ytdpnkikaciigoaa
open Go.RowKit Go.Proofs

theorem acts_of {L : List (List Value)} (f : ∀ c ∈ L, FitsAll [.int .i64, .int .i64, .bool] c) : ∃ l : List Act3, L = l.map Act3.cells := by
  obtain ⟨l, h, _⟩ := rows_map' (p := fun _ : Act3 => True) (f := Act3.cells) (fun c hc => by
    obtain ⟨_, _, rfl, ⟨a, rfl, -⟩, _, _, rfl, ⟨b, rfl, -⟩, _, _, rfl, ⟨k, rfl⟩, rfl⟩ := f c hc
    exact ⟨⟨a, b, k⟩, rfl, trivial⟩)
  exact ⟨l, h⟩
theorem flatten_acts (l : List Act3) : (l.map Act3.cells).flatten = l.flatMap Act3.cells := by rw [List.flatMap_def]
end Go.Proofs.Ytdpnkikaciigoaa
