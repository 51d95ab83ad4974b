/-
  The statements' messages out of what the frame of a row hands over.
-/
import Derived.Test.YtkclgemkeifbaaaStrFrom
import Derived.Test.YtkclgemkeifbaaaFlat
namespace Go.Proofs.Ytkclgemkeifbaaa
open Go.RowKit Go.Proofs

theorem fits_smsg {c : List Value} (h : FitsAll [.int .i64, .int .i64, .str] c) : ∃ x : SMsg, c = x.cells ∧ x.fits := by
  obtain ⟨_, _, rfl, ⟨a, rfl, wa⟩, _, _, rfl, ⟨b, rfl, wb⟩, _, _, rfl, ⟨s, rfl, ws⟩, rfl⟩ := h
  refine ⟨⟨a, b, s⟩, rfl, by have := bounds_i64 wa; omega, by have := bounds_i64 wb; omega, ?_⟩
  unfold maxLen at ws
  simp only; omega
theorem smsgs_of {L : List (List Value)} (f : ∀ c ∈ L, FitsAll [.int .i64, .int .i64, .str] c) : ∃ l : List SMsg, L = l.map SMsg.cells ∧ ∀ x ∈ l, x.fits :=
  rows_map' (fun c hc => fits_smsg (f c hc))
theorem flatten_map {α : Type} (f : α → List Value) (l : List α) : (l.map f).flatten = l.flatMap f := by rw [List.flatMap_def]
end Go.Proofs.Ytkclgemkeifbaaa
