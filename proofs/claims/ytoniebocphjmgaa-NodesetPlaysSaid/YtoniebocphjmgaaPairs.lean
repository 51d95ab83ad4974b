/-
  A slice of pairs of numbers, as a row hands it over.
-/
import Derived.Test.YtoniebocphjmgaaFlat
import Derived.Test.YtoniebocphjmgaaNodesetPlays
namespace Go.Proofs.Ytoniebocphjmgaa
open Go.RowKit Go.Proofs

theorem fits_pair {c : List Value} (h : FitsAll [.int .i64, .int .i64] c) : ∃ p : Int × Int, c = [.int .i64 p.1, .int .i64 p.2] := by
  obtain ⟨v, vs, rfl, ⟨x, rfl, _⟩, v2, vs2, rfl, ⟨y, rfl, _⟩, h3⟩ := h
  have : vs2 = [] := h3
  subst this
  exact ⟨(x, y), rfl⟩

theorem pairs_list : ∀ (L : List (List Value)), (∀ c ∈ L, FitsAll [.int .i64, .int .i64] c) → ∃ l : List (Int × Int), L = l.map fun p => [.int .i64 p.1, .int .i64 p.2]
  | [], _ => ⟨[], rfl⟩
  | c :: r, h => by
    obtain ⟨p, rfl⟩ := fits_pair (h c (by simp))
    obtain ⟨l, rfl⟩ := pairs_list r (fun x hx => h x (by simp [hx]))
    exact ⟨p :: l, rfl⟩

theorem pairs_cell : ∀ (l : List (Int × Int)) (i : Nat) (p : Int × Int), l[i]? = some p →
    ((l.map fun p => [Value.int .i64 p.1, Value.int .i64 p.2]).flatten)[i * 2]? = some (.int .i64 p.1) ∧ ((l.map fun p => [Value.int .i64 p.1, Value.int .i64 p.2]).flatten)[i * 2 + 1]? = some (.int .i64 p.2)
  | [], i, p, h => by simp at h
  | q :: r, 0, p, h => by simp at h; subst h; simp
  | q :: r, i + 1, p, h => by
    have ih := pairs_cell r i p (by simpa using h)
    rw [List.map_cons, List.flatten_cons]
    have e1 : (i + 1) * 2 = i * 2 + 1 + 1 := by omega
    rw [e1]
    exact ⟨ih.1, ih.2⟩

theorem pairs_of {W : World} {a : Option Addr} {cap : Nat} {L : List (List Value)} (s : SlA W a L.length cap L.flatten) (f : ∀ c ∈ L, FitsAll [.int .i64, .int .i64] c) : ∃ l : List (Int × Int), L.length = l.length ∧ Pairs W a cap l := by
  obtain ⟨l, rfl⟩ := pairs_list L f
  refine ⟨l, by simp, by simpa using s.le, s.max, fun i p hp => ?_⟩
  obtain ⟨c1, c2⟩ := pairs_cell l i p hp
  obtain ⟨b, o, rfl, h1⟩ := s.cell _ _ c1
  obtain ⟨b', o', e, h2⟩ := s.cell _ _ c2
  cases e
  exact ⟨b, o, rfl, h1, by rw [Nat.add_assoc]; exact h2⟩
end Go.Proofs.Ytoniebocphjmgaa
