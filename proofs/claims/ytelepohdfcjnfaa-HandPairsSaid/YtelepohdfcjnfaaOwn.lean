/-
  Words on rows that a call owns: written in place, cut shorter; slices.Delete of one element in such a row.
-/
import Derived.Test.YtelepohdfcjnfaaBlk
import Derived.Test.YtelepohdfcjnfaaShelfA
namespace Go.Proofs.Ytelepohdfcjnfaa
open Go.RowKit Go.Proofs Go.Sort

/-- a row that is owned, its first cells written anew, then cut to m elements of one cell -/
theorem own_rewrite {w : World} {base : Nat} {e : TypeId} {g n cap m : Nat} {cs vs : List Value} (h : w.ownsRow base e 1 (.slice (some ⟨g, 0, none⟩) n cap) n cs) (hv : vs.length = n) (hm : m ≤ n) (q : Nat) :
    ((w.drewN q).setCells g 0 vs).ownsRow base e 1 (.slice (some ⟨g, 0, none⟩) m cap) m (vs.take m) ∧ Fr (· = g) w ((w.drewN q).setCells g 0 vs) := by
  obtain ⟨hl, h' | ⟨g', cap', cur, hv', hb, hh, hn, hc, hs, ht⟩⟩ := h
  · simp at h'
  · simp only [Value.slice.injEq, Option.some.injEq, Addr.mk.injEq, and_true, true_and] at hv'
    obtain ⟨rfl, rfl⟩ := hv'
    obtain ⟨c', g1, g2, g3, g4, g5⟩ := heap_setCells g vs 0 (w.drewN q) cur e (0, 0) hh (by omega)
    refine ⟨⟨by simp; omega, .inr ⟨g, cap, c', rfl, hb, g1, by omega, hc, by omega, ?_⟩⟩, (Fr.undrewN (n := q) (fr_setCells g vs 0 (w.drewN q)))⟩
    apply List.ext_getElem?
    intro j
    rw [List.getElem?_take, List.getElem?_take]
    by_cases hj : j < m
    · rw [if_pos (by omega), if_pos hj]
      have h1 := g4 j vs[j] (by rw [List.getElem?_eq_getElem (by omega)])
      rw [Nat.zero_add] at h1
      rw [List.getElem?_eq_getElem (show j < vs.length by omega), ← h1]
      simp
    · rw [if_neg (by omega), if_neg hj]

theorem take_erase {α : Type} (l : List α) (i : Nat) (z : α) (hi : i < l.length) : (l.take i ++ l.drop (i + 1) ++ List.replicate (i + 1 - i) z).take (l.length - 1) = l.eraseIdx i := by
  rw [List.eraseIdx_eq_take_drop_succ]
  rw [List.take_append_of_le_length (by simp; omega)]
  rw [List.take_of_length_le (by simp; omega)]

/-- slices.Delete(s, i, i+1) at []int, s the call's own -/
theorem delete_int (base g cap i : Nat) (l : List Int) (w : World) (h : w.ownsRow base 3 1 (.slice (some ⟨g, 0, none⟩) l.length cap) l.length (l.map (Value.int .i64))) (hi : i < l.length) :
    Calls Try.prog 76 #[.slice (some ⟨g, 0, none⟩) l.length cap, .int .i64 i, .int .i64 ((i : Int) + 1)] w fun e w' => e = .returned (.slice (some ⟨g, 0, none⟩) (l.length - 1) cap) ∧
      w'.ownsRow base 3 1 (.slice (some ⟨g, 0, none⟩) (l.length - 1) cap) (l.eraseIdx i).length ((l.eraseIdx i).map (Value.int .i64)) ∧ Fr (· = g) w w' := by
  have hcell : ∀ j, j < l.length → w.cell? ⟨g, 0 + j, none⟩ = some (.int .i64 (l.getD j 0)) := fun j hj => by
    have := h.cellAt j (by omega)
    rw [Nat.zero_add, this]
    simp [List.getD, hj]
  have hle := (SlA.of_own h)
  obtain ⟨a, c, hv, hs, _⟩ := hle
  simp only [Value.slice.injEq, true_and] at hv
  obtain ⟨rfl, rfl⟩ := hv
  refine (Try.slices_Delete_int_cells g 0 l.length cap i (i + 1) l w (Nat.le_refl _) hs.le hs.max (by omega) (by omega) hcell (fun j hj => by rw [Nat.zero_add]; exact h.frozenAt j)).mono ?_
  rintro e w' ⟨rfl, q, rfl⟩
  have hlen : (l.eraseIdx i).length = l.length - 1 := by rw [List.length_eraseIdx, if_pos hi]
  obtain ⟨h1, h2⟩ := own_rewrite h (vs := (((l.take l.length).take i ++ (l.take l.length).drop (i + 1) ++ List.replicate (i + 1 - i) 0).map (Value.int .i64))) (m := l.length - 1) (by simp; omega) (by omega) q
  refine ⟨by rw [show l.length - (i + 1 - i) = l.length - 1 by omega], ?_, h2⟩
  rw [hlen]
  rw [← List.map_take, List.take_length, take_erase l i 0 hi] at h1
  simp only [List.take_length]
  exact h1

end Go.Proofs.Ytelepohdfcjnfaa
