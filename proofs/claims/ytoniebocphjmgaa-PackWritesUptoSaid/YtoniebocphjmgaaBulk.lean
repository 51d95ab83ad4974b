/-
  What the bound of an Upto statement gives: a part's letters.
-/
import Derived.Test.YtoniebocphjmgaaRows
namespace Go.Proofs.Ytoniebocphjmgaa

theorem bulk_mem {H : Type} {d : DataW H} {l : List (DataW H)} (h : d ∈ l) : Rows.uptoBulk d ≤ Rows.uptoBulkAll l := by
  induction l with
  | nil => cases h
  | cons x r ih =>
    simp only [Rows.uptoBulkAll]
    cases List.mem_cons.1 h with
    | inl e => subst e; omega
    | inr e => have := ih e; omega
theorem bulk_app {H : Type} (l r : List (DataW H)) : Rows.uptoBulkAll (l ++ r) = Rows.uptoBulkAll l + Rows.uptoBulkAll r := by
  induction l with
  | nil => simp [Rows.uptoBulkAll]
  | cons x l ih => simp only [List.cons_append, Rows.uptoBulkAll, ih]; omega
theorem bulk_str {H : Type} (s : ByteArray) : Rows.uptoBulk (DataW.lit (H := H) (.string s.data.toList)) = s.size + 1 := by
  simp [Rows.uptoBulk]
theorem bulk_agg {H : Type} (l : List (DataW H)) : Rows.uptoBulk (.agg l) = Rows.uptoBulkAll l + 1 := by simp [Rows.uptoBulk]
theorem bulk_slice {H : Type} (l r : List (DataW H)) : Rows.uptoBulkAll l ≤ Rows.uptoBulk (.slice l r) := by simp only [Rows.uptoBulk]; omega
theorem bulk_of {H : Type} {l : List (DataW H)} (hk : Rows.uptoSmall H l = true) : Rows.uptoBulkAll l ≤ 1048576 := of_decide_eq_true hk

theorem bulk_text {H : Type} {d : DataW H} {ds elems spare : List (DataW H)} {e0 e1 e2 : DataW H} {s : ByteArray} (hk : Rows.uptoSmall H ds = true) (hd : d ∈ ds) (he : d = .slice elems spare) (hm : DataW.agg [e0, e1, e2, .lit (.string s.data.toList)] ∈ elems) : s.size ≤ 1048576 := by
  subst he
  have h1 := bulk_of hk
  have h2 := bulk_mem hd
  have h3 := bulk_slice elems spare
  have h4 := bulk_mem hm
  rw [bulk_agg] at h4
  have h5 := bulk_mem (show DataW.lit (H := H) (.string s.data.toList) ∈ [e0, e1, e2, DataW.lit (.string s.data.toList)] by simp)
  rw [bulk_str] at h5
  omega
end Go.Proofs.Ytoniebocphjmgaa
